/- Walks: graph's Degree; plain: no register is apart from itself. No condition. -/
import Derived.Test.YtegnaeinpacafaaGr5
namespace Go.Proofs.Ytegnaeinpacafaa
open Go.RowKit
set_option linter.unusedVariables false
set_option maxHeartbeats 4000000
theorem insEk_self (k : Nat) (S : Nat → Bool) (x : InsD) (E : Nat → Nat → Bool) (a : Nat) (h : E a a = false) : insEk k S x E a a = false := by
  unfold insEk evB
  rw [h]
  by_cases e : x.dst = (a : Int)
  · rw [decide_eq_true e]; simp
  · rw [decide_eq_false e]; simp
theorem bsE_self (R : Nat) (S : Nat → Bool) (E : Nat → Nat → Bool) (a : Nat) (h : E a a = false) : ∀ xs, bsE R S E xs a a = false
  | [] => h
  | x :: xs => insEk_self R _ x _ a (bsE_self R S E a h xs)
theorem blE_self (R : Nat) (blk : Nat → BlockD) (O : Nat → Nat → Bool) (a : Nat) : ∀ i, blE R blk O i a a = false
  | 0 => rfl
  | i + 1 => bsE_self R _ _ a (blE_self R blk O a i) _
theorem cnt_congr {p q : Nat → Bool} : ∀ n, (∀ i, i < n → p i = q i) → cnt p n = cnt q n
  | 0, _ => rfl
  | n + 1, h => by unfold cnt; rw [cnt_congr n (fun i hi => h i (by omega)), h n (by omega)]
theorem cnt_no {p : Nat → Bool} {n : Nat} (h : p n = false) : cnt p (n + 1) = cnt p n := by show cnt p n + _ = _; rw [h]; rfl
theorem cnt_yes {p : Nat → Bool} {n : Nat} (h : p n = true) : cnt p (n + 1) = cnt p n + 1 := by show cnt p n + _ = _; rw [h]; rfl
def degB (E : Nat → Nat → Bool) (T : Nat → Bool) (r k : Nat) : Bool := !decide (k = r) && T k && E r k
section
variable {w : World} {B L0 L1 gb R : Nat} {av cv mv uv : Value} {vs : List Value} {E : Nat → Nat → Bool} {M : Nat → Bool} {us : List Int} {cp : List (Int × Int)}
set_option maxRecDepth 100000 in
theorem degree_any (h : GrR w B L0 L1 gb R av cv mv uv vs E M us cp) (hR : R ≤ 1000000) (r : Nat) (hr : r < R) (base : Nat) (tv : Value) (T : Nat → Bool) (ht : SetB w base tv R T) :
    Calls Try.prog 35 #[.pointer (some ⟨gb, 0, none⟩), .int .i64 (r : Nat), tv] w fun e w' => e = .returned (.int .i64 (cnt (degB E T r) R : Nat)) ∧ w = w' := by
  have H := Lib.hid h
  have HT := Lib.hid ht
  obtain ⟨g, cap, rfl⟩ := h.formA (by omega)
  obtain ⟨va, e1, e2⟩ := h.at_ hr
  have HE := Lib.hid e2
  have c0 : w.cell? ⟨gb, 0, none⟩ = some (.slice (some ⟨g, 0, none⟩) R cap) := blk_cell h.blk rfl
  have c1 := h.cellA hr e1
  have l0 := blk_lt h.blk
  have l1 := World.block_lt_of_cell? _ _ c1
  clear h ht e1 e2
  go_enter Try.func35, Try.ntmps35
  go_wp2_with fail
  go_loop [14, 7] (fun i n => ∃ k : Nat, k ≤ R ∧ i = .int .i64 k ∧ n = .int .i64 (cnt (degB E T r) k : Nat)) (fun i _ => R - (intOf i).toNat)
  case atStart => exact ⟨0, by omega, rfl, rfl⟩
  case round =>
    obtain ⟨k, hk, rfl, rfl⟩ := hrel
    have hck := cnt_le (degB E T r) k
    by_cases hlt : k < R
    · have HA := Lib.hid (has_b w k HT.out hR hlt)
      have HB := Lib.hid (has_b w k HE.out hR hlt)
      obtain ⟨c, hc⟩ : ∃ z, z = cnt (degB E T r) k := ⟨_, rfl⟩
      rw [← hc] at hck ⊢
      have HC := Lib.hid hc
      clear hc
      by_cases hkr : k = r
      · have b1 : ((k : Int) != (r : Int)) = false := by simp [hkr]
        have HN := Lib.hid (cnt_no (p := degB E T r) (n := k) (by unfold degB; rw [decide_eq_true hkr]; rfl))
        clear hkr
        go_wp2_with fail
        go_round
        case rel => exact ⟨k + 1, by omega, by go_num, by rw [HN.out, HC.out]⟩
        case measure => first | omega | (simp [intOf]; done) | (simp [intOf]; omega)
      · have b1 : ((k : Int) != (r : Int)) = true := by simp; omega
        obtain ⟨tk, htk⟩ : ∃ z, z = T k := ⟨_, rfl⟩
        obtain ⟨ek, hek⟩ : ∃ z, z = E r k := ⟨_, rfl⟩
        have HN := Lib.hid (fun (h : (tk && ek) = false) => cnt_no (p := degB E T r) (n := k) (by unfold degB; rw [← htk, ← hek, Bool.and_assoc, h]; simp))
        have HY := Lib.hid (fun (h : (tk && ek) = true) => cnt_yes (p := degB E T r) (n := k) (by unfold degB; rw [← htk, ← hek, Bool.and_assoc, h, decide_eq_false hkr]; rfl))
        rw [← htk] at HA
        rw [← hek] at HB
        clear hkr htk hek
        cases tk
        · go_wp2_with fail
          refine HA.out.mono ?_
          rintro e w7 ⟨rfl, rfl⟩
          go_wp2_with fail
          go_round
          case rel => exact ⟨k + 1, by omega, by go_num, by rw [HN.out rfl, HC.out]⟩
          case measure => first | omega | (simp [intOf]; done) | (simp [intOf]; omega)
        · cases ek
          · go_wp2_with fail
            refine HA.out.mono ?_
            rintro e w7 ⟨rfl, rfl⟩
            go_wp2_with fail
            refine HB.out.mono ?_
            rintro e w7 ⟨rfl, rfl⟩
            go_wp2_with fail
            go_round
            case rel => exact ⟨k + 1, by omega, by go_num, by rw [HN.out rfl, HC.out]⟩
            case measure => first | omega | (simp [intOf]; done) | (simp [intOf]; omega)
          · go_wp2_with fail
            refine HA.out.mono ?_
            rintro e w7 ⟨rfl, rfl⟩
            go_wp2_with fail
            refine HB.out.mono ?_
            rintro e w7 ⟨rfl, rfl⟩
            go_wp2_with fail
            go_round
            case rel => exact ⟨k + 1, by omega, by go_num, by rw [HY.out rfl, ← HC.out]; simp⟩
            case measure => first | omega | (simp [intOf]; done) | (simp [intOf]; omega)
    · have e : R = k := by omega
      subst e
      go_wp2_with fail
      go_returns
      exact ⟨rfl, rfl⟩
end
end Go.Proofs.Ytegnaeinpacafaa
