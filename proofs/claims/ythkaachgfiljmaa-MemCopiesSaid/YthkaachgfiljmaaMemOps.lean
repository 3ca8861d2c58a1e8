/- Walks: Has, Load, Store of the machine's memory. No condition. -/
import Derived.Test.YthkaachgfiljmaaPut
import Derived.Test.YthkaachgfiljmaaLdst
namespace Go.Proofs.Ythkaachgfiljmaa
open Go.RowKit
set_option linter.unusedVariables false
set_option maxHeartbeats 1000000
theorem has_any (w : World) (b : Nat) (size : Int) (f : Int → Int) (S : Nat → Prop) (at_ n : Int) (h : Mem w b size f S) (hz : 0 ≤ size ∧ size ≤ 65536) (ha : InU64 at_) (hn : In64 n) :
    Calls Try.prog 10 #[.pointer (some ⟨b, 0, none⟩), .int .u64 at_, .int .i64 n] w fun e w' => e = .returned (.bool (hasS size at_ n)) ∧ w = w' := by
  obtain ⟨mp, es, clock, l, g, hb, _⟩ := h
  have c1 : w.cell? ⟨b, 0, none⟩ = some (.int .u64 size) := blk_cell hb rfl
  clear hb
  obtain ⟨h1, h2⟩ := ha
  obtain ⟨h3, h4⟩ := hn
  by_cases hn0 : n < 0
  · go_enter Try.func10, Try.ntmps10
    go_wp2
    all_goals go_returns
    all_goals exact ⟨ret_bool (by unfold hasS; symm; apply decide_eq_false; omega), rfl⟩
  · by_cases hn8 : 8 < n
    · go_enter Try.func10, Try.ntmps10
      go_wp2
      all_goals go_returns
      all_goals exact ⟨ret_bool (by unfold hasS; symm; apply decide_eq_false; omega), rfl⟩
    · go_enter Try.func10, Try.ntmps10
      go_wp2
      all_goals go_returns
      all_goals refine ⟨ret_bool ?_, rfl⟩
      all_goals unfold hasS
      all_goals first | (symm; apply decide_eq_true; omega) | (symm; apply decide_eq_false; omega) | (apply decide_eq_decide.2; omega)
theorem has_nil (w : World) (at_ n : Int) :
    Calls Try.prog 10 #[.pointer none, .int .u64 at_, .int .i64 n] w fun e w' => e = .returned (.bool false) ∧ w = w' := by
  go_enter Try.func10, Try.ntmps10
  go_wp2
  all_goals go_returns
  all_goals exact ⟨rfl, rfl⟩
theorem mem_byte {w : World} {b : Nat} {size : Int} {f : Int → Int} {S : Nat → Prop} (h : Mem w b size f S) (x : Int) : 0 ≤ f x ∧ f x ≤ 255 := by
  obtain ⟨mp, es, clock, l, g, hb, hm, he, hp, hn, sb, sm, sp, hs, hf, ht⟩ := h
  rw [hf x]
  unfold byteOf
  cases hfi : l.find? (fun p => p.1 == x / 4096) with
  | none => simp
  | some p =>
    obtain ⟨cs, _, _, hj⟩ := hp p (List.mem_of_find?_eq_some hfi)
    exact (hj _ (by omega)).2
/-- what Load answers -/
def loadS (size : Int) (f : Int → Int) (at_ n : Int) : Int × Bool := if hasS size at_ n then (ldV f at_ n.toNat, true) else (0, false)
theorem load_any (w : World) (b : Nat) (size : Int) (f : Int → Int) (S : Nat → Prop) (at_ n : Int) (h : Mem w b size f S) (hz : 0 ≤ size ∧ size ≤ 65536) (ha : InU64 at_) (hn : In64 n) :
    Calls Try.prog 9 #[.pointer (some ⟨b, 0, none⟩), .int .u64 at_, .int .i64 n] w
      fun e w' => e = .returned (.tuple #[.int .u64 (loadS size f at_ n).1, .bool (loadS size f at_ n).2]) ∧ w = w' := by
  have HH := Lib.hid (has_any w b size f S at_ n h hz ha hn)
  unfold loadS
  cases hh : hasS size at_ n with
  | false =>
    rw [hh] at HH
    simp only [Bool.false_eq_true, if_false]
    clear h ha hn hz
    go_enter Try.func9, Try.ntmps9
    go_wp2_with fail
    refine HH.out.mono ?_
    rintro e w1 ⟨rfl, rfl⟩
    go_wp2_with fail
    go_returns
    exact ⟨rfl, rfl⟩
  | true =>
    rw [hh] at HH
    simp only [if_true]
    have hb := mem_byte h
    have hg := Lib.hid (fun x hx => get_any w b size f S x h hx)
    have hst := Lib.hid (fun k hk => ld_step f at_ hb k hk)
    have hin := Lib.hid (fun k => ldV_in f at_ hb k)
    have HB := Lib.hid hb
    unfold hasS at hh
    have hh2 := of_decide_eq_true hh
    clear hh hb
    obtain ⟨k0, hk0⟩ : ∃ k0 : Nat, n = k0 := ⟨n.toNat, by omega⟩
    subst hk0
    obtain ⟨_, hn8, hor⟩ := hh2
    have hat : 65536 ≤ at_ ∧ at_ + k0 ≤ 134217728 := by omega
    obtain ⟨hat1, hat2⟩ := hat
    clear h ha hn hor hz
    go_enter Try.func9, Try.ntmps9
    go_wp2_with fail
    refine HH.out.mono ?_
    rintro e w1 ⟨rfl, rfl⟩
    go_wp2_with fail
    go_loop [8, 16] (fun v i => ∃ k : Nat, k ≤ k0 ∧ i = .int .i64 k ∧ v = .int .u64 (ldV f at_ k)) (fun _ i => k0 - (intOf i).toNat)
    case atStart => exact ⟨0, by omega, rfl, rfl⟩
    case round =>
      obtain ⟨k, hk, rfl, rfl⟩ := hrel
      by_cases hlt : k < k0
      · obtain ⟨hv1, hv2⟩ := hin.out k
        have hs2 := Lib.hid (hst.out k (by omega))
        obtain ⟨hc1, hc2⟩ := HB.out (at_ + k)
        have hG := Lib.hid (hg.out (at_ + k) ⟨by omega, by omega⟩)
        generalize hc : f (at_ + k) = c at *
        clear hc hv2
        go_wp2_with fail
        refine hG.out.mono ?_
        rintro e w2 ⟨rfl, rfl⟩
        go_wp2_with fail
        go_round
        case rel => exact ⟨k + 1, by omega, by go_num, by rw [← hs2.out]⟩
        case measure => simp [intOf]; omega
      · have e : k = k0 := by omega
        subst e
        go_wp2_with fail
        go_returns
        exact ⟨by simp, rfl⟩
theorem load_nil (w : World) (at_ n : Int) :
    Calls Try.prog 9 #[.pointer none, .int .u64 at_, .int .i64 n] w fun e w' => e = .returned (.tuple #[.int .u64 0, .bool false]) ∧ w = w' := by
  have HH := Lib.hid (has_nil w at_ n)
  go_enter Try.func9, Try.ntmps9
  go_wp2_with fail
  refine HH.out.mono ?_
  rintro e w1 ⟨rfl, rfl⟩
  go_wp2_with fail
  go_returns
  exact ⟨rfl, rfl⟩
theorem store_nil (w : World) (at_ n v : Int) :
    Calls Try.prog 8 #[.pointer none, .int .u64 at_, .int .i64 n, .int .u64 v] w fun e w' => e = .returned (.bool false) ∧ w = w' := by
  have HH := Lib.hid (has_nil w at_ n)
  go_enter Try.func8, Try.ntmps8
  go_wp2_with fail
  refine HH.out.mono ?_
  rintro e w1 ⟨rfl, rfl⟩
  go_wp2_with fail
  go_returns
  exact ⟨rfl, rfl⟩
theorem stored_next {w w1 w2 : World} {b : Nat} {size : Int} {f' f'' : Int → Int} {S S1 : Nat → Prop} (ho : Only S w w1) (h1 : ∀ k, S1 k → S k ∨ w.heap.size ≤ k) (h2 : Stored w1 b size f'' S1 w2) : Stored w b size f'' S w2 := by
  obtain ⟨S2, hm, hs, ho2⟩ := h2
  refine ⟨S2, hm, fun k hk => ?_, ho.trans ho2 (fun k hk hs1 => ?_)⟩
  · rcases hs k hk with h | h
    · exact h1 k h
    · exact Or.inr (Nat.le_trans ho.size h)
  · rcases h1 k hs1 with h | h
    · exact h
    · omega
/-- what the bytes are behind Store -/
def storeS (size : Int) (f : Int → Int) (at_ n v : Int) : Int → Int := if hasS size at_ n then stV f at_ n.toNat v else f
theorem store_any (w : World) (b : Nat) (size : Int) (f : Int → Int) (S : Nat → Prop) (at_ n v : Int) (h : Mem w b size f S) (hz : 0 ≤ size ∧ size ≤ 65536) (ha : InU64 at_) (hn : In64 n) (hv : InU64 v) :
    Calls Try.prog 8 #[.pointer (some ⟨b, 0, none⟩), .int .u64 at_, .int .i64 n, .int .u64 v] w
      fun e w' => e = .returned (.bool (hasS size at_ n)) ∧ Stored w b size (storeS size f at_ n v) S w' := by
  have HH := Lib.hid (has_any w b size f S at_ n h hz ha hn)
  unfold storeS
  cases hh : hasS size at_ n with
  | false =>
    rw [hh] at HH
    simp only [Bool.false_eq_true, if_false]
    have HM := Lib.hid h
    clear h ha hn hz
    go_enter Try.func8, Try.ntmps8
    go_wp2_with fail
    refine HH.out.mono ?_
    rintro e w1 ⟨rfl, rfl⟩
    go_wp2_with fail
    go_returns
    exact ⟨rfl, S, HM.out, fun k hk => Or.inl hk, Only.refl _ _⟩
  | true =>
    rw [hh] at HH
    simp only [if_true]
    unfold hasS at hh
    have hh2 := of_decide_eq_true hh
    clear hh
    obtain ⟨k0, hk0⟩ : ∃ k0 : Nat, n = k0 := ⟨n.toNat, by omega⟩
    subst hk0
    obtain ⟨_, hn8, hor⟩ := hh2
    have hat : 65536 ≤ at_ ∧ at_ + k0 ≤ 134217728 := by omega
    obtain ⟨hat1, hat2⟩ := hat
    obtain ⟨hv1, hv2⟩ := hv
    have HM := Lib.hid h
    clear h ha hn hor hz
    go_enter Try.func8, Try.ntmps8
    go_wp2_with fail
    refine HH.out.mono ?_
    rintro e w1 ⟨rfl, rfl⟩
    go_wp2_with fail
    go_loopw [16] (fun i wr => ∃ k : Nat, k ≤ k0 ∧ i = .int .i64 k ∧ Stored w b size (stV f at_ k v) S wr) (fun i _ => k0 - (intOf i).toNat)
    case atStart => exact ⟨0, by omega, rfl, S, by rw [st_zero]; exact HM.out, fun k hk => Or.inl hk, Only.refl _ _⟩
    case round =>
      obtain ⟨k, hk, rfl, S1, hm1, hs1, ho1⟩ := hrel
      by_cases hlt : k < k0
      · have hP := Lib.hid (fun hx hc => put_any wr b size _ S1 (at_ + k) (v / 2 ^ (8 * k) % 256) hm1 hx hc)
        have hnx := Lib.hid (fun w2 (h2 : Stored wr b size _ S1 w2) => stored_next (f' := f) (f'' := upd (stV f at_ k v) (at_ + k) (v / 2 ^ (8 * k) % 256)) ho1 hs1 h2)
        have hse := Lib.hid (st_step f at_ v k)
        have hdv : 0 ≤ v / 2 ^ (8 * k) := Int.ediv_nonneg hv1 (Int.le_of_lt (Int.pow_pos (by decide)))
        clear hm1 hs1 ho1
        go_wp2_with fail
        refine (hP.out ⟨by omega, by omega⟩ ⟨by omega, by omega⟩).mono ?_
        rintro e w2 ⟨rfl, hst⟩
        have hst2 := Lib.hid (hnx.out w2 hst)
        clear hst
        go_wp2_with fail
        go_roundw
        case rel => exact ⟨k + 1, by omega, by go_num, by rw [← hse.out]; exact hst2.out⟩
        case measure => simp [intOf]; omega
      · have e : k = k0 := by omega
        subst e
        go_wp2_with fail
        go_returns
        exact ⟨rfl, S1, by simpa using hm1, hs1, ho1⟩
end Go.Proofs.Ythkaachgfiljmaa
