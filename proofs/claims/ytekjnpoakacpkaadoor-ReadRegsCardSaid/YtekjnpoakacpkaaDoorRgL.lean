/- ReadRegs: the law walked. No condition. -/
import Derived.Test.YtekjnpoakacpkaaDoorRgW
import Derived.Test.YtekjnpoakacpkaaDoorRgF
namespace Go.Proofs.YtekjnpoakacpkaaDoor
open Go.RowKit
set_option linter.unusedVariables false
set_option maxHeartbeats 4000000
set_option maxRecDepth 100000
theorem and_bits (a : Int) (k : Nat) (hk : k < 60) : ∃ r : Nat, r < 2 ^ k ∧ bits .and .i64 a ((2 ^ k - 1 : Nat) : Int) = (r : Int) := by
  obtain ⟨r, h1, h2⟩ := and_low a k hk
  have h3 : evB2 .and .i64 a .i64 ((2 ^ k - 1 : Nat) : Int) = some (.int .i64 (bits .and .i64 a ((2 ^ k - 1 : Nat) : Int))) := rfl
  rw [h3] at h2
  exact ⟨r, h1, by simpa using h2⟩
def nmB (t : Nat) : ByteArray := ⟨⟨nmT t⟩⟩
def rowA (r : Nat) : Array Value := #[.string (nmB (r * 4)), .string (nmB (r * 4 + 1)), .string (nmB (r * 4 + 2)), .string (nmB (r * 4 + 3))]
theorem idx_row : ∀ (r : Nat), r < 16 → ∀ W, (Instr.index 26 (.agg ⟨regC⟩) (.int .i64 (r : Int))).run Tryd.prog W = .ok (.agg (rowA r)) W
  | 0, _, _ => by kernel_rfl
  | 1, _, _ => by kernel_rfl
  | 2, _, _ => by kernel_rfl
  | 3, _, _ => by kernel_rfl
  | 4, _, _ => by kernel_rfl
  | 5, _, _ => by kernel_rfl
  | 6, _, _ => by kernel_rfl
  | 7, _, _ => by kernel_rfl
  | 8, _, _ => by kernel_rfl
  | 9, _, _ => by kernel_rfl
  | 10, _, _ => by kernel_rfl
  | 11, _, _ => by kernel_rfl
  | 12, _, _ => by kernel_rfl
  | 13, _, _ => by kernel_rfl
  | 14, _, _ => by kernel_rfl
  | 15, _, _ => by kernel_rfl
  | n + 16, h, _ => by omega
theorem idx_col (a b c d : ByteArray) : ∀ (q : Nat), q < 4 → ∀ W, (Instr.index 25 (.agg #[.string a, .string b, .string c, .string d]) (.int .i64 (q : Int))).run Tryd.prog W = .ok (.string ([a, b, c, d].getD q a)) W
  | 0, _, _ => by kernel_rfl
  | 1, _, _ => by kernel_rfl
  | 2, _, _ => by kernel_rfl
  | 3, _, _ => by kernel_rfl
  | n + 4, h, _ => by omega
theorem nmB_at {r q : Nat} (hq : q < 4) : [nmB (r * 4), nmB (r * 4 + 1), nmB (r * 4 + 2), nmB (r * 4 + 3)].getD q (nmB (r * 4)) = nmB (r * 4 + q) := by
  have hc : q = 0 ∨ q = 1 ∨ q = 2 ∨ q = 3 := by omega
  rcases hc with e | e | e | e <;> subst e <;> rfl
theorem shr_8 : ∀ (q : Nat), q < 4 → ∀ W, (Op.shift .shr .i64 8 .i64 (q : Int)).run Tryd.prog W = .ok (.int .i64 ((8 / 2 ^ q : Nat) : Int)) W
  | 0, _, _ => rfl
  | 1, _, _ => rfl
  | 2, _, _ => rfl
  | 3, _, _ => rfl
  | n + 4, h, _ => by omega
theorem nm_small : ((List.range 64).all fun t => decide ((nmT t).length ≤ 4)) = true := by kernel_rfl
theorem nmB_size {t : Nat} (ht : t < 64) : (nmB t).size ≤ 4 := by
  have h := nm_small
  simp only [List.all_eq_true, List.mem_range, decide_eq_true_eq] at h
  exact h t ht
theorem cat37 (l : List UInt8) : (⟨#[37]⟩ ++ ⟨⟨l⟩⟩ : ByteArray) = ⟨⟨37 :: l⟩⟩ := ByteArray.mk_append_mk [37] l
theorem regs_law (w : World) (hN : GsOk w) (n k : Int) (s : ByteArray) (hs : s.size ≤ maxLen) :
    Calls Tryd.prog 3 #[.int .i64 n, .int .i64 k, .string s] w fun e w' => e = .returned (.bool true) ∧ Below w.heap.size w w' := by
  have HN := Lib.hid hN
  obtain ⟨r, hr, er⟩ := and_bits n 4 (by decide)
  obtain ⟨q, hq, eq⟩ := and_bits k 2 (by decide)
  have er2 : bits .and .i64 n 15 = (r : Int) := er
  have eq2 : bits .and .i64 k 3 = (q : Int) := eq
  clear hN er eq
  obtain ⟨C, hC, hrg⟩ : ∃ C : Array Value, C = ⟨regC⟩ ∧ ∀ W, GsOk W → Calls Tryd.prog 6 #[] W fun e w' => e = .returned (.agg C) ∧ Below W.heap.size W w' := ⟨_, rfl, regs_run⟩
  have hix : ∀ i : Nat, i < 16 → ∀ W, (Instr.index 26 (.agg C) (.int .i64 (i : Int))).run Tryd.prog W = .ok (.agg (rowA i)) W := by rw [hC]; exact idx_row
  have HIX := Lib.hid hix
  obtain ⟨N0, hN0⟩ : ∃ N, N = nmB (r * 4) := ⟨_, rfl⟩
  obtain ⟨N1, hN1⟩ : ∃ N, N = nmB (r * 4 + 1) := ⟨_, rfl⟩
  obtain ⟨N2, hN2⟩ : ∃ N, N = nmB (r * 4 + 2) := ⟨_, rfl⟩
  obtain ⟨N3, hN3⟩ : ∃ N, N = nmB (r * 4 + 3) := ⟨_, rfl⟩
  have hi0 := hix r hr
  unfold rowA at hi0
  have hc0 := idx_col N0 N1 N2 N3 q hq
  obtain ⟨M, hM⟩ : ∃ M, M = [N0, N1, N2, N3].getD q N0 := ⟨_, rfl⟩
  rw [← hM] at hc0
  have hMn : M = nmB (r * 4 + q) := by rw [hM, hN0, hN1, hN2, hN3]; exact nmB_at hq
  rw [← hN0, ← hN1, ← hN2, ← hN3] at hi0
  have hmz : M.size ≤ 4 := by rw [hMn]; exact nmB_size (by omega)
  have hsh := shr_8 q hq
  obtain ⟨Z, hZ⟩ : ∃ Z : Int, Z = ((8 / 2 ^ q : Nat) : Int) := ⟨_, rfl⟩
  rw [← hZ] at hsh
  have HMN := Lib.hid hMn
  have HZ := Lib.hid hZ
  have HQ := Lib.hid (And.intro hr hq)
  have hsz : s.size ≤ 9223372036854775807 := hs
  clear hC hM hMn hN0 hN1 hN2 hN3 hix hZ hs
  have HRG := Lib.hid hrg
  clear hrg
  go_enter Tryd.func3, Tryd.ntmps3
  go_wp2_with fail
  refine (fit_vm _ HN.out).mono ?_
  rintro e w1 ⟨rfl, kb⟩
  have HB1 := Lib.hid kb
  clear kb
  go_wp2_with fail
  refine (HRG.out _ (HN.out.below HB1.out)).mono ?_
  rintro e w2 ⟨rfl, kb⟩
  have HB2 := Lib.hid (HB1.out.bt kb)
  clear kb
  go_wp2_with fail
  refine (rreg_any _ (HN.out.below HB2.out) _).mono ?_
  rintro e w3 ⟨a, b, rfl, hRS, kb⟩
  have hab := reg_self (t := r * 4 + q) (by have := HQ.out; omega) (r := a) (sz := b) (by
    have : (⟨#[37]⟩ ++ M : ByteArray).data.toList = 37 :: nmT (r * 4 + q) := by rw [HMN.out]; unfold nmB; rw [cat37]
    rw [← this]; exact hRS)
  obtain ⟨ha, hb⟩ := hab
  have ha2 : a = (r : Int) := by rw [ha]; have := HQ.out; omega
  have hb2 : b = Z := by rw [hb, HZ.out]; unfold szT; have := HQ.out; rw [show (r * 4 + q) % 4 = q by omega]
  subst ha2
  subst hb2
  have HB3 := Lib.hid (HB2.out.bt kb)
  clear kb hRS ha hb hi0 hc0
  by_cases hbig : 100 < s.size
  · have d1 : decide ((100 : Int) < s.size) = true := decide_eq_true (by omega)
    go_wp2_with fail
    go_returns
    exact ⟨rfl, HB3.out⟩
  have d1 : decide ((100 : Int) < s.size) = false := decide_eq_false (by omega)
  go_wp2_with fail
  refine (rreg_any _ (HN.out.below HB3.out) _).mono ?_
  rintro e w4 ⟨a, b, rfl, hRS, kb⟩
  have HRS := Lib.hid hRS
  have HB4 := Lib.hid (HB3.out.bt kb)
  clear kb hRS
  go_wp2_with fail
  refine (HRG.out _ (HN.out.below HB4.out)).mono ?_
  rintro e w5 ⟨rfl, kb⟩
  have HB5 := Lib.hid (HB4.out.bt kb)
  clear kb
  go_wp2_with fail
  go_loopw [54] (fun i wr => ∃ n : Nat, n ≤ 16 ∧ i = .int .i64 n ∧ (∀ t, t < n * 4 → s.data.toList ≠ 37 :: nmT t) ∧ Below w.heap.size w wr) (fun i _ => 16 - (intOf i).toNat)
  case atStart => exact ⟨0, by omega, rfl, (fun t ht => by omega), HB5.out⟩
  case round =>
    obtain ⟨i, hi, rfl, hno, hb⟩ := hrel
    have HNO := Lib.hid hno
    have HB := Lib.hid hb
    clear hno hb
    by_cases hlt : i < 16
    · have HLT := Lib.hid hlt
      have d16 : decide ((i : Int) < 16) = true := decide_eq_true (by omega)
      obtain ⟨K0, hK0⟩ : ∃ N, N = nmB (i * 4) := ⟨_, rfl⟩
      obtain ⟨K1, hK1⟩ : ∃ N, N = nmB (i * 4 + 1) := ⟨_, rfl⟩
      obtain ⟨K2, hK2⟩ : ∃ N, N = nmB (i * 4 + 2) := ⟨_, rfl⟩
      obtain ⟨K3, hK3⟩ : ∃ N, N = nmB (i * 4 + 3) := ⟨_, rfl⟩
      have hi0 := HIX.out i hlt
      unfold rowA at hi0
      rw [← hK0, ← hK1, ← hK2, ← hK3] at hi0
      have HCOL := Lib.hid (show ∀ j : Nat, j < 4 → ∀ W, (Instr.index 25 (.agg #[.string K0, .string K1, .string K2, .string K3]) (.int .i64 (j : Int))).run Tryd.prog W = .ok (.string (nmB (i * 4 + j))) W from fun j hj W => by
        have := idx_col K0 K1 K2 K3 j hj W
        rw [hK0, hK1, hK2, hK3, nmB_at hj] at this
        rw [hK0, hK1, hK2, hK3]
        exact this)
      have HB2 := Lib.hid (HB.out.alloc HB.out.size (.cells #[.string K0, .string K1, .string K2, .string K3] 25))
      clear hK0 hK1 hK2 hK3
      go_wp2_with fail
      clear hi0
      go_loopw [59] (fun u wr => ∃ j : Nat, j ≤ 4 ∧ u = .int .i64 j ∧ (∀ t, t < i * 4 + j → s.data.toList ≠ 37 :: nmT t) ∧ Below w.heap.size w wr) (fun u _ => 4 - (intOf u).toNat)
      case atStart => exact ⟨0, by omega, rfl, HNO.out, HB2.out⟩
      case round =>
        obtain ⟨j, hj, rfl, hno, hb⟩ := hrel
        have HNO := Lib.hid hno
        have HB := Lib.hid hb
        clear hno hb
        by_cases hltj : j < 4
        · have d4 : decide ((j : Int) < 4) = true := decide_eq_true (by omega)
          have HLJ := Lib.hid hltj
          have hc0 := HCOL.out j hltj
          obtain ⟨P, hP⟩ : ∃ P, P = nmB (i * 4 + j) := ⟨_, rfl⟩
          have hpz : P.size ≤ 4 := by rw [hP]; exact nmB_size (by omega)
          have hPl : (⟨#[37]⟩ ++ P : ByteArray).toList = 37 :: nmT (i * 4 + j) := by rw [hP]; unfold nmB; rw [cat37, toList_data]
          have hsl : s.toList = s.data.toList := toList_data s
          rw [← hP] at hc0
          clear hP
          by_cases he : s.data.toList = 37 :: nmT (i * 4 + j)
          · have hq : (s.toList == (⟨#[37]⟩ ++ P : ByteArray).toList) = true := by rw [hPl, hsl, he]; exact beq_self_eq_true _
            obtain ⟨ha, hb⟩ := reg_self (t := i * 4 + j) (by omega) (he ▸ HRS.out)
            have ha2 : a = (i : Int) := by rw [ha]; omega
            have hsj := shr_8 j hltj
            have hb2 : b = ((8 / 2 ^ j : Nat) : Int) := by rw [hb]; unfold szT; rw [show (i * 4 + j) % 4 = j by omega]
            have hb3 : b = (8 : Int) / 2 ^ j := by rw [hb2]; simp
            subst ha2
            subst hb3
            clear hPl hsl he ha hb hb2 hsj
            go_wp2_with fail
            go_returns
            exact ⟨rfl, HB.out⟩
          · have hq : (s.toList == (⟨#[37]⟩ ++ P : ByteArray).toList) = false := by rw [hPl, hsl]; exact beq_false_of_ne he
            clear hPl hsl
            go_wp2_with fail
            have hltj := HLJ.out
            go_roundw
            case rel => exact ⟨j + 1, by omega, by go_num, (fun t ht => by
              by_cases e : t = i * 4 + j
              · rw [e]; exact he
              · exact HNO.out t (by omega)), HB.out⟩
            case measure => simp [intOf]; omega
        · have e : j = 4 := by omega
          subst e
          go_wp2_with fail
          have hlt := HLT.out
          go_roundw
          case rel => exact ⟨i + 1, by omega, by go_num, by have := HNO.out; rwa [show (i + 1) * 4 = i * 4 + 4 by omega], HB.out⟩
          case measure => simp [intOf]; omega
    · have e : i = 16 := by omega
      subst e
      obtain ⟨ha, hb⟩ := reg_none (fun t ht => HNO.out t (by omega)) HRS.out
      subst ha
      subst hb
      go_wp2_with fail
      go_returns
      exact ⟨rfl, HB.out⟩
end Go.Proofs.YtekjnpoakacpkaaDoor
