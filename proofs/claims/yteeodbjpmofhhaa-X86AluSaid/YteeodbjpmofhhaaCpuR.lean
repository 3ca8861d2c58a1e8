/- Walks: the reference's operations of two numbers. No condition. -/
import Derived.Test.YteeodbjpmofhhaaCpuP
namespace Go.Proofs.Yteeodbjpmofhhaa
open Go.RowKit
set_option linter.unusedVariables false
set_option maxHeartbeats 1000000
theorem p63_eq (n : Int) (h : InU64 n) : p63 n = decide (9223372036854775808 ≤ n) := by
  obtain ⟨h1, h2⟩ := h
  unfold p63; rw [Bool.eq_iff_iff]; simp; omega
theorem top_walk (n : Int) (t : Bool) (w : World) (h : InU64 n) (ht : p63 n = t) :
    Calls Try.prog 22 #[.int .u64 n] w fun e w' => e = .returned (.bool t) ∧ w = w' := by
  rw [p63_eq n h] at ht
  go_enter Try.func22, Try.ntmps22
  go_wp2
  go_returns
  exact ⟨rfl, rfl⟩
/-- the flags as the reference has them -/
def addR (a b : Int) : Fl := ⟨w64 (a + b) == 0, p63 (w64 (a + b)), decide (18446744073709551615 - b < a), p63 a == p63 b && p63 (w64 (a + b)) != p63 a⟩
def subR (a b : Int) : Fl := ⟨w64 (a - b) == 0, p63 (w64 (a - b)), decide (a < b), p63 a != p63 b && p63 (w64 (a - b)) != p63 a⟩
theorem addF_R (a b : Int) (ha : InU64 a) (hb : InU64 b) : addF a b = addR a b := by
  have hs := w64_in (a + b)
  have e1 := p63_and _ _ (xor_in a (w64 (a + b)) ha hs) (xor_in b (w64 (a + b)) hb hs)
  have e2 := p63_xor a (w64 (a + b)) ha hs
  have e3 := p63_xor b (w64 (a + b)) hb hs
  unfold addF addR
  rw [e1, e2, e3]
  congr 1
  · rw [w64_eq]
    obtain ⟨a1, a2⟩ := ha
    obtain ⟨b1, b2⟩ := hb
    apply decide_eq_decide.2; omega
  · cases p63 a <;> cases p63 b <;> cases p63 (w64 (a + b)) <;> rfl
theorem cmpF_R (a b : Int) (ha : InU64 a) (hb : InU64 b) : cmpF a b = subR a b := by
  have hs := w64_in (a - b)
  have e1 := p63_and _ _ (xor_in a b ha hb) (xor_in a (w64 (a - b)) ha hs)
  have e2 := p63_xor a (w64 (a - b)) ha hs
  have e3 := p63_xor a b ha hb
  unfold cmpF subR
  rw [e1, e2, e3]
  congr 1
  cases p63 a <;> cases p63 b <;> cases p63 (w64 (a - b)) <;> rfl
theorem ref_logic (op a b : Int) (f : Fl) (w : World) (ha : InU64 a) (hb : InU64 b) (hop : op = 9 ∨ op = 16 ∨ op = 10 ∨ op = 17 ∨ op = 11 ∨ op = 18 ∨ op = 12 ∨ op = 19) :
    Calls Try.prog 11 #[.int .i64 op, .int .u64 a, .int .u64 b, f.v] w fun e w' => aluIs (alu op a b f) e ∧ Below w.heap.size w w' := by
  have hal : alu op a b f = (bin1 op a b, logF (bin1 op a b), true) := by
    rcases hop with rfl | rfl | rfl | rfl | rfl | rfl | rfl | rfl <;> simp [alu, bin1]
  have hin : InU64 (bin1 op a b) := by
    rcases hop with rfl | rfl | rfl | rfl | rfl | rfl | rfl | rfl
    · exact and_in a b ha hb
    · exact and_in a b ha hb
    · exact or_in a b ha hb
    · exact or_in a b ha hb
    · exact xor_in a b ha hb
    · exact xor_in a b ha hb
    · exact w64_in _
    · exact w64_in _
  rw [hal]
  unfold aluIs logF
  have TN := Lib.hid (fun w => top_walk _ _ w hin rfl)
  clear hal hin
  generalize hp : p63 (bin1 op a b) = tn at *
  clear hp
  obtain ⟨ha1, ha2⟩ := ha
  obtain ⟨hb1, hb2⟩ := hb
  obtain ⟨z, s, c, o⟩ := f
  unfold Fl.v at *
  rcases hop with rfl | rfl | rfl | rfl | rfl | rfl | rfl | rfl
  all_goals
    go_enter Try.func11, Try.ntmps11
    go_wp2_with fail
    refine (TN.out _).mono ?_
    rintro e w1 ⟨rfl, rfl⟩
    go_wp2_with fail
    go_region
    all_goals go_wp2
    all_goals go_returns
    all_goals refine ⟨rfl, ?_⟩
    all_goals go_grown
theorem ref_keep (op a b : Int) (f : Fl) (w : World) (ha : InU64 a) (hb : InU64 b) (hop : op = 21 ∨ op = 24 ∨ op = 22 ∨ op = 25 ∨ op = 23 ∨ op = 26) (hk : b % 64 = 0) :
    Calls Try.prog 11 #[.int .i64 op, .int .u64 a, .int .u64 b, f.v] w fun e w' => aluIs (alu op a b f) e ∧ Below w.heap.size w w' := by
  obtain ⟨ha1, ha2⟩ := ha
  obtain ⟨hb1, hb2⟩ := hb
  have hal : alu op a b f = (a, f, true) := by
    rcases hop with rfl | rfl | rfl | rfl | rfl | rfl <;> simp [alu, hk]
  rw [hal]
  unfold aluIs
  clear hal
  obtain ⟨z, s, c, o⟩ := f
  unfold Fl.v
  rcases hop with rfl | rfl | rfl | rfl | rfl | rfl
  all_goals
    go_enter Try.func11, Try.ntmps11
    go_wp2_with fail
    go_region
    all_goals go_wp2
    all_goals go_returns
    all_goals refine ⟨rfl, ?_⟩
    all_goals go_grown
theorem ref_none (op a b : Int) (f : Fl) (w : World) (hop : op < 7 ∨ 26 < op) (ho : In64 op) :
    Calls Try.prog 11 #[.int .i64 op, .int .u64 a, .int .u64 b, f.v] w fun e w' => aluIs (alu op a b f) e ∧ Below w.heap.size w w' := by
  have hal : alu op a b f = (0, f, false) := by
    unfold alu
    repeat rw [if_neg (by omega)]
  rw [hal]
  unfold aluIs
  clear hal
  obtain ⟨ho1, ho2⟩ := ho
  obtain ⟨z, s, c, o⟩ := f
  unfold Fl.v
  have e7 : (op == 7) = false := by simp; omega
  have e8 : (op == 8) = false := by simp; omega
  have e9 : (op == 9) = false := by simp; omega
  have e10 : (op == 10) = false := by simp; omega
  have e11 : (op == 11) = false := by simp; omega
  have e12 : (op == 12) = false := by simp; omega
  have e13 : (op == 13) = false := by simp; omega
  have e21 : (op == 21) = false := by simp; omega
  have e22 : (op == 22) = false := by simp; omega
  have e23 : (op == 23) = false := by simp; omega
  rcases hop with hop | hop
  all_goals
    go_enter Try.func11, Try.ntmps11
    go_wp2_with fail
    go_region
    all_goals go_wp2
    all_goals go_returns
    all_goals refine ⟨rfl, ?_⟩
    all_goals go_grown
end Go.Proofs.Yteeodbjpmofhhaa
