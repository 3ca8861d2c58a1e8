/- Walks: conditions and the opposite condition. No condition. -/
import Derived.Test.YteeodbjpmofhhaaCpuP
namespace Go.Proofs.Yteeodbjpmofhhaa
open Go.RowKit
set_option linter.unusedVariables false
set_option maxHeartbeats 1000000
/-- does a condition hold? -/
def hol (f : Fl) (c : Int) : Bool :=
  if c = 0 then f.z else if c = 1 then !f.z else if c = 2 then f.s != f.o else if c = 3 then f.z || f.s != f.o else if c = 4 then !f.z && f.s == f.o
  else if c = 5 then f.s == f.o else if c = 6 then f.c else if c = 7 then f.c || f.z else if c = 8 then !f.c && !f.z else !f.c
def opp (c : Int) : Int :=
  if c = 0 then 1 else if c = 1 then 0 else if c = 2 then 5 else if c = 3 then 4 else if c = 4 then 3 else if c = 5 then 2 else if c = 6 then 9 else if c = 7 then 8 else if c = 8 then 7 else 6
theorem c10 {c : Int} (h : 0 ≤ c ∧ c ≤ 9) : c = 0 ∨ c = 1 ∨ c = 2 ∨ c = 3 ∨ c = 4 ∨ c = 5 ∨ c = 6 ∨ c = 7 ∨ c = 8 ∨ c = 9 := by omega
theorem opp_in (c : Int) (h : 0 ≤ c ∧ c ≤ 9) : 0 ≤ opp c ∧ opp c ≤ 9 := by
  rcases c10 h with rfl | rfl | rfl | rfl | rfl | rfl | rfl | rfl | rfl | rfl <;> decide
theorem opp_opp (c : Int) (h : 0 ≤ c ∧ c ≤ 9) : opp (opp c) = c := by
  rcases c10 h with rfl | rfl | rfl | rfl | rfl | rfl | rfl | rfl | rfl | rfl <;> decide
theorem hol_opp (f : Fl) (c : Int) (h : 0 ≤ c ∧ c ≤ 9) : hol f (opp c) = !hol f c := by
  obtain ⟨z, s, k, o⟩ := f
  rcases c10 h with rfl | rfl | rfl | rfl | rfl | rfl | rfl | rfl | rfl | rfl <;> cases z <;> cases s <;> cases k <;> cases o <;> decide
theorem not_walk (c : Int) (w : World) (h : 0 ≤ c ∧ c ≤ 9) :
    Calls Try.prog 20 #[.int .i64 c] w fun e w' => e = .returned (.int .i64 (opp c)) ∧ w = w' := by
  rcases c10 h with rfl | rfl | rfl | rfl | rfl | rfl | rfl | rfl | rfl | rfl
  all_goals
    go_enter Try.func20, Try.ntmps20
    go_wp2
    go_returns
    exact ⟨rfl, rfl⟩
theorem holds_walk (f : Fl) (c : Int) (w : World) (h : 0 ≤ c ∧ c ≤ 9) :
    Calls Try.prog 18 #[f.v, .int .i64 c] w fun e w' => e = .returned (.bool (hol f c)) ∧ Below w.heap.size w w' := by
  obtain ⟨z, s, k, o⟩ := f
  unfold Fl.v
  rcases c10 h with rfl | rfl | rfl | rfl | rfl | rfl | rfl | rfl | rfl | rfl <;> cases z
  all_goals
    go_enter Try.func18, Try.ntmps18
    go_wp2
    all_goals go_returns
    all_goals refine ⟨ret_bool (by cases s <;> cases k <;> cases o <;> first | rfl | contradiction), ?_⟩
    all_goals go_grown
theorem holds_ref (f : Fl) (c : Int) (w : World) (h : 0 ≤ c ∧ c ≤ 9) :
    Calls Try.prog 19 #[f.v, .int .i64 c] w fun e w' => e = .returned (.bool (hol f c)) ∧ Below w.heap.size w w' := by
  obtain ⟨z, s, k, o⟩ := f
  unfold Fl.v
  rcases c10 h with rfl | rfl | rfl | rfl | rfl | rfl | rfl | rfl | rfl | rfl <;> cases z
  all_goals
    go_enter Try.func19, Try.ntmps19
    go_wp2
    all_goals go_returns
    all_goals refine ⟨ret_bool (by cases s <;> cases k <;> cases o <;> first | rfl | contradiction), ?_⟩
    all_goals go_grown
end Go.Proofs.Yteeodbjpmofhhaa
