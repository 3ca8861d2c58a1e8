/- read.Link: which instructions jump, which call. No condition. -/
import Derived.Test.YtamejgfmfneppaaDoorLkD
namespace Go.Proofs.YtamejgfmfneppaaDoor
open Go.RowKit
set_option linter.unusedVariables false
set_option maxHeartbeats 4000000
theorem jumps_any (w : World) (op : Int) (h6 : op ≠ 6) : Calls Tryd.prog 10 #[.int .i64 op] w fun e w' => e = .returned (.bool (decide (op = 33 ∨ op = 34 ∨ op = 35))) ∧ Below w.heap.size w w' := by
  have b6 : (op == 6) = false := by simpa using h6
  by_cases h1 : op = 33
  · subst h1
    go_enter Tryd.func10, Tryd.ntmps10
    go_wp2_with fail
    go_returns
    exact ⟨by simp, Below.refl _ _⟩
  have b1 : (op == 33) = false := by simpa using h1
  by_cases h2 : op = 34
  · subst h2
    go_enter Tryd.func10, Tryd.ntmps10
    go_wp2_with fail
    go_returns
    exact ⟨by simp, Below.refl _ _⟩
  have b2 : (op == 34) = false := by simpa using h2
  by_cases h3 : op = 35
  · subst h3
    go_enter Tryd.func10, Tryd.ntmps10
    go_wp2_with fail
    go_returns
    exact ⟨by simp, Below.refl _ _⟩
  have b3 : (op == 35) = false := by simpa using h3
  have HD := Lib.hid (show decide (op = 33 ∨ op = 34 ∨ op = 35) = false by simp [h1, h2, h3])
  clear h1 h2 h3 h6
  go_enter Tryd.func10, Tryd.ntmps10
  go_wp2_with fail
  go_returns
  exact ⟨by rw [HD.out]; rfl, Below.refl _ _⟩
theorem calls_any (w : World) (op : Int) : Calls Tryd.prog 11 #[.int .i64 op] w fun e w' => e = .returned (.bool (callsB op)) ∧ Below w.heap.size w w' := by
  by_cases h2 : op = 35
  · subst h2
    go_enter Tryd.func11, Tryd.ntmps11
    go_wp2_with fail
    go_returns
    exact ⟨by rfl, Below.refl _ _⟩
  have b2 : (op == 35) = false := by simpa using h2
  by_cases h3 : op = 36
  · subst h3
    go_enter Tryd.func11, Tryd.ntmps11
    go_wp2_with fail
    go_returns
    exact ⟨by rfl, Below.refl _ _⟩
  have b3 : (op == 36) = false := by simpa using h3
  have HD := Lib.hid (show callsB op = false by unfold callsB; simp [h2, h3])
  clear h2 h3
  go_enter Tryd.func11, Tryd.ntmps11
  go_wp2_with fail
  go_returns
  exact ⟨by rw [HD.out]; rfl, Below.refl _ _⟩
end Go.Proofs.YtamejgfmfneppaaDoor
