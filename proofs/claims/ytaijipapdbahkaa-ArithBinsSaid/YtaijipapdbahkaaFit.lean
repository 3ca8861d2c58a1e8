/- Walks: fitting a number to its type, in the program and in the reference. No condition. -/
import Derived.Test.YtaijipapdbahkaaPlain
import Derived.Test.YtaijipapdbahkaaChecked
namespace Go.Proofs.Ytaijipapdbahkaa
open Go.RowKit
set_option linter.unusedVariables false

theorem ret_int {k : IntKind} {a b : Int} (h : a = b) : Ending.returned (.int k a) = .returned (.int k b) := by rw [h]

theorem fit_any (sz n : Int) (sg : Bool) (w : World) (h : Size sz) (hn : In64 n) :
    Calls Try.prog 13 #[.agg #[.int .i64 1, .int .i64 sz, .bool sg, .bool false, .pointer none, .int .i64 0, .int .i64 0, .slice none 0 0, .pointer none], .int .i64 n] w
      fun e w' => e = .returned (.int .i64 (fitS sz sg n)) ∧ Below w.heap.size w w' := by
  obtain ⟨h1, h2⟩ := hn
  rcases h with rfl | rfl | rfl | rfl <;> cases sg
  all_goals
    go_enter Try.func13, Try.ntmps13
    go_wp2
    all_goals go_ret
    all_goals refine ⟨ret_int ?_, (Below.refl _ _).alloc (Nat.le_refl _) _⟩
    all_goals first | (simp only [fitS, modS]; simp; done) | (simp [fitS, modS, wrap64, IntKind.wrap, IntKind.bits, IntKind.signed]; omega)
theorem rfit_any (sz n : Int) (sg : Bool) (w : World) (h : Size sz) (hn : In64 n) :
    Calls Try.prog 10 #[.agg #[.int .i64 1, .int .i64 sz, .bool sg, .bool false, .pointer none, .int .i64 0, .int .i64 0, .slice none 0 0, .pointer none], .int .i64 n] w
      fun e w' => e = .returned (.int .i64 (fitS sz sg n)) ∧ Below w.heap.size w w' := by
  obtain ⟨h1, h2⟩ := hn
  rcases h with rfl | rfl | rfl | rfl <;> cases sg
  all_goals
    go_enter Try.func10, Try.ntmps10
    go_wp2
    try go_rounds 5
    all_goals go_returns
    all_goals refine ⟨ret_int ?_, by go_grown⟩
    all_goals first | (simp only [fitS, modS]; simp; done) | (by_cases h0 : 0 ≤ n <;> simp only [tmod_eq_if, h0, if_true, if_false, wrap64] at * <;> simp [fitS, modS] <;> omega)
end Go.Proofs.Ytaijipapdbahkaa
