/- Walks: the example of the statements on memory; the statement that a memory that is none has nothing. No condition. -/
import Derived.Test.YthkaachgfiljmaaMemNew
namespace Go.Proofs.Ythkaachgfiljmaa
open Go.RowKit
set_option linter.unusedVariables false
set_option maxHeartbeats 1000000
def dEx (i : Nat) : Int := if i = 0 then 1 else if i = 1 then 2 else 3
theorem ex1 : loadS ((3 : Nat) : Int) (newF dEx 3) 65537 2 = (770, true) := by decide
theorem ex2 : loadS ((3 : Nat) : Int) (newF dEx 3) 65538 2 = (0, false) := by decide
theorem mem_fit (w : World) : Calls Try.prog 6 #[] w fun e w' => e = .returned (.bool true) ∧ Below w.heap.size w w' := by
  go_enter Try.func6, Try.ntmps6
  go_wp2_with fail
  refine (new_any _ _ 3 3 dEx (by decide) (Or.inr ⟨_, _, _, rfl, by decide, by decide, ?_, ?_⟩)).mono ?_
  · simp
  · intro i hi
    have hc : i = 0 ∨ i = 1 ∨ i = 2 := by omega
    rcases hc with rfl | rfl | rfl <;> refine ⟨?_, by decide, by decide⟩ <;> exact blk_cell (blk_new w _) rfl
  · rintro e w1 ⟨b, S, rfl, hm, hs, hb⟩
    have L1 := load_any w1 b _ _ S 65537 2 hm (by decide) (by unfold InU64; omega) (by unfold In64; omega)
    have L2 := load_any w1 b _ _ S 65538 2 hm (by decide) (by unfold InU64; omega) (by unfold In64; omega)
    rw [ex1] at L1
    rw [ex2] at L2
    have L1 := Lib.hid L1
    have L2 := Lib.hid L2
    have HB := Lib.hid (below_new hb)
    rename_i L1' L2'
    clear L1' L2' hm hs hb
    go_wp2_with fail
    refine L1.out.mono ?_
    rintro e w2 ⟨rfl, rfl⟩
    go_wp2_with fail
    refine L2.out.mono ?_
    rintro e w2 ⟨rfl, rfl⟩
    go_wp2_with fail
    go_returns
    exact ⟨rfl, HB.out⟩
theorem copy_nil (w : World) : Calls Try.prog 11 #[.pointer none] w fun e w' => e = .returned (.pointer none) ∧ w = w' := by
  go_enter Try.func11, Try.ntmps11
  go_wp2
  go_returns
  exact ⟨rfl, rfl⟩
theorem none_walk (w : World) (at_ n : Int) :
    Calls Try.prog 4 #[.int .u64 at_, .int .i64 n] w fun e w' => e = .returned (.bool true) ∧ Below w.heap.size w w' := by
  go_enter Try.func4, Try.ntmps4
  go_wp2_with fail
  refine (mem_fit _).mono ?_
  rintro e w1 ⟨rfl, hb1⟩
  go_wp2_with (first | (go_at_call 9; (with_reducible refine (load_nil _ _ _).mono ?_); rintro e w2 ⟨rfl, rfl⟩) | (go_at_call 10; (with_reducible refine (has_nil _ _ _).mono ?_); rintro e w2 ⟨rfl, rfl⟩) | (go_at_call 8; (with_reducible refine (store_nil _ _ _ _).mono ?_); rintro e w2 ⟨rfl, rfl⟩) | (go_at_call 11; (with_reducible refine (copy_nil _).mono ?_); rintro e w2 ⟨rfl, rfl⟩))
  go_returns
  exact ⟨rfl, hb1⟩
end Go.Proofs.Ythkaachgfiljmaa
