/- The names of registers, run. No condition. -/
import Derived.Test.YtmmpkkpmlaiapaaGreatDoorQb
namespace Go.Proofs.YtmmpkkpmlaiapaaGreatDoor
open Go.RowKit
set_option linter.unusedVariables false
theorem reg_0_0 (w : World) (hN : NeedOk gs w ∧ gn ≤ w.heap.size) : Calls Tryz.prog 55 #[.int .i64 0, .int .i64 1] w fun e w' => e = .returned (.string ⟨⟨regN 0 0⟩⟩) ∧ Below w.heap.size w w' := reg_of w hN _ _ _ (by kernel_rfl)
theorem reg_0_1 (w : World) (hN : NeedOk gs w ∧ gn ≤ w.heap.size) : Calls Tryz.prog 55 #[.int .i64 0, .int .i64 2] w fun e w' => e = .returned (.string ⟨⟨regN 0 1⟩⟩) ∧ Below w.heap.size w w' := reg_of w hN _ _ _ (by kernel_rfl)
theorem reg_0_2 (w : World) (hN : NeedOk gs w ∧ gn ≤ w.heap.size) : Calls Tryz.prog 55 #[.int .i64 0, .int .i64 4] w fun e w' => e = .returned (.string ⟨⟨regN 0 2⟩⟩) ∧ Below w.heap.size w w' := reg_of w hN _ _ _ (by kernel_rfl)
theorem reg_0_3 (w : World) (hN : NeedOk gs w ∧ gn ≤ w.heap.size) : Calls Tryz.prog 55 #[.int .i64 0, .int .i64 8] w fun e w' => e = .returned (.string ⟨⟨regN 0 3⟩⟩) ∧ Below w.heap.size w w' := reg_of w hN _ _ _ (by kernel_rfl)
theorem reg_0_o (w : World) (hN : NeedOk gs w ∧ gn ≤ w.heap.size) (x : Int) (hx : x ≠ 8 ∧ x ≠ 4 ∧ x ≠ 2 ∧ x ≠ 1) : Calls Tryz.prog 55 #[.int .i64 0, .int .i64 x] w fun e w' => e = .returned (.string ⟨⟨[]⟩⟩) ∧ Below w.heap.size w w' := reg_other w hN _ _ hx (by kernel_rfl)
theorem reg_1_0 (w : World) (hN : NeedOk gs w ∧ gn ≤ w.heap.size) : Calls Tryz.prog 55 #[.int .i64 1, .int .i64 1] w fun e w' => e = .returned (.string ⟨⟨regN 1 0⟩⟩) ∧ Below w.heap.size w w' := reg_of w hN _ _ _ (by kernel_rfl)
theorem reg_1_1 (w : World) (hN : NeedOk gs w ∧ gn ≤ w.heap.size) : Calls Tryz.prog 55 #[.int .i64 1, .int .i64 2] w fun e w' => e = .returned (.string ⟨⟨regN 1 1⟩⟩) ∧ Below w.heap.size w w' := reg_of w hN _ _ _ (by kernel_rfl)
theorem reg_1_2 (w : World) (hN : NeedOk gs w ∧ gn ≤ w.heap.size) : Calls Tryz.prog 55 #[.int .i64 1, .int .i64 4] w fun e w' => e = .returned (.string ⟨⟨regN 1 2⟩⟩) ∧ Below w.heap.size w w' := reg_of w hN _ _ _ (by kernel_rfl)
theorem reg_1_3 (w : World) (hN : NeedOk gs w ∧ gn ≤ w.heap.size) : Calls Tryz.prog 55 #[.int .i64 1, .int .i64 8] w fun e w' => e = .returned (.string ⟨⟨regN 1 3⟩⟩) ∧ Below w.heap.size w w' := reg_of w hN _ _ _ (by kernel_rfl)
theorem reg_1_o (w : World) (hN : NeedOk gs w ∧ gn ≤ w.heap.size) (x : Int) (hx : x ≠ 8 ∧ x ≠ 4 ∧ x ≠ 2 ∧ x ≠ 1) : Calls Tryz.prog 55 #[.int .i64 1, .int .i64 x] w fun e w' => e = .returned (.string ⟨⟨[]⟩⟩) ∧ Below w.heap.size w w' := reg_other w hN _ _ hx (by kernel_rfl)
theorem reg_2_0 (w : World) (hN : NeedOk gs w ∧ gn ≤ w.heap.size) : Calls Tryz.prog 55 #[.int .i64 2, .int .i64 1] w fun e w' => e = .returned (.string ⟨⟨regN 2 0⟩⟩) ∧ Below w.heap.size w w' := reg_of w hN _ _ _ (by kernel_rfl)
theorem reg_2_1 (w : World) (hN : NeedOk gs w ∧ gn ≤ w.heap.size) : Calls Tryz.prog 55 #[.int .i64 2, .int .i64 2] w fun e w' => e = .returned (.string ⟨⟨regN 2 1⟩⟩) ∧ Below w.heap.size w w' := reg_of w hN _ _ _ (by kernel_rfl)
theorem reg_2_2 (w : World) (hN : NeedOk gs w ∧ gn ≤ w.heap.size) : Calls Tryz.prog 55 #[.int .i64 2, .int .i64 4] w fun e w' => e = .returned (.string ⟨⟨regN 2 2⟩⟩) ∧ Below w.heap.size w w' := reg_of w hN _ _ _ (by kernel_rfl)
theorem reg_2_3 (w : World) (hN : NeedOk gs w ∧ gn ≤ w.heap.size) : Calls Tryz.prog 55 #[.int .i64 2, .int .i64 8] w fun e w' => e = .returned (.string ⟨⟨regN 2 3⟩⟩) ∧ Below w.heap.size w w' := reg_of w hN _ _ _ (by kernel_rfl)
theorem reg_2_o (w : World) (hN : NeedOk gs w ∧ gn ≤ w.heap.size) (x : Int) (hx : x ≠ 8 ∧ x ≠ 4 ∧ x ≠ 2 ∧ x ≠ 1) : Calls Tryz.prog 55 #[.int .i64 2, .int .i64 x] w fun e w' => e = .returned (.string ⟨⟨[]⟩⟩) ∧ Below w.heap.size w w' := reg_other w hN _ _ hx (by kernel_rfl)
theorem reg_3_0 (w : World) (hN : NeedOk gs w ∧ gn ≤ w.heap.size) : Calls Tryz.prog 55 #[.int .i64 3, .int .i64 1] w fun e w' => e = .returned (.string ⟨⟨regN 3 0⟩⟩) ∧ Below w.heap.size w w' := reg_of w hN _ _ _ (by kernel_rfl)
theorem reg_3_1 (w : World) (hN : NeedOk gs w ∧ gn ≤ w.heap.size) : Calls Tryz.prog 55 #[.int .i64 3, .int .i64 2] w fun e w' => e = .returned (.string ⟨⟨regN 3 1⟩⟩) ∧ Below w.heap.size w w' := reg_of w hN _ _ _ (by kernel_rfl)
theorem reg_3_2 (w : World) (hN : NeedOk gs w ∧ gn ≤ w.heap.size) : Calls Tryz.prog 55 #[.int .i64 3, .int .i64 4] w fun e w' => e = .returned (.string ⟨⟨regN 3 2⟩⟩) ∧ Below w.heap.size w w' := reg_of w hN _ _ _ (by kernel_rfl)
theorem reg_3_3 (w : World) (hN : NeedOk gs w ∧ gn ≤ w.heap.size) : Calls Tryz.prog 55 #[.int .i64 3, .int .i64 8] w fun e w' => e = .returned (.string ⟨⟨regN 3 3⟩⟩) ∧ Below w.heap.size w w' := reg_of w hN _ _ _ (by kernel_rfl)
theorem reg_3_o (w : World) (hN : NeedOk gs w ∧ gn ≤ w.heap.size) (x : Int) (hx : x ≠ 8 ∧ x ≠ 4 ∧ x ≠ 2 ∧ x ≠ 1) : Calls Tryz.prog 55 #[.int .i64 3, .int .i64 x] w fun e w' => e = .returned (.string ⟨⟨[]⟩⟩) ∧ Below w.heap.size w w' := reg_other w hN _ _ hx (by kernel_rfl)
end Go.Proofs.YtmmpkkpmlaiapaaGreatDoor
