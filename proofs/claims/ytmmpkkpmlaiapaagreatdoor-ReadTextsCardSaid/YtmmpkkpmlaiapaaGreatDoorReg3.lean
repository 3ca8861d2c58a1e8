/- The names of registers, run. No condition. -/
import Derived.Test.YtmmpkkpmlaiapaaGreatDoorQb
namespace Go.Proofs.YtmmpkkpmlaiapaaGreatDoor
open Go.RowKit
set_option linter.unusedVariables false
theorem reg_12_0 (w : World) (hN : NeedOk gs w ∧ gn ≤ w.heap.size) : Calls Tryz.prog 55 #[.int .i64 12, .int .i64 1] w fun e w' => e = .returned (.string ⟨⟨regN 12 0⟩⟩) ∧ Below w.heap.size w w' := reg_of w hN _ _ _ (by kernel_rfl)
theorem reg_12_1 (w : World) (hN : NeedOk gs w ∧ gn ≤ w.heap.size) : Calls Tryz.prog 55 #[.int .i64 12, .int .i64 2] w fun e w' => e = .returned (.string ⟨⟨regN 12 1⟩⟩) ∧ Below w.heap.size w w' := reg_of w hN _ _ _ (by kernel_rfl)
theorem reg_12_2 (w : World) (hN : NeedOk gs w ∧ gn ≤ w.heap.size) : Calls Tryz.prog 55 #[.int .i64 12, .int .i64 4] w fun e w' => e = .returned (.string ⟨⟨regN 12 2⟩⟩) ∧ Below w.heap.size w w' := reg_of w hN _ _ _ (by kernel_rfl)
theorem reg_12_3 (w : World) (hN : NeedOk gs w ∧ gn ≤ w.heap.size) : Calls Tryz.prog 55 #[.int .i64 12, .int .i64 8] w fun e w' => e = .returned (.string ⟨⟨regN 12 3⟩⟩) ∧ Below w.heap.size w w' := reg_of w hN _ _ _ (by kernel_rfl)
theorem reg_12_o (w : World) (hN : NeedOk gs w ∧ gn ≤ w.heap.size) (x : Int) (hx : x ≠ 8 ∧ x ≠ 4 ∧ x ≠ 2 ∧ x ≠ 1) : Calls Tryz.prog 55 #[.int .i64 12, .int .i64 x] w fun e w' => e = .returned (.string ⟨⟨[]⟩⟩) ∧ Below w.heap.size w w' := reg_other w hN _ _ hx (by kernel_rfl)
theorem reg_13_0 (w : World) (hN : NeedOk gs w ∧ gn ≤ w.heap.size) : Calls Tryz.prog 55 #[.int .i64 13, .int .i64 1] w fun e w' => e = .returned (.string ⟨⟨regN 13 0⟩⟩) ∧ Below w.heap.size w w' := reg_of w hN _ _ _ (by kernel_rfl)
theorem reg_13_1 (w : World) (hN : NeedOk gs w ∧ gn ≤ w.heap.size) : Calls Tryz.prog 55 #[.int .i64 13, .int .i64 2] w fun e w' => e = .returned (.string ⟨⟨regN 13 1⟩⟩) ∧ Below w.heap.size w w' := reg_of w hN _ _ _ (by kernel_rfl)
theorem reg_13_2 (w : World) (hN : NeedOk gs w ∧ gn ≤ w.heap.size) : Calls Tryz.prog 55 #[.int .i64 13, .int .i64 4] w fun e w' => e = .returned (.string ⟨⟨regN 13 2⟩⟩) ∧ Below w.heap.size w w' := reg_of w hN _ _ _ (by kernel_rfl)
theorem reg_13_3 (w : World) (hN : NeedOk gs w ∧ gn ≤ w.heap.size) : Calls Tryz.prog 55 #[.int .i64 13, .int .i64 8] w fun e w' => e = .returned (.string ⟨⟨regN 13 3⟩⟩) ∧ Below w.heap.size w w' := reg_of w hN _ _ _ (by kernel_rfl)
theorem reg_13_o (w : World) (hN : NeedOk gs w ∧ gn ≤ w.heap.size) (x : Int) (hx : x ≠ 8 ∧ x ≠ 4 ∧ x ≠ 2 ∧ x ≠ 1) : Calls Tryz.prog 55 #[.int .i64 13, .int .i64 x] w fun e w' => e = .returned (.string ⟨⟨[]⟩⟩) ∧ Below w.heap.size w w' := reg_other w hN _ _ hx (by kernel_rfl)
theorem reg_14_0 (w : World) (hN : NeedOk gs w ∧ gn ≤ w.heap.size) : Calls Tryz.prog 55 #[.int .i64 14, .int .i64 1] w fun e w' => e = .returned (.string ⟨⟨regN 14 0⟩⟩) ∧ Below w.heap.size w w' := reg_of w hN _ _ _ (by kernel_rfl)
theorem reg_14_1 (w : World) (hN : NeedOk gs w ∧ gn ≤ w.heap.size) : Calls Tryz.prog 55 #[.int .i64 14, .int .i64 2] w fun e w' => e = .returned (.string ⟨⟨regN 14 1⟩⟩) ∧ Below w.heap.size w w' := reg_of w hN _ _ _ (by kernel_rfl)
theorem reg_14_2 (w : World) (hN : NeedOk gs w ∧ gn ≤ w.heap.size) : Calls Tryz.prog 55 #[.int .i64 14, .int .i64 4] w fun e w' => e = .returned (.string ⟨⟨regN 14 2⟩⟩) ∧ Below w.heap.size w w' := reg_of w hN _ _ _ (by kernel_rfl)
theorem reg_14_3 (w : World) (hN : NeedOk gs w ∧ gn ≤ w.heap.size) : Calls Tryz.prog 55 #[.int .i64 14, .int .i64 8] w fun e w' => e = .returned (.string ⟨⟨regN 14 3⟩⟩) ∧ Below w.heap.size w w' := reg_of w hN _ _ _ (by kernel_rfl)
theorem reg_14_o (w : World) (hN : NeedOk gs w ∧ gn ≤ w.heap.size) (x : Int) (hx : x ≠ 8 ∧ x ≠ 4 ∧ x ≠ 2 ∧ x ≠ 1) : Calls Tryz.prog 55 #[.int .i64 14, .int .i64 x] w fun e w' => e = .returned (.string ⟨⟨[]⟩⟩) ∧ Below w.heap.size w w' := reg_other w hN _ _ hx (by kernel_rfl)
theorem reg_15_0 (w : World) (hN : NeedOk gs w ∧ gn ≤ w.heap.size) : Calls Tryz.prog 55 #[.int .i64 15, .int .i64 1] w fun e w' => e = .returned (.string ⟨⟨regN 15 0⟩⟩) ∧ Below w.heap.size w w' := reg_of w hN _ _ _ (by kernel_rfl)
theorem reg_15_1 (w : World) (hN : NeedOk gs w ∧ gn ≤ w.heap.size) : Calls Tryz.prog 55 #[.int .i64 15, .int .i64 2] w fun e w' => e = .returned (.string ⟨⟨regN 15 1⟩⟩) ∧ Below w.heap.size w w' := reg_of w hN _ _ _ (by kernel_rfl)
theorem reg_15_2 (w : World) (hN : NeedOk gs w ∧ gn ≤ w.heap.size) : Calls Tryz.prog 55 #[.int .i64 15, .int .i64 4] w fun e w' => e = .returned (.string ⟨⟨regN 15 2⟩⟩) ∧ Below w.heap.size w w' := reg_of w hN _ _ _ (by kernel_rfl)
theorem reg_15_3 (w : World) (hN : NeedOk gs w ∧ gn ≤ w.heap.size) : Calls Tryz.prog 55 #[.int .i64 15, .int .i64 8] w fun e w' => e = .returned (.string ⟨⟨regN 15 3⟩⟩) ∧ Below w.heap.size w w' := reg_of w hN _ _ _ (by kernel_rfl)
theorem reg_15_o (w : World) (hN : NeedOk gs w ∧ gn ≤ w.heap.size) (x : Int) (hx : x ≠ 8 ∧ x ≠ 4 ∧ x ≠ 2 ∧ x ≠ 1) : Calls Tryz.prog 55 #[.int .i64 15, .int .i64 x] w fun e w' => e = .returned (.string ⟨⟨[]⟩⟩) ∧ Below w.heap.size w w' := reg_other w hN _ _ hx (by kernel_rfl)
end Go.Proofs.YtmmpkkpmlaiapaaGreatDoor
