/- The names of registers, run. No condition. -/
import Derived.Test.YtmmpkkpmlaiapaaGreatDoorQb
namespace Go.Proofs.YtmmpkkpmlaiapaaGreatDoor
open Go.RowKit
set_option linter.unusedVariables false
theorem reg_8_0 (w : World) (hN : NeedOk gs w ∧ gn ≤ w.heap.size) : Calls Tryz.prog 55 #[.int .i64 8, .int .i64 1] w fun e w' => e = .returned (.string ⟨⟨regN 8 0⟩⟩) ∧ Below w.heap.size w w' := reg_of w hN _ _ _ (by kernel_rfl)
theorem reg_8_1 (w : World) (hN : NeedOk gs w ∧ gn ≤ w.heap.size) : Calls Tryz.prog 55 #[.int .i64 8, .int .i64 2] w fun e w' => e = .returned (.string ⟨⟨regN 8 1⟩⟩) ∧ Below w.heap.size w w' := reg_of w hN _ _ _ (by kernel_rfl)
theorem reg_8_2 (w : World) (hN : NeedOk gs w ∧ gn ≤ w.heap.size) : Calls Tryz.prog 55 #[.int .i64 8, .int .i64 4] w fun e w' => e = .returned (.string ⟨⟨regN 8 2⟩⟩) ∧ Below w.heap.size w w' := reg_of w hN _ _ _ (by kernel_rfl)
theorem reg_8_3 (w : World) (hN : NeedOk gs w ∧ gn ≤ w.heap.size) : Calls Tryz.prog 55 #[.int .i64 8, .int .i64 8] w fun e w' => e = .returned (.string ⟨⟨regN 8 3⟩⟩) ∧ Below w.heap.size w w' := reg_of w hN _ _ _ (by kernel_rfl)
theorem reg_8_o (w : World) (hN : NeedOk gs w ∧ gn ≤ w.heap.size) (x : Int) (hx : x ≠ 8 ∧ x ≠ 4 ∧ x ≠ 2 ∧ x ≠ 1) : Calls Tryz.prog 55 #[.int .i64 8, .int .i64 x] w fun e w' => e = .returned (.string ⟨⟨[]⟩⟩) ∧ Below w.heap.size w w' := reg_other w hN _ _ hx (by kernel_rfl)
theorem reg_9_0 (w : World) (hN : NeedOk gs w ∧ gn ≤ w.heap.size) : Calls Tryz.prog 55 #[.int .i64 9, .int .i64 1] w fun e w' => e = .returned (.string ⟨⟨regN 9 0⟩⟩) ∧ Below w.heap.size w w' := reg_of w hN _ _ _ (by kernel_rfl)
theorem reg_9_1 (w : World) (hN : NeedOk gs w ∧ gn ≤ w.heap.size) : Calls Tryz.prog 55 #[.int .i64 9, .int .i64 2] w fun e w' => e = .returned (.string ⟨⟨regN 9 1⟩⟩) ∧ Below w.heap.size w w' := reg_of w hN _ _ _ (by kernel_rfl)
theorem reg_9_2 (w : World) (hN : NeedOk gs w ∧ gn ≤ w.heap.size) : Calls Tryz.prog 55 #[.int .i64 9, .int .i64 4] w fun e w' => e = .returned (.string ⟨⟨regN 9 2⟩⟩) ∧ Below w.heap.size w w' := reg_of w hN _ _ _ (by kernel_rfl)
theorem reg_9_3 (w : World) (hN : NeedOk gs w ∧ gn ≤ w.heap.size) : Calls Tryz.prog 55 #[.int .i64 9, .int .i64 8] w fun e w' => e = .returned (.string ⟨⟨regN 9 3⟩⟩) ∧ Below w.heap.size w w' := reg_of w hN _ _ _ (by kernel_rfl)
theorem reg_9_o (w : World) (hN : NeedOk gs w ∧ gn ≤ w.heap.size) (x : Int) (hx : x ≠ 8 ∧ x ≠ 4 ∧ x ≠ 2 ∧ x ≠ 1) : Calls Tryz.prog 55 #[.int .i64 9, .int .i64 x] w fun e w' => e = .returned (.string ⟨⟨[]⟩⟩) ∧ Below w.heap.size w w' := reg_other w hN _ _ hx (by kernel_rfl)
theorem reg_10_0 (w : World) (hN : NeedOk gs w ∧ gn ≤ w.heap.size) : Calls Tryz.prog 55 #[.int .i64 10, .int .i64 1] w fun e w' => e = .returned (.string ⟨⟨regN 10 0⟩⟩) ∧ Below w.heap.size w w' := reg_of w hN _ _ _ (by kernel_rfl)
theorem reg_10_1 (w : World) (hN : NeedOk gs w ∧ gn ≤ w.heap.size) : Calls Tryz.prog 55 #[.int .i64 10, .int .i64 2] w fun e w' => e = .returned (.string ⟨⟨regN 10 1⟩⟩) ∧ Below w.heap.size w w' := reg_of w hN _ _ _ (by kernel_rfl)
theorem reg_10_2 (w : World) (hN : NeedOk gs w ∧ gn ≤ w.heap.size) : Calls Tryz.prog 55 #[.int .i64 10, .int .i64 4] w fun e w' => e = .returned (.string ⟨⟨regN 10 2⟩⟩) ∧ Below w.heap.size w w' := reg_of w hN _ _ _ (by kernel_rfl)
theorem reg_10_3 (w : World) (hN : NeedOk gs w ∧ gn ≤ w.heap.size) : Calls Tryz.prog 55 #[.int .i64 10, .int .i64 8] w fun e w' => e = .returned (.string ⟨⟨regN 10 3⟩⟩) ∧ Below w.heap.size w w' := reg_of w hN _ _ _ (by kernel_rfl)
theorem reg_10_o (w : World) (hN : NeedOk gs w ∧ gn ≤ w.heap.size) (x : Int) (hx : x ≠ 8 ∧ x ≠ 4 ∧ x ≠ 2 ∧ x ≠ 1) : Calls Tryz.prog 55 #[.int .i64 10, .int .i64 x] w fun e w' => e = .returned (.string ⟨⟨[]⟩⟩) ∧ Below w.heap.size w w' := reg_other w hN _ _ hx (by kernel_rfl)
theorem reg_11_0 (w : World) (hN : NeedOk gs w ∧ gn ≤ w.heap.size) : Calls Tryz.prog 55 #[.int .i64 11, .int .i64 1] w fun e w' => e = .returned (.string ⟨⟨regN 11 0⟩⟩) ∧ Below w.heap.size w w' := reg_of w hN _ _ _ (by kernel_rfl)
theorem reg_11_1 (w : World) (hN : NeedOk gs w ∧ gn ≤ w.heap.size) : Calls Tryz.prog 55 #[.int .i64 11, .int .i64 2] w fun e w' => e = .returned (.string ⟨⟨regN 11 1⟩⟩) ∧ Below w.heap.size w w' := reg_of w hN _ _ _ (by kernel_rfl)
theorem reg_11_2 (w : World) (hN : NeedOk gs w ∧ gn ≤ w.heap.size) : Calls Tryz.prog 55 #[.int .i64 11, .int .i64 4] w fun e w' => e = .returned (.string ⟨⟨regN 11 2⟩⟩) ∧ Below w.heap.size w w' := reg_of w hN _ _ _ (by kernel_rfl)
theorem reg_11_3 (w : World) (hN : NeedOk gs w ∧ gn ≤ w.heap.size) : Calls Tryz.prog 55 #[.int .i64 11, .int .i64 8] w fun e w' => e = .returned (.string ⟨⟨regN 11 3⟩⟩) ∧ Below w.heap.size w w' := reg_of w hN _ _ _ (by kernel_rfl)
theorem reg_11_o (w : World) (hN : NeedOk gs w ∧ gn ≤ w.heap.size) (x : Int) (hx : x ≠ 8 ∧ x ≠ 4 ∧ x ≠ 2 ∧ x ≠ 1) : Calls Tryz.prog 55 #[.int .i64 11, .int .i64 x] w fun e w' => e = .returned (.string ⟨⟨[]⟩⟩) ∧ Below w.heap.size w w' := reg_other w hN _ _ hx (by kernel_rfl)
end Go.Proofs.YtmmpkkpmlaiapaaGreatDoor
