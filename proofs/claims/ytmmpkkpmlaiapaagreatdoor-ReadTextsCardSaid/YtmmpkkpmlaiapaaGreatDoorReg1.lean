/- The names of registers, run. No condition. -/
import Derived.Test.YtmmpkkpmlaiapaaGreatDoorQb
namespace Go.Proofs.YtmmpkkpmlaiapaaGreatDoor
open Go.RowKit
set_option linter.unusedVariables false
theorem reg_4_0 (w : World) (hN : NeedOk gs w ∧ gn ≤ w.heap.size) : Calls Tryz.prog 55 #[.int .i64 4, .int .i64 1] w fun e w' => e = .returned (.string ⟨⟨regN 4 0⟩⟩) ∧ Below w.heap.size w w' := reg_of w hN _ _ _ (by kernel_rfl)
theorem reg_4_1 (w : World) (hN : NeedOk gs w ∧ gn ≤ w.heap.size) : Calls Tryz.prog 55 #[.int .i64 4, .int .i64 2] w fun e w' => e = .returned (.string ⟨⟨regN 4 1⟩⟩) ∧ Below w.heap.size w w' := reg_of w hN _ _ _ (by kernel_rfl)
theorem reg_4_2 (w : World) (hN : NeedOk gs w ∧ gn ≤ w.heap.size) : Calls Tryz.prog 55 #[.int .i64 4, .int .i64 4] w fun e w' => e = .returned (.string ⟨⟨regN 4 2⟩⟩) ∧ Below w.heap.size w w' := reg_of w hN _ _ _ (by kernel_rfl)
theorem reg_4_3 (w : World) (hN : NeedOk gs w ∧ gn ≤ w.heap.size) : Calls Tryz.prog 55 #[.int .i64 4, .int .i64 8] w fun e w' => e = .returned (.string ⟨⟨regN 4 3⟩⟩) ∧ Below w.heap.size w w' := reg_of w hN _ _ _ (by kernel_rfl)
theorem reg_4_o (w : World) (hN : NeedOk gs w ∧ gn ≤ w.heap.size) (x : Int) (hx : x ≠ 8 ∧ x ≠ 4 ∧ x ≠ 2 ∧ x ≠ 1) : Calls Tryz.prog 55 #[.int .i64 4, .int .i64 x] w fun e w' => e = .returned (.string ⟨⟨[]⟩⟩) ∧ Below w.heap.size w w' := reg_other w hN _ _ hx (by kernel_rfl)
theorem reg_5_0 (w : World) (hN : NeedOk gs w ∧ gn ≤ w.heap.size) : Calls Tryz.prog 55 #[.int .i64 5, .int .i64 1] w fun e w' => e = .returned (.string ⟨⟨regN 5 0⟩⟩) ∧ Below w.heap.size w w' := reg_of w hN _ _ _ (by kernel_rfl)
theorem reg_5_1 (w : World) (hN : NeedOk gs w ∧ gn ≤ w.heap.size) : Calls Tryz.prog 55 #[.int .i64 5, .int .i64 2] w fun e w' => e = .returned (.string ⟨⟨regN 5 1⟩⟩) ∧ Below w.heap.size w w' := reg_of w hN _ _ _ (by kernel_rfl)
theorem reg_5_2 (w : World) (hN : NeedOk gs w ∧ gn ≤ w.heap.size) : Calls Tryz.prog 55 #[.int .i64 5, .int .i64 4] w fun e w' => e = .returned (.string ⟨⟨regN 5 2⟩⟩) ∧ Below w.heap.size w w' := reg_of w hN _ _ _ (by kernel_rfl)
theorem reg_5_3 (w : World) (hN : NeedOk gs w ∧ gn ≤ w.heap.size) : Calls Tryz.prog 55 #[.int .i64 5, .int .i64 8] w fun e w' => e = .returned (.string ⟨⟨regN 5 3⟩⟩) ∧ Below w.heap.size w w' := reg_of w hN _ _ _ (by kernel_rfl)
theorem reg_5_o (w : World) (hN : NeedOk gs w ∧ gn ≤ w.heap.size) (x : Int) (hx : x ≠ 8 ∧ x ≠ 4 ∧ x ≠ 2 ∧ x ≠ 1) : Calls Tryz.prog 55 #[.int .i64 5, .int .i64 x] w fun e w' => e = .returned (.string ⟨⟨[]⟩⟩) ∧ Below w.heap.size w w' := reg_other w hN _ _ hx (by kernel_rfl)
theorem reg_6_0 (w : World) (hN : NeedOk gs w ∧ gn ≤ w.heap.size) : Calls Tryz.prog 55 #[.int .i64 6, .int .i64 1] w fun e w' => e = .returned (.string ⟨⟨regN 6 0⟩⟩) ∧ Below w.heap.size w w' := reg_of w hN _ _ _ (by kernel_rfl)
theorem reg_6_1 (w : World) (hN : NeedOk gs w ∧ gn ≤ w.heap.size) : Calls Tryz.prog 55 #[.int .i64 6, .int .i64 2] w fun e w' => e = .returned (.string ⟨⟨regN 6 1⟩⟩) ∧ Below w.heap.size w w' := reg_of w hN _ _ _ (by kernel_rfl)
theorem reg_6_2 (w : World) (hN : NeedOk gs w ∧ gn ≤ w.heap.size) : Calls Tryz.prog 55 #[.int .i64 6, .int .i64 4] w fun e w' => e = .returned (.string ⟨⟨regN 6 2⟩⟩) ∧ Below w.heap.size w w' := reg_of w hN _ _ _ (by kernel_rfl)
theorem reg_6_3 (w : World) (hN : NeedOk gs w ∧ gn ≤ w.heap.size) : Calls Tryz.prog 55 #[.int .i64 6, .int .i64 8] w fun e w' => e = .returned (.string ⟨⟨regN 6 3⟩⟩) ∧ Below w.heap.size w w' := reg_of w hN _ _ _ (by kernel_rfl)
theorem reg_6_o (w : World) (hN : NeedOk gs w ∧ gn ≤ w.heap.size) (x : Int) (hx : x ≠ 8 ∧ x ≠ 4 ∧ x ≠ 2 ∧ x ≠ 1) : Calls Tryz.prog 55 #[.int .i64 6, .int .i64 x] w fun e w' => e = .returned (.string ⟨⟨[]⟩⟩) ∧ Below w.heap.size w w' := reg_other w hN _ _ hx (by kernel_rfl)
theorem reg_7_0 (w : World) (hN : NeedOk gs w ∧ gn ≤ w.heap.size) : Calls Tryz.prog 55 #[.int .i64 7, .int .i64 1] w fun e w' => e = .returned (.string ⟨⟨regN 7 0⟩⟩) ∧ Below w.heap.size w w' := reg_of w hN _ _ _ (by kernel_rfl)
theorem reg_7_1 (w : World) (hN : NeedOk gs w ∧ gn ≤ w.heap.size) : Calls Tryz.prog 55 #[.int .i64 7, .int .i64 2] w fun e w' => e = .returned (.string ⟨⟨regN 7 1⟩⟩) ∧ Below w.heap.size w w' := reg_of w hN _ _ _ (by kernel_rfl)
theorem reg_7_2 (w : World) (hN : NeedOk gs w ∧ gn ≤ w.heap.size) : Calls Tryz.prog 55 #[.int .i64 7, .int .i64 4] w fun e w' => e = .returned (.string ⟨⟨regN 7 2⟩⟩) ∧ Below w.heap.size w w' := reg_of w hN _ _ _ (by kernel_rfl)
theorem reg_7_3 (w : World) (hN : NeedOk gs w ∧ gn ≤ w.heap.size) : Calls Tryz.prog 55 #[.int .i64 7, .int .i64 8] w fun e w' => e = .returned (.string ⟨⟨regN 7 3⟩⟩) ∧ Below w.heap.size w w' := reg_of w hN _ _ _ (by kernel_rfl)
theorem reg_7_o (w : World) (hN : NeedOk gs w ∧ gn ≤ w.heap.size) (x : Int) (hx : x ≠ 8 ∧ x ≠ 4 ∧ x ≠ 2 ∧ x ≠ 1) : Calls Tryz.prog 55 #[.int .i64 7, .int .i64 x] w fun e w' => e = .returned (.string ⟨⟨[]⟩⟩) ∧ Below w.heap.size w w' := reg_other w hN _ _ hx (by kernel_rfl)
end Go.Proofs.YtmmpkkpmlaiapaaGreatDoor
