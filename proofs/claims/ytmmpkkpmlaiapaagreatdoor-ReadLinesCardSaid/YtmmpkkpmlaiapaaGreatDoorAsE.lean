/- asm's and the document's small functions, run at all their arguments. asm.Cond beyond its letters; the document's table of registers, run. The document's table of registers, run; what stands in it. No condition. -/
import Derived.Test.YtmmpkkpmlaiapaaGreatDoorQd
namespace Go.Proofs.YtmmpkkpmlaiapaaGreatDoor
open Go.RowKit
set_option linter.unusedVariables false
def RunsTo (f : FuncId) (xs : List Value) (v : Value) : Prop := ∀ w : World, NeedOk gs w ∧ gn ≤ w.heap.size → Calls Tryz.prog f xs.toArray w fun e w' => e = .returned v ∧ Below w.heap.size w w'
theorem runs_to {f : FuncId} {xs : List Value} {v : Value} (h : (vcall (Sy.none Tryz.prog (fun _ => none) gn) 100000 60 gn f xs (globW gn gs)).map (·.1) = some v) (hx : pfs xs = true) (hv : pf v = true) : RunsTo f xs v := fun w hN =>
  vrunG _ mixed 100000 60 f gn gs _ xs v (fun g hg => Nat.blt_eq.mp hg) w hN.2 gs_ok hN.1 (fun _ => LR.of_pfs hx) hv h
theorem cond_0 : RunsTo 71 [.int .i64 0] (.string ⟨⟨[101]⟩⟩) := runs_to (by kernel_rfl) rfl rfl
theorem rcond_0 : RunsTo 22 [.int .i64 0] (.string ⟨⟨[101]⟩⟩) := runs_to (by kernel_rfl) rfl rfl
theorem cond_1 : RunsTo 71 [.int .i64 1] (.string ⟨⟨[110, 101]⟩⟩) := runs_to (by kernel_rfl) rfl rfl
theorem rcond_1 : RunsTo 22 [.int .i64 1] (.string ⟨⟨[110, 101]⟩⟩) := runs_to (by kernel_rfl) rfl rfl
theorem cond_2 : RunsTo 71 [.int .i64 2] (.string ⟨⟨[108]⟩⟩) := runs_to (by kernel_rfl) rfl rfl
theorem rcond_2 : RunsTo 22 [.int .i64 2] (.string ⟨⟨[108]⟩⟩) := runs_to (by kernel_rfl) rfl rfl
theorem cond_3 : RunsTo 71 [.int .i64 3] (.string ⟨⟨[108, 101]⟩⟩) := runs_to (by kernel_rfl) rfl rfl
theorem rcond_3 : RunsTo 22 [.int .i64 3] (.string ⟨⟨[108, 101]⟩⟩) := runs_to (by kernel_rfl) rfl rfl
theorem cond_4 : RunsTo 71 [.int .i64 4] (.string ⟨⟨[103]⟩⟩) := runs_to (by kernel_rfl) rfl rfl
theorem rcond_4 : RunsTo 22 [.int .i64 4] (.string ⟨⟨[103]⟩⟩) := runs_to (by kernel_rfl) rfl rfl
theorem cond_5 : RunsTo 71 [.int .i64 5] (.string ⟨⟨[103, 101]⟩⟩) := runs_to (by kernel_rfl) rfl rfl
theorem rcond_5 : RunsTo 22 [.int .i64 5] (.string ⟨⟨[103, 101]⟩⟩) := runs_to (by kernel_rfl) rfl rfl
theorem cond_6 : RunsTo 71 [.int .i64 6] (.string ⟨⟨[98]⟩⟩) := runs_to (by kernel_rfl) rfl rfl
theorem rcond_6 : RunsTo 22 [.int .i64 6] (.string ⟨⟨[98]⟩⟩) := runs_to (by kernel_rfl) rfl rfl
theorem cond_7 : RunsTo 71 [.int .i64 7] (.string ⟨⟨[98, 101]⟩⟩) := runs_to (by kernel_rfl) rfl rfl
theorem rcond_7 : RunsTo 22 [.int .i64 7] (.string ⟨⟨[98, 101]⟩⟩) := runs_to (by kernel_rfl) rfl rfl
theorem cond_8 : RunsTo 71 [.int .i64 8] (.string ⟨⟨[97]⟩⟩) := runs_to (by kernel_rfl) rfl rfl
theorem rcond_8 : RunsTo 22 [.int .i64 8] (.string ⟨⟨[97]⟩⟩) := runs_to (by kernel_rfl) rfl rfl
theorem cond_9 : RunsTo 71 [.int .i64 9] (.string ⟨⟨[97, 101]⟩⟩) := runs_to (by kernel_rfl) rfl rfl
theorem rcond_9 : RunsTo 22 [.int .i64 9] (.string ⟨⟨[97, 101]⟩⟩) := runs_to (by kernel_rfl) rfl rfl
theorem move_1_1 : RunsTo 53 [.int .i64 1, .bool true] (.tuple #[.string ⟨⟨[109, 111, 118, 115, 98, 113]⟩⟩, .int .i64 8]) := runs_to (by kernel_rfl) rfl rfl
theorem wide_1_1 : RunsTo 20 [.int .i64 1, .bool true] (.tuple #[.string ⟨⟨[109, 111, 118, 115, 98, 113]⟩⟩, .int .i64 8]) := runs_to (by kernel_rfl) rfl rfl
theorem move_1_0 : RunsTo 53 [.int .i64 1, .bool false] (.tuple #[.string ⟨⟨[109, 111, 118, 122, 98, 113]⟩⟩, .int .i64 8]) := runs_to (by kernel_rfl) rfl rfl
theorem wide_1_0 : RunsTo 20 [.int .i64 1, .bool false] (.tuple #[.string ⟨⟨[109, 111, 118, 122, 98, 113]⟩⟩, .int .i64 8]) := runs_to (by kernel_rfl) rfl rfl
theorem move_2_1 : RunsTo 53 [.int .i64 2, .bool true] (.tuple #[.string ⟨⟨[109, 111, 118, 115, 119, 113]⟩⟩, .int .i64 8]) := runs_to (by kernel_rfl) rfl rfl
theorem wide_2_1 : RunsTo 20 [.int .i64 2, .bool true] (.tuple #[.string ⟨⟨[109, 111, 118, 115, 119, 113]⟩⟩, .int .i64 8]) := runs_to (by kernel_rfl) rfl rfl
theorem move_2_0 : RunsTo 53 [.int .i64 2, .bool false] (.tuple #[.string ⟨⟨[109, 111, 118, 122, 119, 113]⟩⟩, .int .i64 8]) := runs_to (by kernel_rfl) rfl rfl
theorem wide_2_0 : RunsTo 20 [.int .i64 2, .bool false] (.tuple #[.string ⟨⟨[109, 111, 118, 122, 119, 113]⟩⟩, .int .i64 8]) := runs_to (by kernel_rfl) rfl rfl
theorem move_4_1 : RunsTo 53 [.int .i64 4, .bool true] (.tuple #[.string ⟨⟨[109, 111, 118, 115, 108, 113]⟩⟩, .int .i64 8]) := runs_to (by kernel_rfl) rfl rfl
theorem wide_4_1 : RunsTo 20 [.int .i64 4, .bool true] (.tuple #[.string ⟨⟨[109, 111, 118, 115, 108, 113]⟩⟩, .int .i64 8]) := runs_to (by kernel_rfl) rfl rfl
theorem move_4_0 : RunsTo 53 [.int .i64 4, .bool false] (.tuple #[.string ⟨⟨[109, 111, 118, 108]⟩⟩, .int .i64 4]) := runs_to (by kernel_rfl) rfl rfl
theorem wide_4_0 : RunsTo 20 [.int .i64 4, .bool false] (.tuple #[.string ⟨⟨[109, 111, 118, 108]⟩⟩, .int .i64 4]) := runs_to (by kernel_rfl) rfl rfl
theorem move_8_0 : RunsTo 53 [.int .i64 8, .bool false] (.tuple #[.string ⟨⟨[109, 111, 118, 113]⟩⟩, .int .i64 8]) := runs_to (by kernel_rfl) rfl rfl
theorem wide_8_0 : RunsTo 20 [.int .i64 8, .bool false] (.tuple #[.string ⟨⟨[109, 111, 118, 113]⟩⟩, .int .i64 8]) := runs_to (by kernel_rfl) rfl rfl
theorem move_8_1 : RunsTo 53 [.int .i64 8, .bool true] (.tuple #[.string ⟨⟨[109, 111, 118, 113]⟩⟩, .int .i64 8]) := runs_to (by kernel_rfl) rfl rfl
theorem wide_8_1 : RunsTo 20 [.int .i64 8, .bool true] (.tuple #[.string ⟨⟨[109, 111, 118, 113]⟩⟩, .int .i64 8]) := runs_to (by kernel_rfl) rfl rfl
theorem letter_1 : RunsTo 56 [.int .i64 1] (.string ⟨⟨[98]⟩⟩) := runs_to (by kernel_rfl) rfl rfl
theorem letter_2 : RunsTo 56 [.int .i64 2] (.string ⟨⟨[119]⟩⟩) := runs_to (by kernel_rfl) rfl rfl
theorem letter_4 : RunsTo 56 [.int .i64 4] (.string ⟨⟨[108]⟩⟩) := runs_to (by kernel_rfl) rfl rfl
theorem letter_8 : RunsTo 56 [.int .i64 8] (.string ⟨⟨[113]⟩⟩) := runs_to (by kernel_rfl) rfl rfl
theorem alu_7 : RunsTo 57 [.int .i64 7] (.string ⟨⟨[97, 100, 100, 113]⟩⟩) := runs_to (by kernel_rfl) rfl rfl
theorem alu_8 : RunsTo 57 [.int .i64 8] (.string ⟨⟨[115, 117, 98, 113]⟩⟩) := runs_to (by kernel_rfl) rfl rfl
theorem alu_9 : RunsTo 57 [.int .i64 9] (.string ⟨⟨[97, 110, 100, 113]⟩⟩) := runs_to (by kernel_rfl) rfl rfl
theorem alu_10 : RunsTo 57 [.int .i64 10] (.string ⟨⟨[111, 114, 113]⟩⟩) := runs_to (by kernel_rfl) rfl rfl
theorem alu_11 : RunsTo 57 [.int .i64 11] (.string ⟨⟨[120, 111, 114, 113]⟩⟩) := runs_to (by kernel_rfl) rfl rfl
theorem alu_12 : RunsTo 57 [.int .i64 12] (.string ⟨⟨[105, 109, 117, 108, 113]⟩⟩) := runs_to (by kernel_rfl) rfl rfl
theorem alu_13 : RunsTo 57 [.int .i64 13] (.string ⟨⟨[99, 109, 112, 113]⟩⟩) := runs_to (by kernel_rfl) rfl rfl
theorem alu_14 : RunsTo 57 [.int .i64 14] (.string ⟨⟨[97, 100, 100, 113]⟩⟩) := runs_to (by kernel_rfl) rfl rfl
theorem alu_15 : RunsTo 57 [.int .i64 15] (.string ⟨⟨[115, 117, 98, 113]⟩⟩) := runs_to (by kernel_rfl) rfl rfl
theorem alu_16 : RunsTo 57 [.int .i64 16] (.string ⟨⟨[97, 110, 100, 113]⟩⟩) := runs_to (by kernel_rfl) rfl rfl
theorem alu_17 : RunsTo 57 [.int .i64 17] (.string ⟨⟨[111, 114, 113]⟩⟩) := runs_to (by kernel_rfl) rfl rfl
theorem alu_18 : RunsTo 57 [.int .i64 18] (.string ⟨⟨[120, 111, 114, 113]⟩⟩) := runs_to (by kernel_rfl) rfl rfl
theorem alu_19 : RunsTo 57 [.int .i64 19] (.string ⟨⟨[105, 109, 117, 108, 113]⟩⟩) := runs_to (by kernel_rfl) rfl rfl
theorem alu_20 : RunsTo 57 [.int .i64 20] (.string ⟨⟨[99, 109, 112, 113]⟩⟩) := runs_to (by kernel_rfl) rfl rfl
theorem shift_21 : RunsTo 58 [.int .i64 21] (.string ⟨⟨[115, 104, 108, 113]⟩⟩) := runs_to (by kernel_rfl) rfl rfl
theorem shift_22 : RunsTo 58 [.int .i64 22] (.string ⟨⟨[115, 97, 114, 113]⟩⟩) := runs_to (by kernel_rfl) rfl rfl
theorem shift_23 : RunsTo 58 [.int .i64 23] (.string ⟨⟨[115, 104, 114, 113]⟩⟩) := runs_to (by kernel_rfl) rfl rfl
theorem shift_24 : RunsTo 58 [.int .i64 24] (.string ⟨⟨[115, 104, 108, 113]⟩⟩) := runs_to (by kernel_rfl) rfl rfl
theorem shift_25 : RunsTo 58 [.int .i64 25] (.string ⟨⟨[115, 97, 114, 113]⟩⟩) := runs_to (by kernel_rfl) rfl rfl
theorem shift_26 : RunsTo 58 [.int .i64 26] (.string ⟨⟨[115, 104, 114, 113]⟩⟩) := runs_to (by kernel_rfl) rfl rfl
theorem name_7 : RunsTo 23 [.int .i64 7] (.string ⟨⟨[97, 100, 100, 113]⟩⟩) := runs_to (by kernel_rfl) rfl rfl
theorem name_8 : RunsTo 23 [.int .i64 8] (.string ⟨⟨[115, 117, 98, 113]⟩⟩) := runs_to (by kernel_rfl) rfl rfl
theorem name_9 : RunsTo 23 [.int .i64 9] (.string ⟨⟨[97, 110, 100, 113]⟩⟩) := runs_to (by kernel_rfl) rfl rfl
theorem name_10 : RunsTo 23 [.int .i64 10] (.string ⟨⟨[111, 114, 113]⟩⟩) := runs_to (by kernel_rfl) rfl rfl
theorem name_11 : RunsTo 23 [.int .i64 11] (.string ⟨⟨[120, 111, 114, 113]⟩⟩) := runs_to (by kernel_rfl) rfl rfl
theorem name_12 : RunsTo 23 [.int .i64 12] (.string ⟨⟨[105, 109, 117, 108, 113]⟩⟩) := runs_to (by kernel_rfl) rfl rfl
theorem name_13 : RunsTo 23 [.int .i64 13] (.string ⟨⟨[99, 109, 112, 113]⟩⟩) := runs_to (by kernel_rfl) rfl rfl
theorem name_14 : RunsTo 23 [.int .i64 14] (.string ⟨⟨[97, 100, 100, 113]⟩⟩) := runs_to (by kernel_rfl) rfl rfl
theorem name_15 : RunsTo 23 [.int .i64 15] (.string ⟨⟨[115, 117, 98, 113]⟩⟩) := runs_to (by kernel_rfl) rfl rfl
theorem name_16 : RunsTo 23 [.int .i64 16] (.string ⟨⟨[97, 110, 100, 113]⟩⟩) := runs_to (by kernel_rfl) rfl rfl
theorem name_17 : RunsTo 23 [.int .i64 17] (.string ⟨⟨[111, 114, 113]⟩⟩) := runs_to (by kernel_rfl) rfl rfl
theorem name_18 : RunsTo 23 [.int .i64 18] (.string ⟨⟨[120, 111, 114, 113]⟩⟩) := runs_to (by kernel_rfl) rfl rfl
theorem name_19 : RunsTo 23 [.int .i64 19] (.string ⟨⟨[105, 109, 117, 108, 113]⟩⟩) := runs_to (by kernel_rfl) rfl rfl
theorem name_20 : RunsTo 23 [.int .i64 20] (.string ⟨⟨[99, 109, 112, 113]⟩⟩) := runs_to (by kernel_rfl) rfl rfl
theorem name_21 : RunsTo 23 [.int .i64 21] (.string ⟨⟨[115, 104, 108, 113]⟩⟩) := runs_to (by kernel_rfl) rfl rfl
theorem name_22 : RunsTo 23 [.int .i64 22] (.string ⟨⟨[115, 97, 114, 113]⟩⟩) := runs_to (by kernel_rfl) rfl rfl
theorem name_23 : RunsTo 23 [.int .i64 23] (.string ⟨⟨[115, 104, 114, 113]⟩⟩) := runs_to (by kernel_rfl) rfl rfl
theorem name_24 : RunsTo 23 [.int .i64 24] (.string ⟨⟨[115, 104, 108, 113]⟩⟩) := runs_to (by kernel_rfl) rfl rfl
theorem name_25 : RunsTo 23 [.int .i64 25] (.string ⟨⟨[115, 97, 114, 113]⟩⟩) := runs_to (by kernel_rfl) rfl rfl
theorem name_26 : RunsTo 23 [.int .i64 26] (.string ⟨⟨[115, 104, 114, 113]⟩⟩) := runs_to (by kernel_rfl) rfl rfl
theorem name_27 : RunsTo 23 [.int .i64 27] (.string ⟨⟨[99, 113, 116, 111]⟩⟩) := runs_to (by kernel_rfl) rfl rfl
theorem name_28 : RunsTo 23 [.int .i64 28] (.string ⟨⟨[105, 100, 105, 118, 113]⟩⟩) := runs_to (by kernel_rfl) rfl rfl
theorem name_29 : RunsTo 23 [.int .i64 29] (.string ⟨⟨[100, 105, 118, 113]⟩⟩) := runs_to (by kernel_rfl) rfl rfl
theorem name_38 : RunsTo 23 [.int .i64 38] (.string ⟨⟨[114, 101, 116]⟩⟩) := runs_to (by kernel_rfl) rfl rfl
theorem name_39 : RunsTo 23 [.int .i64 39] (.string ⟨⟨[108, 102, 101, 110, 99, 101]⟩⟩) := runs_to (by kernel_rfl) rfl rfl
theorem name_40 : RunsTo 23 [.int .i64 40] (.string ⟨⟨[111, 117, 116, 113]⟩⟩) := runs_to (by kernel_rfl) rfl rfl
theorem name_41 : RunsTo 23 [.int .i64 41] (.string ⟨⟨[104, 108, 116]⟩⟩) := runs_to (by kernel_rfl) rfl rfl
theorem jumps_1 : RunsTo 50 [.int .i64 1] (.bool false) := runs_to (by kernel_rfl) rfl rfl
theorem jumps_2 : RunsTo 50 [.int .i64 2] (.bool false) := runs_to (by kernel_rfl) rfl rfl
theorem jumps_3 : RunsTo 50 [.int .i64 3] (.bool false) := runs_to (by kernel_rfl) rfl rfl
theorem jumps_4 : RunsTo 50 [.int .i64 4] (.bool false) := runs_to (by kernel_rfl) rfl rfl
theorem jumps_5 : RunsTo 50 [.int .i64 5] (.bool false) := runs_to (by kernel_rfl) rfl rfl
theorem jumps_6 : RunsTo 50 [.int .i64 6] (.bool true) := runs_to (by kernel_rfl) rfl rfl
theorem jumps_7 : RunsTo 50 [.int .i64 7] (.bool false) := runs_to (by kernel_rfl) rfl rfl
theorem jumps_8 : RunsTo 50 [.int .i64 8] (.bool false) := runs_to (by kernel_rfl) rfl rfl
theorem jumps_9 : RunsTo 50 [.int .i64 9] (.bool false) := runs_to (by kernel_rfl) rfl rfl
theorem jumps_10 : RunsTo 50 [.int .i64 10] (.bool false) := runs_to (by kernel_rfl) rfl rfl
theorem jumps_11 : RunsTo 50 [.int .i64 11] (.bool false) := runs_to (by kernel_rfl) rfl rfl
theorem jumps_12 : RunsTo 50 [.int .i64 12] (.bool false) := runs_to (by kernel_rfl) rfl rfl
theorem jumps_13 : RunsTo 50 [.int .i64 13] (.bool false) := runs_to (by kernel_rfl) rfl rfl
theorem jumps_14 : RunsTo 50 [.int .i64 14] (.bool false) := runs_to (by kernel_rfl) rfl rfl
theorem jumps_15 : RunsTo 50 [.int .i64 15] (.bool false) := runs_to (by kernel_rfl) rfl rfl
theorem jumps_16 : RunsTo 50 [.int .i64 16] (.bool false) := runs_to (by kernel_rfl) rfl rfl
theorem jumps_17 : RunsTo 50 [.int .i64 17] (.bool false) := runs_to (by kernel_rfl) rfl rfl
theorem jumps_18 : RunsTo 50 [.int .i64 18] (.bool false) := runs_to (by kernel_rfl) rfl rfl
theorem jumps_19 : RunsTo 50 [.int .i64 19] (.bool false) := runs_to (by kernel_rfl) rfl rfl
theorem jumps_20 : RunsTo 50 [.int .i64 20] (.bool false) := runs_to (by kernel_rfl) rfl rfl
theorem jumps_21 : RunsTo 50 [.int .i64 21] (.bool false) := runs_to (by kernel_rfl) rfl rfl
theorem jumps_22 : RunsTo 50 [.int .i64 22] (.bool false) := runs_to (by kernel_rfl) rfl rfl
theorem jumps_23 : RunsTo 50 [.int .i64 23] (.bool false) := runs_to (by kernel_rfl) rfl rfl
theorem jumps_24 : RunsTo 50 [.int .i64 24] (.bool false) := runs_to (by kernel_rfl) rfl rfl
theorem jumps_25 : RunsTo 50 [.int .i64 25] (.bool false) := runs_to (by kernel_rfl) rfl rfl
theorem jumps_26 : RunsTo 50 [.int .i64 26] (.bool false) := runs_to (by kernel_rfl) rfl rfl
theorem jumps_27 : RunsTo 50 [.int .i64 27] (.bool false) := runs_to (by kernel_rfl) rfl rfl
theorem jumps_28 : RunsTo 50 [.int .i64 28] (.bool false) := runs_to (by kernel_rfl) rfl rfl
theorem jumps_29 : RunsTo 50 [.int .i64 29] (.bool false) := runs_to (by kernel_rfl) rfl rfl
theorem jumps_30 : RunsTo 50 [.int .i64 30] (.bool false) := runs_to (by kernel_rfl) rfl rfl
theorem jumps_31 : RunsTo 50 [.int .i64 31] (.bool false) := runs_to (by kernel_rfl) rfl rfl
theorem jumps_32 : RunsTo 50 [.int .i64 32] (.bool false) := runs_to (by kernel_rfl) rfl rfl
theorem jumps_33 : RunsTo 50 [.int .i64 33] (.bool true) := runs_to (by kernel_rfl) rfl rfl
theorem jumps_34 : RunsTo 50 [.int .i64 34] (.bool true) := runs_to (by kernel_rfl) rfl rfl
theorem jumps_35 : RunsTo 50 [.int .i64 35] (.bool true) := runs_to (by kernel_rfl) rfl rfl
theorem jumps_36 : RunsTo 50 [.int .i64 36] (.bool false) := runs_to (by kernel_rfl) rfl rfl
theorem jumps_37 : RunsTo 50 [.int .i64 37] (.bool false) := runs_to (by kernel_rfl) rfl rfl
theorem jumps_38 : RunsTo 50 [.int .i64 38] (.bool false) := runs_to (by kernel_rfl) rfl rfl
theorem jumps_39 : RunsTo 50 [.int .i64 39] (.bool false) := runs_to (by kernel_rfl) rfl rfl
theorem jumps_40 : RunsTo 50 [.int .i64 40] (.bool false) := runs_to (by kernel_rfl) rfl rfl
theorem jumps_41 : RunsTo 50 [.int .i64 41] (.bool false) := runs_to (by kernel_rfl) rfl rfl
end Go.Proofs.YtmmpkkpmlaiapaaGreatDoor
namespace Go.Proofs.YtmmpkkpmlaiapaaGreatDoor
open Go.RowKit
set_option linter.unusedVariables false
def cLow : Value := symNode .lss .i64 (mark .i64 0) (.int .i64 0)
def cHigh : Value := symNode .geq .i64 (mark .i64 0) (.int .i64 10)
theorem clow_ok {c : Int} (h : c < 0) : KnowOk (fun _ => c) [(cLow, .bool true)] := by
  intro p hp
  simp only [List.mem_cons, List.mem_nil_iff, or_false] at hp
  subst hp
  refine ⟨den_cmp rfl (den_mark _ _ _) (den_lit _ _ _) ?_, rfl⟩
  simp [evB2, isShift, evB, h]
theorem chigh_ok {c : Int} (h : ¬ c < 0) (h2 : 10 ≤ c) : KnowOk (fun _ => c) [(cLow, .bool false), (cHigh, .bool true)] := by
  intro p hp
  simp only [List.mem_cons, List.mem_nil_iff, or_false] at hp
  rcases hp with rfl | rfl <;> refine ⟨den_cmp rfl (den_mark _ _ _) (den_lit _ _ _) ?_, rfl⟩ <;> simp [evB2, isShift, evB, h, h2]
theorem cond_low (w : World) (hN : NeedOk gs w ∧ gn ≤ w.heap.size) (c : Int) (h : c < 0) : Calls Tryz.prog 71 #[.int .i64 c] w fun e w' => e = .returned (.string ⟨⟨[]⟩⟩) ∧ Below w.heap.size w w' :=
  vrunG (Sy.ints Tryz.prog (fun _ => c) _ (clow_ok h) (Tab.none _) gn) mixed 100000 60 71 gn gs [mark .i64 0] [.int .i64 c] _ (fun g hg => Nat.blt_eq.mp hg) w hN.2 gs_ok hN.1 (fun β => LR.cons (mark_vr (fun _ => c) β .i64 0) LR.nil) rfl (by kernel_rfl)
theorem cond_high (w : World) (hN : NeedOk gs w ∧ gn ≤ w.heap.size) (c : Int) (h : ¬ c < 0) (h2 : 10 ≤ c) : Calls Tryz.prog 71 #[.int .i64 c] w fun e w' => e = .returned (.string ⟨⟨[]⟩⟩) ∧ Below w.heap.size w w' :=
  vrunG (Sy.ints Tryz.prog (fun _ => c) _ (chigh_ok h h2) (Tab.none _) gn) mixed 100000 60 71 gn gs [mark .i64 0] [.int .i64 c] _ (fun g hg => Nat.blt_eq.mp hg) w hN.2 gs_ok hN.1 (fun β => LR.cons (mark_vr (fun _ => c) β .i64 0) LR.nil) rfl (by kernel_rfl)
end Go.Proofs.YtmmpkkpmlaiapaaGreatDoor
namespace Go.Proofs.YtmmpkkpmlaiapaaGreatDoor
open Go.RowKit
set_option linter.unusedVariables false
def regC : List Value := [.string ⟨⟨[114, 97, 120]⟩⟩, .string ⟨⟨[101, 97, 120]⟩⟩, .string ⟨⟨[97, 120]⟩⟩, .string ⟨⟨[97, 108]⟩⟩, .string ⟨⟨[114, 99, 120]⟩⟩, .string ⟨⟨[101, 99, 120]⟩⟩, .string ⟨⟨[99, 120]⟩⟩, .string ⟨⟨[99, 108]⟩⟩, .string ⟨⟨[114, 100, 120]⟩⟩, .string ⟨⟨[101, 100, 120]⟩⟩, .string ⟨⟨[100, 120]⟩⟩, .string ⟨⟨[100, 108]⟩⟩, .string ⟨⟨[114, 98, 120]⟩⟩, .string ⟨⟨[101, 98, 120]⟩⟩, .string ⟨⟨[98, 120]⟩⟩, .string ⟨⟨[98, 108]⟩⟩, .string ⟨⟨[114, 115, 112]⟩⟩, .string ⟨⟨[101, 115, 112]⟩⟩, .string ⟨⟨[115, 112]⟩⟩, .string ⟨⟨[115, 112, 108]⟩⟩, .string ⟨⟨[114, 98, 112]⟩⟩, .string ⟨⟨[101, 98, 112]⟩⟩, .string ⟨⟨[98, 112]⟩⟩, .string ⟨⟨[98, 112, 108]⟩⟩, .string ⟨⟨[114, 115, 105]⟩⟩, .string ⟨⟨[101, 115, 105]⟩⟩, .string ⟨⟨[115, 105]⟩⟩, .string ⟨⟨[115, 105, 108]⟩⟩, .string ⟨⟨[114, 100, 105]⟩⟩, .string ⟨⟨[101, 100, 105]⟩⟩, .string ⟨⟨[100, 105]⟩⟩, .string ⟨⟨[100, 105, 108]⟩⟩, .string ⟨⟨[114, 56]⟩⟩, .string ⟨⟨[114, 56, 100]⟩⟩, .string ⟨⟨[114, 56, 119]⟩⟩, .string ⟨⟨[114, 56, 98]⟩⟩, .string ⟨⟨[114, 57]⟩⟩, .string ⟨⟨[114, 57, 100]⟩⟩, .string ⟨⟨[114, 57, 119]⟩⟩, .string ⟨⟨[114, 57, 98]⟩⟩, .string ⟨⟨[114, 49, 48]⟩⟩, .string ⟨⟨[114, 49, 48, 100]⟩⟩, .string ⟨⟨[114, 49, 48, 119]⟩⟩, .string ⟨⟨[114, 49, 48, 98]⟩⟩, .string ⟨⟨[114, 49, 49]⟩⟩, .string ⟨⟨[114, 49, 49, 100]⟩⟩, .string ⟨⟨[114, 49, 49, 119]⟩⟩, .string ⟨⟨[114, 49, 49, 98]⟩⟩, .string ⟨⟨[114, 49, 50]⟩⟩, .string ⟨⟨[114, 49, 50, 100]⟩⟩, .string ⟨⟨[114, 49, 50, 119]⟩⟩, .string ⟨⟨[114, 49, 50, 98]⟩⟩, .string ⟨⟨[114, 49, 51]⟩⟩, .string ⟨⟨[114, 49, 51, 100]⟩⟩, .string ⟨⟨[114, 49, 51, 119]⟩⟩, .string ⟨⟨[114, 49, 51, 98]⟩⟩, .string ⟨⟨[114, 49, 52]⟩⟩, .string ⟨⟨[114, 49, 52, 100]⟩⟩, .string ⟨⟨[114, 49, 52, 119]⟩⟩, .string ⟨⟨[114, 49, 52, 98]⟩⟩, .string ⟨⟨[114, 49, 53]⟩⟩, .string ⟨⟨[114, 49, 53, 100]⟩⟩, .string ⟨⟨[114, 49, 53, 119]⟩⟩, .string ⟨⟨[114, 49, 53, 98]⟩⟩]
theorem regC_all : ((List.range 16).all fun r => (List.range 4).all fun k => match regC[r * 4 + k]? with | some (.string s) => s.data.toList == regN r (3 - k) | _ => false) = true := by kernel_rfl
theorem regC_at {r k : Nat} (hr : r < 16) (hk : k < 4) : regC[r * 4 + k]? = some (.string ⟨⟨regN r (3 - k)⟩⟩) := by
  have h := regC_all
  simp only [List.all_eq_true, List.mem_range] at h
  have h1 := h r hr k hk
  split at h1
  · rename_i s e
    rw [e]
    have h2 : s.data.toList = regN r (3 - k) := by simpa using h1
    rw [← h2]
  · cases h1
theorem regs_run (w : World) (hN : NeedOk gs w ∧ gn ≤ w.heap.size) : Calls Tryz.prog 39 #[] w fun e w' => e = .returned (.agg ⟨regC⟩) ∧ Below w.heap.size w w' :=
  vrunG (Sy.none Tryz.prog (fun _ => none) gn) mixed 100000 60 39 gn gs [] [] (.agg ⟨regC⟩) (fun g hg => Nat.blt_eq.mp hg) w hN.2 gs_ok hN.1 (fun _ => LR.of_pfs rfl) rfl (by kernel_rfl)
end Go.Proofs.YtmmpkkpmlaiapaaGreatDoor
