/- asm.Reg at every register and size. The listed tables stand in memory and stay; small facts on numbers. asm's and the document's small functions, run at all their arguments. asm.Cond beyond its letters; the document's table of registers, run. The document's table of registers, run; what stands in it. No condition. -/
import Derived.Test.YtmmpkkpmlaiapaaGreatDoorReg0
import Derived.Test.YtmmpkkpmlaiapaaGreatDoorReg1
import Derived.Test.YtmmpkkpmlaiapaaGreatDoorReg2
import Derived.Test.YtmmpkkpmlaiapaaGreatDoorReg3
import Derived.Test.YtmmpkkpmlaiapaaGreatDoorQa
namespace Go.Proofs.YtmmpkkpmlaiapaaGreatDoor
open Go.RowKit
set_option linter.unusedVariables false
def two (a b : Int) : Int → Int := fun i => if i = 0 then a else b
def rLow : Value := symNode .lss .i64 (mark .i64 0) (.int .i64 0)
def rHigh : Value := symNode .gtr .i64 (mark .i64 0) (.int .i64 15)
theorem low_ok {r x : Int} (h : r < 0) : KnowOk (two r x) [(rLow, .bool true)] := by
  intro p hp
  simp only [List.mem_cons, List.mem_nil_iff, or_false] at hp
  subst hp
  refine ⟨den_cmp rfl (den_mark _ _ _) (den_lit _ _ _) ?_, rfl⟩
  simp [evB2, isShift, evB, two, h]
theorem high_ok {r x : Int} (h : ¬ r < 0) (h2 : 15 < r) : KnowOk (two r x) [(rLow, .bool false), (rHigh, .bool true)] := by
  intro p hp
  simp only [List.mem_cons, List.mem_nil_iff, or_false] at hp
  rcases hp with rfl | rfl <;> refine ⟨den_cmp rfl (den_mark _ _ _) (den_lit _ _ _) ?_, rfl⟩ <;> simp [evB2, isShift, evB, two, h, h2]
theorem reg_low (w : World) (r x : Int) (hr : r < 0) : Calls Tryz.prog 55 #[.int .i64 r, .int .i64 x] w fun e w' => e = .returned (.string ⟨⟨[]⟩⟩) ∧ Below w.heap.size w w' :=
  vrunS (Sy.ints Tryz.prog (two r x) _ (low_ok hr) (Tab.none _)) (fun _ => rfl) mixed 100000 60 55 [mark .i64 0, mark .i64 1] [.int .i64 r, .int .i64 x] _ (fun β => LR.cons (mark_vr (two r x) β .i64 0) (LR.cons (mark_vr (two r x) β .i64 1) LR.nil)) rfl (by kernel_rfl) w
theorem reg_high (w : World) (r x : Int) (hr : ¬ r < 0) (hr2 : 15 < r) : Calls Tryz.prog 55 #[.int .i64 r, .int .i64 x] w fun e w' => e = .returned (.string ⟨⟨[]⟩⟩) ∧ Below w.heap.size w w' :=
  vrunS (Sy.ints Tryz.prog (two r x) _ (high_ok hr hr2) (Tab.none _)) (fun _ => rfl) mixed 100000 60 55 [mark .i64 0, mark .i64 1] [.int .i64 r, .int .i64 x] _ (fun β => LR.cons (mark_vr (two r x) β .i64 0) (LR.cons (mark_vr (two r x) β .i64 1) LR.nil)) rfl (by kernel_rfl) w
theorem reg_sizes (w : World) (hN : NeedOk gs w ∧ gn ≤ w.heap.size) (r k : Nat) (hr : r < 16) (hk : k < 4) : Calls Tryz.prog 55 #[.int .i64 (r : Nat), .int .i64 ((2 ^ k : Nat) : Int)] w fun e w' => e = .returned (.string ⟨⟨regN r k⟩⟩) ∧ Below w.heap.size w w' := by
  match r, k, hr, hk with
  | 0, 0, _, _ => exact reg_0_0 w hN
  | 0, 1, _, _ => exact reg_0_1 w hN
  | 0, 2, _, _ => exact reg_0_2 w hN
  | 0, 3, _, _ => exact reg_0_3 w hN
  | 1, 0, _, _ => exact reg_1_0 w hN
  | 1, 1, _, _ => exact reg_1_1 w hN
  | 1, 2, _, _ => exact reg_1_2 w hN
  | 1, 3, _, _ => exact reg_1_3 w hN
  | 2, 0, _, _ => exact reg_2_0 w hN
  | 2, 1, _, _ => exact reg_2_1 w hN
  | 2, 2, _, _ => exact reg_2_2 w hN
  | 2, 3, _, _ => exact reg_2_3 w hN
  | 3, 0, _, _ => exact reg_3_0 w hN
  | 3, 1, _, _ => exact reg_3_1 w hN
  | 3, 2, _, _ => exact reg_3_2 w hN
  | 3, 3, _, _ => exact reg_3_3 w hN
  | 4, 0, _, _ => exact reg_4_0 w hN
  | 4, 1, _, _ => exact reg_4_1 w hN
  | 4, 2, _, _ => exact reg_4_2 w hN
  | 4, 3, _, _ => exact reg_4_3 w hN
  | 5, 0, _, _ => exact reg_5_0 w hN
  | 5, 1, _, _ => exact reg_5_1 w hN
  | 5, 2, _, _ => exact reg_5_2 w hN
  | 5, 3, _, _ => exact reg_5_3 w hN
  | 6, 0, _, _ => exact reg_6_0 w hN
  | 6, 1, _, _ => exact reg_6_1 w hN
  | 6, 2, _, _ => exact reg_6_2 w hN
  | 6, 3, _, _ => exact reg_6_3 w hN
  | 7, 0, _, _ => exact reg_7_0 w hN
  | 7, 1, _, _ => exact reg_7_1 w hN
  | 7, 2, _, _ => exact reg_7_2 w hN
  | 7, 3, _, _ => exact reg_7_3 w hN
  | 8, 0, _, _ => exact reg_8_0 w hN
  | 8, 1, _, _ => exact reg_8_1 w hN
  | 8, 2, _, _ => exact reg_8_2 w hN
  | 8, 3, _, _ => exact reg_8_3 w hN
  | 9, 0, _, _ => exact reg_9_0 w hN
  | 9, 1, _, _ => exact reg_9_1 w hN
  | 9, 2, _, _ => exact reg_9_2 w hN
  | 9, 3, _, _ => exact reg_9_3 w hN
  | 10, 0, _, _ => exact reg_10_0 w hN
  | 10, 1, _, _ => exact reg_10_1 w hN
  | 10, 2, _, _ => exact reg_10_2 w hN
  | 10, 3, _, _ => exact reg_10_3 w hN
  | 11, 0, _, _ => exact reg_11_0 w hN
  | 11, 1, _, _ => exact reg_11_1 w hN
  | 11, 2, _, _ => exact reg_11_2 w hN
  | 11, 3, _, _ => exact reg_11_3 w hN
  | 12, 0, _, _ => exact reg_12_0 w hN
  | 12, 1, _, _ => exact reg_12_1 w hN
  | 12, 2, _, _ => exact reg_12_2 w hN
  | 12, 3, _, _ => exact reg_12_3 w hN
  | 13, 0, _, _ => exact reg_13_0 w hN
  | 13, 1, _, _ => exact reg_13_1 w hN
  | 13, 2, _, _ => exact reg_13_2 w hN
  | 13, 3, _, _ => exact reg_13_3 w hN
  | 14, 0, _, _ => exact reg_14_0 w hN
  | 14, 1, _, _ => exact reg_14_1 w hN
  | 14, 2, _, _ => exact reg_14_2 w hN
  | 14, 3, _, _ => exact reg_14_3 w hN
  | 15, 0, _, _ => exact reg_15_0 w hN
  | 15, 1, _, _ => exact reg_15_1 w hN
  | 15, 2, _, _ => exact reg_15_2 w hN
  | 15, 3, _, _ => exact reg_15_3 w hN
  | r + 16, _, h, _ => omega
  | _, k + 4, _, h => omega
theorem reg_else (w : World) (hN : NeedOk gs w ∧ gn ≤ w.heap.size) (r : Nat) (x : Int) (hr : r < 16) (hx : x ≠ 8 ∧ x ≠ 4 ∧ x ≠ 2 ∧ x ≠ 1) : Calls Tryz.prog 55 #[.int .i64 (r : Nat), .int .i64 x] w fun e w' => e = .returned (.string ⟨⟨[]⟩⟩) ∧ Below w.heap.size w w' := by
  match r, hr with
  | 0, _ => exact reg_0_o w hN x hx
  | 1, _ => exact reg_1_o w hN x hx
  | 2, _ => exact reg_2_o w hN x hx
  | 3, _ => exact reg_3_o w hN x hx
  | 4, _ => exact reg_4_o w hN x hx
  | 5, _ => exact reg_5_o w hN x hx
  | 6, _ => exact reg_6_o w hN x hx
  | 7, _ => exact reg_7_o w hN x hx
  | 8, _ => exact reg_8_o w hN x hx
  | 9, _ => exact reg_9_o w hN x hx
  | 10, _ => exact reg_10_o w hN x hx
  | 11, _ => exact reg_11_o w hN x hx
  | 12, _ => exact reg_12_o w hN x hx
  | 13, _ => exact reg_13_o w hN x hx
  | 14, _ => exact reg_14_o w hN x hx
  | 15, _ => exact reg_15_o w hN x hx
  | r + 16, h => omega
end Go.Proofs.YtmmpkkpmlaiapaaGreatDoor
namespace Go.Proofs.YtmmpkkpmlaiapaaGreatDoor
open Go.RowKit
set_option linter.unusedVariables false
set_option maxHeartbeats 4000000
def GsOk (w : World) : Prop := NeedOk gs w ∧ gn ≤ w.heap.size
theorem GsOk.below {w w' : World} (h : GsOk w) (hb : Below w.heap.size w w') : GsOk w' := by
  refine ⟨fun g hg k v hv => ?_, Nat.le_trans h.2 (hb.size)⟩
  rw [(bcell hb).1 _ _ (Nat.lt_of_lt_of_le (gs_ok g hg).1 h.2)]
  exact h.1 g hg k v hv
def sameB : Bool := (List.range 16).all fun r => (List.range 16).all fun s => (List.range 4).all fun k => (List.range 4).all fun m => (regN r k == regN s m) == (r == s && k == m)
theorem same_all : sameB = true := by kernel_rfl
theorem same {r s k m : Nat} (hr : r < 16) (hs : s < 16) (hk : k < 4) (hm : m < 4) : (regN r k == regN s m) = (r == s && k == m) := by
  have h := same_all
  simp only [sameB, List.all_eq_true, List.mem_range] at h
  exact eq_of_beq (h r hr s hs k hk m hm)
theorem gob {w0 w1 x : World} (hG : RowKit.Hid (GsOk w0)) (hB : RowKit.Hid (Below w0.heap.size w0 w1)) : GsOk (over w1.heap.size w1 x) := (hG.out.below hB.out).below (over_below _ _ _)
end Go.Proofs.YtmmpkkpmlaiapaaGreatDoor
namespace Go.Proofs.YtmmpkkpmlaiapaaGreatDoor
open Go.RowKit
set_option linter.unusedVariables false
def RunsTo (f : FuncId) (xs : List Value) (v : Value) : Prop := ∀ w : World, NeedOk gs w ∧ gn ≤ w.heap.size → Calls Tryz.prog f xs.toArray w fun e w' => e = .returned v ∧ Below w.heap.size w w'
theorem runs_to {f : FuncId} {xs : List Value} {v : Value} (h : (vcall (Sy.none Tryz.prog (fun _ => none) gn) 100000 60 gn f xs (globW gn gs)).map (·.1) = some v) (hx : pfs xs = true) (hv : pf v = true) : RunsTo f xs v := fun w hN =>
  vrunG _ mixed 100000 60 f gn gs _ xs v (fun g hg => Nat.blt_eq.mp hg) w hN.2 gs_ok hN.1 (fun _ => LR.of_pfs hx) hv h
theorem cond_0 : RunsTo 71 [.int .i64 0] (.string ⟨⟨[101]⟩⟩) := runs_to (by kernel_rfl) rfl rfl
theorem cond_1 : RunsTo 71 [.int .i64 1] (.string ⟨⟨[110, 101]⟩⟩) := runs_to (by kernel_rfl) rfl rfl
theorem cond_2 : RunsTo 71 [.int .i64 2] (.string ⟨⟨[108]⟩⟩) := runs_to (by kernel_rfl) rfl rfl
theorem cond_3 : RunsTo 71 [.int .i64 3] (.string ⟨⟨[108, 101]⟩⟩) := runs_to (by kernel_rfl) rfl rfl
theorem cond_4 : RunsTo 71 [.int .i64 4] (.string ⟨⟨[103]⟩⟩) := runs_to (by kernel_rfl) rfl rfl
theorem cond_5 : RunsTo 71 [.int .i64 5] (.string ⟨⟨[103, 101]⟩⟩) := runs_to (by kernel_rfl) rfl rfl
theorem cond_6 : RunsTo 71 [.int .i64 6] (.string ⟨⟨[98]⟩⟩) := runs_to (by kernel_rfl) rfl rfl
theorem cond_7 : RunsTo 71 [.int .i64 7] (.string ⟨⟨[98, 101]⟩⟩) := runs_to (by kernel_rfl) rfl rfl
theorem cond_8 : RunsTo 71 [.int .i64 8] (.string ⟨⟨[97]⟩⟩) := runs_to (by kernel_rfl) rfl rfl
theorem cond_9 : RunsTo 71 [.int .i64 9] (.string ⟨⟨[97, 101]⟩⟩) := runs_to (by kernel_rfl) rfl rfl
theorem move_1_1 : RunsTo 53 [.int .i64 1, .bool true] (.tuple #[.string ⟨⟨[109, 111, 118, 115, 98, 113]⟩⟩, .int .i64 8]) := runs_to (by kernel_rfl) rfl rfl
theorem move_1_0 : RunsTo 53 [.int .i64 1, .bool false] (.tuple #[.string ⟨⟨[109, 111, 118, 122, 98, 113]⟩⟩, .int .i64 8]) := runs_to (by kernel_rfl) rfl rfl
theorem move_2_1 : RunsTo 53 [.int .i64 2, .bool true] (.tuple #[.string ⟨⟨[109, 111, 118, 115, 119, 113]⟩⟩, .int .i64 8]) := runs_to (by kernel_rfl) rfl rfl
theorem move_2_0 : RunsTo 53 [.int .i64 2, .bool false] (.tuple #[.string ⟨⟨[109, 111, 118, 122, 119, 113]⟩⟩, .int .i64 8]) := runs_to (by kernel_rfl) rfl rfl
theorem move_4_1 : RunsTo 53 [.int .i64 4, .bool true] (.tuple #[.string ⟨⟨[109, 111, 118, 115, 108, 113]⟩⟩, .int .i64 8]) := runs_to (by kernel_rfl) rfl rfl
theorem move_4_0 : RunsTo 53 [.int .i64 4, .bool false] (.tuple #[.string ⟨⟨[109, 111, 118, 108]⟩⟩, .int .i64 4]) := runs_to (by kernel_rfl) rfl rfl
theorem move_8_0 : RunsTo 53 [.int .i64 8, .bool false] (.tuple #[.string ⟨⟨[109, 111, 118, 113]⟩⟩, .int .i64 8]) := runs_to (by kernel_rfl) rfl rfl
theorem move_8_1 : RunsTo 53 [.int .i64 8, .bool true] (.tuple #[.string ⟨⟨[109, 111, 118, 113]⟩⟩, .int .i64 8]) := runs_to (by kernel_rfl) rfl rfl
theorem letter_1 : RunsTo 56 [.int .i64 1] (.string ⟨⟨[98]⟩⟩) := runs_to (by kernel_rfl) rfl rfl
theorem letter_2 : RunsTo 56 [.int .i64 2] (.string ⟨⟨[119]⟩⟩) := runs_to (by kernel_rfl) rfl rfl
theorem letter_4 : RunsTo 56 [.int .i64 4] (.string ⟨⟨[108]⟩⟩) := runs_to (by kernel_rfl) rfl rfl
theorem letter_8 : RunsTo 56 [.int .i64 8] (.string ⟨⟨[113]⟩⟩) := runs_to (by kernel_rfl) rfl rfl
theorem alu_7 : RunsTo 57 [.int .i64 7] (.string ⟨⟨[97, 100, 100, 113]⟩⟩) := runs_to (by kernel_rfl) rfl rfl
theorem alu_8 : RunsTo 57 [.int .i64 8] (.string ⟨⟨[115, 117, 98, 113]⟩⟩) := runs_to (by kernel_rfl) rfl rfl
theorem alu_9 : RunsTo 57 [.int .i64 9] (.string ⟨⟨[97, 110, 100, 113]⟩⟩) := runs_to (by kernel_rfl) rfl rfl
theorem alu_10 : RunsTo 57 [.int .i64 10] (.string ⟨⟨[111, 114, 113]⟩⟩) := runs_to (by kernel_rfl) rfl rfl
theorem alu_11 : RunsTo 57 [.int .i64 11] (.string ⟨⟨[120, 111, 114, 113]⟩⟩) := runs_to (by kernel_rfl) rfl rfl
theorem alu_12 : RunsTo 57 [.int .i64 12] (.string ⟨⟨[105, 109, 117, 108, 113]⟩⟩) := runs_to (by kernel_rfl) rfl rfl
theorem alu_13 : RunsTo 57 [.int .i64 13] (.string ⟨⟨[99, 109, 112, 113]⟩⟩) := runs_to (by kernel_rfl) rfl rfl
theorem alu_14 : RunsTo 57 [.int .i64 14] (.string ⟨⟨[97, 100, 100, 113]⟩⟩) := runs_to (by kernel_rfl) rfl rfl
theorem alu_15 : RunsTo 57 [.int .i64 15] (.string ⟨⟨[115, 117, 98, 113]⟩⟩) := runs_to (by kernel_rfl) rfl rfl
theorem alu_16 : RunsTo 57 [.int .i64 16] (.string ⟨⟨[97, 110, 100, 113]⟩⟩) := runs_to (by kernel_rfl) rfl rfl
theorem alu_17 : RunsTo 57 [.int .i64 17] (.string ⟨⟨[111, 114, 113]⟩⟩) := runs_to (by kernel_rfl) rfl rfl
theorem alu_18 : RunsTo 57 [.int .i64 18] (.string ⟨⟨[120, 111, 114, 113]⟩⟩) := runs_to (by kernel_rfl) rfl rfl
theorem alu_19 : RunsTo 57 [.int .i64 19] (.string ⟨⟨[105, 109, 117, 108, 113]⟩⟩) := runs_to (by kernel_rfl) rfl rfl
theorem alu_20 : RunsTo 57 [.int .i64 20] (.string ⟨⟨[99, 109, 112, 113]⟩⟩) := runs_to (by kernel_rfl) rfl rfl
theorem shift_21 : RunsTo 58 [.int .i64 21] (.string ⟨⟨[115, 104, 108, 113]⟩⟩) := runs_to (by kernel_rfl) rfl rfl
theorem shift_22 : RunsTo 58 [.int .i64 22] (.string ⟨⟨[115, 97, 114, 113]⟩⟩) := runs_to (by kernel_rfl) rfl rfl
theorem shift_23 : RunsTo 58 [.int .i64 23] (.string ⟨⟨[115, 104, 114, 113]⟩⟩) := runs_to (by kernel_rfl) rfl rfl
theorem shift_24 : RunsTo 58 [.int .i64 24] (.string ⟨⟨[115, 104, 108, 113]⟩⟩) := runs_to (by kernel_rfl) rfl rfl
theorem shift_25 : RunsTo 58 [.int .i64 25] (.string ⟨⟨[115, 97, 114, 113]⟩⟩) := runs_to (by kernel_rfl) rfl rfl
theorem shift_26 : RunsTo 58 [.int .i64 26] (.string ⟨⟨[115, 104, 114, 113]⟩⟩) := runs_to (by kernel_rfl) rfl rfl
theorem jumps_1 : RunsTo 50 [.int .i64 1] (.bool false) := runs_to (by kernel_rfl) rfl rfl
theorem jumps_2 : RunsTo 50 [.int .i64 2] (.bool false) := runs_to (by kernel_rfl) rfl rfl
theorem jumps_3 : RunsTo 50 [.int .i64 3] (.bool false) := runs_to (by kernel_rfl) rfl rfl
theorem jumps_4 : RunsTo 50 [.int .i64 4] (.bool false) := runs_to (by kernel_rfl) rfl rfl
theorem jumps_5 : RunsTo 50 [.int .i64 5] (.bool false) := runs_to (by kernel_rfl) rfl rfl
theorem jumps_6 : RunsTo 50 [.int .i64 6] (.bool true) := runs_to (by kernel_rfl) rfl rfl
theorem jumps_7 : RunsTo 50 [.int .i64 7] (.bool false) := runs_to (by kernel_rfl) rfl rfl
theorem jumps_8 : RunsTo 50 [.int .i64 8] (.bool false) := runs_to (by kernel_rfl) rfl rfl
theorem jumps_9 : RunsTo 50 [.int .i64 9] (.bool false) := runs_to (by kernel_rfl) rfl rfl
theorem jumps_10 : RunsTo 50 [.int .i64 10] (.bool false) := runs_to (by kernel_rfl) rfl rfl
theorem jumps_11 : RunsTo 50 [.int .i64 11] (.bool false) := runs_to (by kernel_rfl) rfl rfl
theorem jumps_12 : RunsTo 50 [.int .i64 12] (.bool false) := runs_to (by kernel_rfl) rfl rfl
theorem jumps_13 : RunsTo 50 [.int .i64 13] (.bool false) := runs_to (by kernel_rfl) rfl rfl
theorem jumps_14 : RunsTo 50 [.int .i64 14] (.bool false) := runs_to (by kernel_rfl) rfl rfl
theorem jumps_15 : RunsTo 50 [.int .i64 15] (.bool false) := runs_to (by kernel_rfl) rfl rfl
theorem jumps_16 : RunsTo 50 [.int .i64 16] (.bool false) := runs_to (by kernel_rfl) rfl rfl
theorem jumps_17 : RunsTo 50 [.int .i64 17] (.bool false) := runs_to (by kernel_rfl) rfl rfl
theorem jumps_18 : RunsTo 50 [.int .i64 18] (.bool false) := runs_to (by kernel_rfl) rfl rfl
theorem jumps_19 : RunsTo 50 [.int .i64 19] (.bool false) := runs_to (by kernel_rfl) rfl rfl
theorem jumps_20 : RunsTo 50 [.int .i64 20] (.bool false) := runs_to (by kernel_rfl) rfl rfl
theorem jumps_21 : RunsTo 50 [.int .i64 21] (.bool false) := runs_to (by kernel_rfl) rfl rfl
theorem jumps_22 : RunsTo 50 [.int .i64 22] (.bool false) := runs_to (by kernel_rfl) rfl rfl
theorem jumps_23 : RunsTo 50 [.int .i64 23] (.bool false) := runs_to (by kernel_rfl) rfl rfl
theorem jumps_24 : RunsTo 50 [.int .i64 24] (.bool false) := runs_to (by kernel_rfl) rfl rfl
theorem jumps_25 : RunsTo 50 [.int .i64 25] (.bool false) := runs_to (by kernel_rfl) rfl rfl
theorem jumps_26 : RunsTo 50 [.int .i64 26] (.bool false) := runs_to (by kernel_rfl) rfl rfl
theorem jumps_27 : RunsTo 50 [.int .i64 27] (.bool false) := runs_to (by kernel_rfl) rfl rfl
theorem jumps_28 : RunsTo 50 [.int .i64 28] (.bool false) := runs_to (by kernel_rfl) rfl rfl
theorem jumps_29 : RunsTo 50 [.int .i64 29] (.bool false) := runs_to (by kernel_rfl) rfl rfl
theorem jumps_30 : RunsTo 50 [.int .i64 30] (.bool false) := runs_to (by kernel_rfl) rfl rfl
theorem jumps_31 : RunsTo 50 [.int .i64 31] (.bool false) := runs_to (by kernel_rfl) rfl rfl
theorem jumps_32 : RunsTo 50 [.int .i64 32] (.bool false) := runs_to (by kernel_rfl) rfl rfl
theorem jumps_33 : RunsTo 50 [.int .i64 33] (.bool true) := runs_to (by kernel_rfl) rfl rfl
theorem jumps_34 : RunsTo 50 [.int .i64 34] (.bool true) := runs_to (by kernel_rfl) rfl rfl
theorem jumps_35 : RunsTo 50 [.int .i64 35] (.bool true) := runs_to (by kernel_rfl) rfl rfl
theorem jumps_36 : RunsTo 50 [.int .i64 36] (.bool false) := runs_to (by kernel_rfl) rfl rfl
theorem jumps_37 : RunsTo 50 [.int .i64 37] (.bool false) := runs_to (by kernel_rfl) rfl rfl
theorem jumps_38 : RunsTo 50 [.int .i64 38] (.bool false) := runs_to (by kernel_rfl) rfl rfl
theorem jumps_39 : RunsTo 50 [.int .i64 39] (.bool false) := runs_to (by kernel_rfl) rfl rfl
theorem jumps_40 : RunsTo 50 [.int .i64 40] (.bool false) := runs_to (by kernel_rfl) rfl rfl
theorem jumps_41 : RunsTo 50 [.int .i64 41] (.bool false) := runs_to (by kernel_rfl) rfl rfl
end Go.Proofs.YtmmpkkpmlaiapaaGreatDoor
namespace Go.Proofs.YtmmpkkpmlaiapaaGreatDoor
open Go.RowKit
set_option linter.unusedVariables false
def cLow : Value := symNode .lss .i64 (mark .i64 0) (.int .i64 0)
def cHigh : Value := symNode .geq .i64 (mark .i64 0) (.int .i64 10)
theorem clow_ok {c : Int} (h : c < 0) : KnowOk (fun _ => c) [(cLow, .bool true)] := by
  intro p hp
  simp only [List.mem_cons, List.mem_nil_iff, or_false] at hp
  subst hp
  refine ⟨den_cmp rfl (den_mark _ _ _) (den_lit _ _ _) ?_, rfl⟩
  simp [evB2, isShift, evB, h]
theorem chigh_ok {c : Int} (h : ¬ c < 0) (h2 : 10 ≤ c) : KnowOk (fun _ => c) [(cLow, .bool false), (cHigh, .bool true)] := by
  intro p hp
  simp only [List.mem_cons, List.mem_nil_iff, or_false] at hp
  rcases hp with rfl | rfl <;> refine ⟨den_cmp rfl (den_mark _ _ _) (den_lit _ _ _) ?_, rfl⟩ <;> simp [evB2, isShift, evB, h, h2]
theorem cond_low (w : World) (hN : NeedOk gs w ∧ gn ≤ w.heap.size) (c : Int) (h : c < 0) : Calls Tryz.prog 71 #[.int .i64 c] w fun e w' => e = .returned (.string ⟨⟨[]⟩⟩) ∧ Below w.heap.size w w' :=
  vrunG (Sy.ints Tryz.prog (fun _ => c) _ (clow_ok h) (Tab.none _) gn) mixed 100000 60 71 gn gs [mark .i64 0] [.int .i64 c] _ (fun g hg => Nat.blt_eq.mp hg) w hN.2 gs_ok hN.1 (fun β => LR.cons (mark_vr (fun _ => c) β .i64 0) LR.nil) rfl (by kernel_rfl)
theorem cond_high (w : World) (hN : NeedOk gs w ∧ gn ≤ w.heap.size) (c : Int) (h : ¬ c < 0) (h2 : 10 ≤ c) : Calls Tryz.prog 71 #[.int .i64 c] w fun e w' => e = .returned (.string ⟨⟨[]⟩⟩) ∧ Below w.heap.size w w' :=
  vrunG (Sy.ints Tryz.prog (fun _ => c) _ (chigh_ok h h2) (Tab.none _) gn) mixed 100000 60 71 gn gs [mark .i64 0] [.int .i64 c] _ (fun g hg => Nat.blt_eq.mp hg) w hN.2 gs_ok hN.1 (fun β => LR.cons (mark_vr (fun _ => c) β .i64 0) LR.nil) rfl (by kernel_rfl)
end Go.Proofs.YtmmpkkpmlaiapaaGreatDoor
namespace Go.Proofs.YtmmpkkpmlaiapaaGreatDoor
open Go.RowKit
set_option linter.unusedVariables false
end Go.Proofs.YtmmpkkpmlaiapaaGreatDoor
