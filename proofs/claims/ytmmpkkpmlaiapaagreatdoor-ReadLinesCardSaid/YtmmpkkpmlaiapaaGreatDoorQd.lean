/- asm.Reg at every register and size. The listed tables stand in memory and stay; small facts on numbers. No condition. -/
import Derived.Test.YtmmpkkpmlaiapaaGreatDoorReg0
import Derived.Test.YtmmpkkpmlaiapaaGreatDoorReg1
import Derived.Test.YtmmpkkpmlaiapaaGreatDoorReg2
import Derived.Test.YtmmpkkpmlaiapaaGreatDoorReg3
import Derived.Test.YtmmpkkpmlaiapaaGreatDoorQa
namespace Go.Proofs.YtmmpkkpmlaiapaaGreatDoor
open Go.RowKit
set_option linter.unusedVariables false
def two (a b : Int) : Int → Int := fun i => if i = 0 then a else b
def rLow : Value := symNode .lss .i64 (mark .i64 0) (.int .i64 0)
def rHigh : Value := symNode .gtr .i64 (mark .i64 0) (.int .i64 15)
theorem low_ok {r x : Int} (h : r < 0) : KnowOk (two r x) [(rLow, .bool true)] := by
  intro p hp
  simp only [List.mem_cons, List.mem_nil_iff, or_false] at hp
  subst hp
  refine ⟨den_cmp rfl (den_mark _ _ _) (den_lit _ _ _) ?_, rfl⟩
  simp [evB2, isShift, evB, two, h]
theorem high_ok {r x : Int} (h : ¬ r < 0) (h2 : 15 < r) : KnowOk (two r x) [(rLow, .bool false), (rHigh, .bool true)] := by
  intro p hp
  simp only [List.mem_cons, List.mem_nil_iff, or_false] at hp
  rcases hp with rfl | rfl <;> refine ⟨den_cmp rfl (den_mark _ _ _) (den_lit _ _ _) ?_, rfl⟩ <;> simp [evB2, isShift, evB, two, h, h2]
theorem reg_low (w : World) (r x : Int) (hr : r < 0) : Calls Tryz.prog 55 #[.int .i64 r, .int .i64 x] w fun e w' => e = .returned (.string ⟨⟨[]⟩⟩) ∧ Below w.heap.size w w' :=
  vrunS (Sy.ints Tryz.prog (two r x) _ (low_ok hr) (Tab.none _)) (fun _ => rfl) mixed 100000 60 55 [mark .i64 0, mark .i64 1] [.int .i64 r, .int .i64 x] _ (fun β => LR.cons (mark_vr (two r x) β .i64 0) (LR.cons (mark_vr (two r x) β .i64 1) LR.nil)) rfl (by kernel_rfl) w
theorem reg_high (w : World) (r x : Int) (hr : ¬ r < 0) (hr2 : 15 < r) : Calls Tryz.prog 55 #[.int .i64 r, .int .i64 x] w fun e w' => e = .returned (.string ⟨⟨[]⟩⟩) ∧ Below w.heap.size w w' :=
  vrunS (Sy.ints Tryz.prog (two r x) _ (high_ok hr hr2) (Tab.none _)) (fun _ => rfl) mixed 100000 60 55 [mark .i64 0, mark .i64 1] [.int .i64 r, .int .i64 x] _ (fun β => LR.cons (mark_vr (two r x) β .i64 0) (LR.cons (mark_vr (two r x) β .i64 1) LR.nil)) rfl (by kernel_rfl) w
theorem reg_sizes (w : World) (hN : NeedOk gs w ∧ gn ≤ w.heap.size) (r k : Nat) (hr : r < 16) (hk : k < 4) : Calls Tryz.prog 55 #[.int .i64 (r : Nat), .int .i64 ((2 ^ k : Nat) : Int)] w fun e w' => e = .returned (.string ⟨⟨regN r k⟩⟩) ∧ Below w.heap.size w w' := by
  match r, k, hr, hk with
  | 0, 0, _, _ => exact reg_0_0 w hN
  | 0, 1, _, _ => exact reg_0_1 w hN
  | 0, 2, _, _ => exact reg_0_2 w hN
  | 0, 3, _, _ => exact reg_0_3 w hN
  | 1, 0, _, _ => exact reg_1_0 w hN
  | 1, 1, _, _ => exact reg_1_1 w hN
  | 1, 2, _, _ => exact reg_1_2 w hN
  | 1, 3, _, _ => exact reg_1_3 w hN
  | 2, 0, _, _ => exact reg_2_0 w hN
  | 2, 1, _, _ => exact reg_2_1 w hN
  | 2, 2, _, _ => exact reg_2_2 w hN
  | 2, 3, _, _ => exact reg_2_3 w hN
  | 3, 0, _, _ => exact reg_3_0 w hN
  | 3, 1, _, _ => exact reg_3_1 w hN
  | 3, 2, _, _ => exact reg_3_2 w hN
  | 3, 3, _, _ => exact reg_3_3 w hN
  | 4, 0, _, _ => exact reg_4_0 w hN
  | 4, 1, _, _ => exact reg_4_1 w hN
  | 4, 2, _, _ => exact reg_4_2 w hN
  | 4, 3, _, _ => exact reg_4_3 w hN
  | 5, 0, _, _ => exact reg_5_0 w hN
  | 5, 1, _, _ => exact reg_5_1 w hN
  | 5, 2, _, _ => exact reg_5_2 w hN
  | 5, 3, _, _ => exact reg_5_3 w hN
  | 6, 0, _, _ => exact reg_6_0 w hN
  | 6, 1, _, _ => exact reg_6_1 w hN
  | 6, 2, _, _ => exact reg_6_2 w hN
  | 6, 3, _, _ => exact reg_6_3 w hN
  | 7, 0, _, _ => exact reg_7_0 w hN
  | 7, 1, _, _ => exact reg_7_1 w hN
  | 7, 2, _, _ => exact reg_7_2 w hN
  | 7, 3, _, _ => exact reg_7_3 w hN
  | 8, 0, _, _ => exact reg_8_0 w hN
  | 8, 1, _, _ => exact reg_8_1 w hN
  | 8, 2, _, _ => exact reg_8_2 w hN
  | 8, 3, _, _ => exact reg_8_3 w hN
  | 9, 0, _, _ => exact reg_9_0 w hN
  | 9, 1, _, _ => exact reg_9_1 w hN
  | 9, 2, _, _ => exact reg_9_2 w hN
  | 9, 3, _, _ => exact reg_9_3 w hN
  | 10, 0, _, _ => exact reg_10_0 w hN
  | 10, 1, _, _ => exact reg_10_1 w hN
  | 10, 2, _, _ => exact reg_10_2 w hN
  | 10, 3, _, _ => exact reg_10_3 w hN
  | 11, 0, _, _ => exact reg_11_0 w hN
  | 11, 1, _, _ => exact reg_11_1 w hN
  | 11, 2, _, _ => exact reg_11_2 w hN
  | 11, 3, _, _ => exact reg_11_3 w hN
  | 12, 0, _, _ => exact reg_12_0 w hN
  | 12, 1, _, _ => exact reg_12_1 w hN
  | 12, 2, _, _ => exact reg_12_2 w hN
  | 12, 3, _, _ => exact reg_12_3 w hN
  | 13, 0, _, _ => exact reg_13_0 w hN
  | 13, 1, _, _ => exact reg_13_1 w hN
  | 13, 2, _, _ => exact reg_13_2 w hN
  | 13, 3, _, _ => exact reg_13_3 w hN
  | 14, 0, _, _ => exact reg_14_0 w hN
  | 14, 1, _, _ => exact reg_14_1 w hN
  | 14, 2, _, _ => exact reg_14_2 w hN
  | 14, 3, _, _ => exact reg_14_3 w hN
  | 15, 0, _, _ => exact reg_15_0 w hN
  | 15, 1, _, _ => exact reg_15_1 w hN
  | 15, 2, _, _ => exact reg_15_2 w hN
  | 15, 3, _, _ => exact reg_15_3 w hN
  | r + 16, _, h, _ => omega
  | _, k + 4, _, h => omega
theorem reg_else (w : World) (hN : NeedOk gs w ∧ gn ≤ w.heap.size) (r : Nat) (x : Int) (hr : r < 16) (hx : x ≠ 8 ∧ x ≠ 4 ∧ x ≠ 2 ∧ x ≠ 1) : Calls Tryz.prog 55 #[.int .i64 (r : Nat), .int .i64 x] w fun e w' => e = .returned (.string ⟨⟨[]⟩⟩) ∧ Below w.heap.size w w' := by
  match r, hr with
  | 0, _ => exact reg_0_o w hN x hx
  | 1, _ => exact reg_1_o w hN x hx
  | 2, _ => exact reg_2_o w hN x hx
  | 3, _ => exact reg_3_o w hN x hx
  | 4, _ => exact reg_4_o w hN x hx
  | 5, _ => exact reg_5_o w hN x hx
  | 6, _ => exact reg_6_o w hN x hx
  | 7, _ => exact reg_7_o w hN x hx
  | 8, _ => exact reg_8_o w hN x hx
  | 9, _ => exact reg_9_o w hN x hx
  | 10, _ => exact reg_10_o w hN x hx
  | 11, _ => exact reg_11_o w hN x hx
  | 12, _ => exact reg_12_o w hN x hx
  | 13, _ => exact reg_13_o w hN x hx
  | 14, _ => exact reg_14_o w hN x hx
  | 15, _ => exact reg_15_o w hN x hx
  | r + 16, h => omega
end Go.Proofs.YtmmpkkpmlaiapaaGreatDoor
namespace Go.Proofs.YtmmpkkpmlaiapaaGreatDoor
open Go.RowKit
set_option linter.unusedVariables false
set_option maxHeartbeats 4000000
def GsOk (w : World) : Prop := NeedOk gs w ∧ gn ≤ w.heap.size
theorem GsOk.below {w w' : World} (h : GsOk w) (hb : Below w.heap.size w w') : GsOk w' := by
  refine ⟨fun g hg k v hv => ?_, Nat.le_trans h.2 (hb.size)⟩
  rw [(bcell hb).1 _ _ (Nat.lt_of_lt_of_le (gs_ok g hg).1 h.2)]
  exact h.1 g hg k v hv
def sameB : Bool := (List.range 16).all fun r => (List.range 16).all fun s => (List.range 4).all fun k => (List.range 4).all fun m => (regN r k == regN s m) == (r == s && k == m)
theorem same_all : sameB = true := by kernel_rfl
theorem same {r s k m : Nat} (hr : r < 16) (hs : s < 16) (hk : k < 4) (hm : m < 4) : (regN r k == regN s m) = (r == s && k == m) := by
  have h := same_all
  simp only [sameB, List.all_eq_true, List.mem_range] at h
  exact eq_of_beq (h r hr s hs k hk m hm)
theorem gob {w0 w1 x : World} (hG : RowKit.Hid (GsOk w0)) (hB : RowKit.Hid (Below w0.heap.size w0 w1)) : GsOk (over w1.heap.size w1 x) := (hG.out.below hB.out).below (over_below _ _ _)
end Go.Proofs.YtmmpkkpmlaiapaaGreatDoor
