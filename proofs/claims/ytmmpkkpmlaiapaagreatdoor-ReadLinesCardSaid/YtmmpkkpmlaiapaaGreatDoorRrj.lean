/- The document's Right, by every operation. No condition. -/
import Derived.Test.YtmmpkkpmlaiapaaGreatDoorRr0
import Derived.Test.YtmmpkkpmlaiapaaGreatDoorRr2
import Derived.Test.YtmmpkkpmlaiapaaGreatDoorRr4
import Derived.Test.YtmmpkkpmlaiapaaGreatDoorRr6
namespace Go.Proofs.YtmmpkkpmlaiapaaGreatDoor
open Go.RowKit
set_option linter.unusedVariables false
theorem rr_00 (op dst src imm size cond : Int) (b : UInt8) (bs : List UInt8) (w : World) (o1 : 1 ≤ op ∧ op ≤ 41) (d1 : 0 ≤ dst) (d2 : dst ≤ 15) (s1 : 0 ≤ src) (s2 : src ≤ 15) (im : ¬ op = 2 → -2147483648 ≤ imm ∧ imm ≤ 2147483647) :
    Calls Tryz.prog 9 #[.agg #[.int .i64 op, .int .i64 dst, .int .i64 src, .int .i64 imm, .int .i64 size, .bool false, .int .i64 cond, .string ⟨⟨b :: bs⟩⟩]] w fun en w' => RightIs (RP op dst src imm size 0 cond 0) en ∧ Below w.heap.size w w' := by
  rcases c41 o1 with rfl | rfl | rfl | rfl | rfl | rfl | rfl | rfl | rfl | rfl | rfl | rfl | rfl | rfl | rfl | rfl | rfl | rfl | rfl | rfl | rfl | rfl | rfl | rfl | rfl | rfl | rfl | rfl | rfl | rfl | rfl | rfl | rfl | rfl | rfl | rfl | rfl | rfl | rfl | rfl | rfl
  · exact rr_1_00 dst src imm size cond b bs w d1 d2 s1 s2 (im (by decide)).1 (im (by decide)).2
  · exact rr_2_00 dst src imm size cond b bs w d1 d2 s1 s2
  · exact rr_3_00 dst src imm size cond b bs w d1 d2 s1 s2 (im (by decide)).1 (im (by decide)).2
  · exact rr_4_00 dst src imm size cond b bs w d1 d2 s1 s2 (im (by decide)).1 (im (by decide)).2
  · exact rr_5_00 dst src imm size cond b bs w d1 d2 s1 s2 (im (by decide)).1 (im (by decide)).2
  · exact rr_6_00 dst src imm size cond b bs w d1 d2 s1 s2 (im (by decide)).1 (im (by decide)).2
  · exact rr_7_00 dst src imm size cond b bs w d1 d2 s1 s2 (im (by decide)).1 (im (by decide)).2
  · exact rr_8_00 dst src imm size cond b bs w d1 d2 s1 s2 (im (by decide)).1 (im (by decide)).2
  · exact rr_9_00 dst src imm size cond b bs w d1 d2 s1 s2 (im (by decide)).1 (im (by decide)).2
  · exact rr_10_00 dst src imm size cond b bs w d1 d2 s1 s2 (im (by decide)).1 (im (by decide)).2
  · exact rr_11_00 dst src imm size cond b bs w d1 d2 s1 s2 (im (by decide)).1 (im (by decide)).2
  · exact rr_12_00 dst src imm size cond b bs w d1 d2 s1 s2 (im (by decide)).1 (im (by decide)).2
  · exact rr_13_00 dst src imm size cond b bs w d1 d2 s1 s2 (im (by decide)).1 (im (by decide)).2
  · exact rr_14_00 dst src imm size cond b bs w d1 d2 s1 s2 (im (by decide)).1 (im (by decide)).2
  · exact rr_15_00 dst src imm size cond b bs w d1 d2 s1 s2 (im (by decide)).1 (im (by decide)).2
  · exact rr_16_00 dst src imm size cond b bs w d1 d2 s1 s2 (im (by decide)).1 (im (by decide)).2
  · exact rr_17_00 dst src imm size cond b bs w d1 d2 s1 s2 (im (by decide)).1 (im (by decide)).2
  · exact rr_18_00 dst src imm size cond b bs w d1 d2 s1 s2 (im (by decide)).1 (im (by decide)).2
  · exact rr_19_00 dst src imm size cond b bs w d1 d2 s1 s2 (im (by decide)).1 (im (by decide)).2
  · exact rr_20_00 dst src imm size cond b bs w d1 d2 s1 s2 (im (by decide)).1 (im (by decide)).2
  · exact rr_21_00 dst src imm size cond b bs w d1 d2 s1 s2 (im (by decide)).1 (im (by decide)).2
  · exact rr_22_00 dst src imm size cond b bs w d1 d2 s1 s2 (im (by decide)).1 (im (by decide)).2
  · exact rr_23_00 dst src imm size cond b bs w d1 d2 s1 s2 (im (by decide)).1 (im (by decide)).2
  · exact rr_24_00 dst src imm size cond b bs w d1 d2 s1 s2 (im (by decide)).1 (im (by decide)).2
  · exact rr_25_00 dst src imm size cond b bs w d1 d2 s1 s2 (im (by decide)).1 (im (by decide)).2
  · exact rr_26_00 dst src imm size cond b bs w d1 d2 s1 s2 (im (by decide)).1 (im (by decide)).2
  · exact rr_27_00 dst src imm size cond b bs w d1 d2 s1 s2 (im (by decide)).1 (im (by decide)).2
  · exact rr_28_00 dst src imm size cond b bs w d1 d2 s1 s2 (im (by decide)).1 (im (by decide)).2
  · exact rr_29_00 dst src imm size cond b bs w d1 d2 s1 s2 (im (by decide)).1 (im (by decide)).2
  · exact rr_30_00 dst src imm size cond b bs w d1 d2 s1 s2 (im (by decide)).1 (im (by decide)).2
  · exact rr_31_00 dst src imm size cond b bs w d1 d2 s1 s2 (im (by decide)).1 (im (by decide)).2
  · exact rr_32_00 dst src imm size cond b bs w d1 d2 s1 s2 (im (by decide)).1 (im (by decide)).2
  · exact rr_33_00 dst src imm size cond b bs w d1 d2 s1 s2 (im (by decide)).1 (im (by decide)).2
  · exact rr_34_00 dst src imm size cond b bs w d1 d2 s1 s2 (im (by decide)).1 (im (by decide)).2
  · exact rr_35_00 dst src imm size cond b bs w d1 d2 s1 s2 (im (by decide)).1 (im (by decide)).2
  · exact rr_36_00 dst src imm size cond b bs w d1 d2 s1 s2 (im (by decide)).1 (im (by decide)).2
  · exact rr_37_00 dst src imm size cond b bs w d1 d2 s1 s2 (im (by decide)).1 (im (by decide)).2
  · exact rr_38_00 dst src imm size cond b bs w d1 d2 s1 s2 (im (by decide)).1 (im (by decide)).2
  · exact rr_39_00 dst src imm size cond b bs w d1 d2 s1 s2 (im (by decide)).1 (im (by decide)).2
  · exact rr_40_00 dst src imm size cond b bs w d1 d2 s1 s2 (im (by decide)).1 (im (by decide)).2
  · exact rr_41_00 dst src imm size cond b bs w d1 d2 s1 s2 (im (by decide)).1 (im (by decide)).2
theorem rr_01 (op dst src imm size cond : Int) (w : World) (o1 : 1 ≤ op ∧ op ≤ 41) (d1 : 0 ≤ dst) (d2 : dst ≤ 15) (s1 : 0 ≤ src) (s2 : src ≤ 15) (im : ¬ op = 2 → -2147483648 ≤ imm ∧ imm ≤ 2147483647) :
    Calls Tryz.prog 9 #[.agg #[.int .i64 op, .int .i64 dst, .int .i64 src, .int .i64 imm, .int .i64 size, .bool false, .int .i64 cond, .string ⟨⟨[]⟩⟩]] w fun en w' => RightIs (RP op dst src imm size 0 cond 1) en ∧ Below w.heap.size w w' := by
  rcases c41 o1 with rfl | rfl | rfl | rfl | rfl | rfl | rfl | rfl | rfl | rfl | rfl | rfl | rfl | rfl | rfl | rfl | rfl | rfl | rfl | rfl | rfl | rfl | rfl | rfl | rfl | rfl | rfl | rfl | rfl | rfl | rfl | rfl | rfl | rfl | rfl | rfl | rfl | rfl | rfl | rfl | rfl
  · exact rr_1_01 dst src imm size cond w d1 d2 s1 s2 (im (by decide)).1 (im (by decide)).2
  · exact rr_2_01 dst src imm size cond w d1 d2 s1 s2
  · exact rr_3_01 dst src imm size cond w d1 d2 s1 s2 (im (by decide)).1 (im (by decide)).2
  · exact rr_4_01 dst src imm size cond w d1 d2 s1 s2 (im (by decide)).1 (im (by decide)).2
  · exact rr_5_01 dst src imm size cond w d1 d2 s1 s2 (im (by decide)).1 (im (by decide)).2
  · exact rr_6_01 dst src imm size cond w d1 d2 s1 s2 (im (by decide)).1 (im (by decide)).2
  · exact rr_7_01 dst src imm size cond w d1 d2 s1 s2 (im (by decide)).1 (im (by decide)).2
  · exact rr_8_01 dst src imm size cond w d1 d2 s1 s2 (im (by decide)).1 (im (by decide)).2
  · exact rr_9_01 dst src imm size cond w d1 d2 s1 s2 (im (by decide)).1 (im (by decide)).2
  · exact rr_10_01 dst src imm size cond w d1 d2 s1 s2 (im (by decide)).1 (im (by decide)).2
  · exact rr_11_01 dst src imm size cond w d1 d2 s1 s2 (im (by decide)).1 (im (by decide)).2
  · exact rr_12_01 dst src imm size cond w d1 d2 s1 s2 (im (by decide)).1 (im (by decide)).2
  · exact rr_13_01 dst src imm size cond w d1 d2 s1 s2 (im (by decide)).1 (im (by decide)).2
  · exact rr_14_01 dst src imm size cond w d1 d2 s1 s2 (im (by decide)).1 (im (by decide)).2
  · exact rr_15_01 dst src imm size cond w d1 d2 s1 s2 (im (by decide)).1 (im (by decide)).2
  · exact rr_16_01 dst src imm size cond w d1 d2 s1 s2 (im (by decide)).1 (im (by decide)).2
  · exact rr_17_01 dst src imm size cond w d1 d2 s1 s2 (im (by decide)).1 (im (by decide)).2
  · exact rr_18_01 dst src imm size cond w d1 d2 s1 s2 (im (by decide)).1 (im (by decide)).2
  · exact rr_19_01 dst src imm size cond w d1 d2 s1 s2 (im (by decide)).1 (im (by decide)).2
  · exact rr_20_01 dst src imm size cond w d1 d2 s1 s2 (im (by decide)).1 (im (by decide)).2
  · exact rr_21_01 dst src imm size cond w d1 d2 s1 s2 (im (by decide)).1 (im (by decide)).2
  · exact rr_22_01 dst src imm size cond w d1 d2 s1 s2 (im (by decide)).1 (im (by decide)).2
  · exact rr_23_01 dst src imm size cond w d1 d2 s1 s2 (im (by decide)).1 (im (by decide)).2
  · exact rr_24_01 dst src imm size cond w d1 d2 s1 s2 (im (by decide)).1 (im (by decide)).2
  · exact rr_25_01 dst src imm size cond w d1 d2 s1 s2 (im (by decide)).1 (im (by decide)).2
  · exact rr_26_01 dst src imm size cond w d1 d2 s1 s2 (im (by decide)).1 (im (by decide)).2
  · exact rr_27_01 dst src imm size cond w d1 d2 s1 s2 (im (by decide)).1 (im (by decide)).2
  · exact rr_28_01 dst src imm size cond w d1 d2 s1 s2 (im (by decide)).1 (im (by decide)).2
  · exact rr_29_01 dst src imm size cond w d1 d2 s1 s2 (im (by decide)).1 (im (by decide)).2
  · exact rr_30_01 dst src imm size cond w d1 d2 s1 s2 (im (by decide)).1 (im (by decide)).2
  · exact rr_31_01 dst src imm size cond w d1 d2 s1 s2 (im (by decide)).1 (im (by decide)).2
  · exact rr_32_01 dst src imm size cond w d1 d2 s1 s2 (im (by decide)).1 (im (by decide)).2
  · exact rr_33_01 dst src imm size cond w d1 d2 s1 s2 (im (by decide)).1 (im (by decide)).2
  · exact rr_34_01 dst src imm size cond w d1 d2 s1 s2 (im (by decide)).1 (im (by decide)).2
  · exact rr_35_01 dst src imm size cond w d1 d2 s1 s2 (im (by decide)).1 (im (by decide)).2
  · exact rr_36_01 dst src imm size cond w d1 d2 s1 s2 (im (by decide)).1 (im (by decide)).2
  · exact rr_37_01 dst src imm size cond w d1 d2 s1 s2 (im (by decide)).1 (im (by decide)).2
  · exact rr_38_01 dst src imm size cond w d1 d2 s1 s2 (im (by decide)).1 (im (by decide)).2
  · exact rr_39_01 dst src imm size cond w d1 d2 s1 s2 (im (by decide)).1 (im (by decide)).2
  · exact rr_40_01 dst src imm size cond w d1 d2 s1 s2 (im (by decide)).1 (im (by decide)).2
  · exact rr_41_01 dst src imm size cond w d1 d2 s1 s2 (im (by decide)).1 (im (by decide)).2
theorem rr_10 (op dst src imm size cond : Int) (b : UInt8) (bs : List UInt8) (w : World) (o1 : 1 ≤ op ∧ op ≤ 41) (d1 : 0 ≤ dst) (d2 : dst ≤ 15) (s1 : 0 ≤ src) (s2 : src ≤ 15) (im : ¬ op = 2 → -2147483648 ≤ imm ∧ imm ≤ 2147483647) :
    Calls Tryz.prog 9 #[.agg #[.int .i64 op, .int .i64 dst, .int .i64 src, .int .i64 imm, .int .i64 size, .bool true, .int .i64 cond, .string ⟨⟨b :: bs⟩⟩]] w fun en w' => RightIs (RP op dst src imm size 1 cond 0) en ∧ Below w.heap.size w w' := by
  rcases c41 o1 with rfl | rfl | rfl | rfl | rfl | rfl | rfl | rfl | rfl | rfl | rfl | rfl | rfl | rfl | rfl | rfl | rfl | rfl | rfl | rfl | rfl | rfl | rfl | rfl | rfl | rfl | rfl | rfl | rfl | rfl | rfl | rfl | rfl | rfl | rfl | rfl | rfl | rfl | rfl | rfl | rfl
  · exact rr_1_10 dst src imm size cond b bs w d1 d2 s1 s2 (im (by decide)).1 (im (by decide)).2
  · exact rr_2_10 dst src imm size cond b bs w d1 d2 s1 s2
  · exact rr_3_10 dst src imm size cond b bs w d1 d2 s1 s2 (im (by decide)).1 (im (by decide)).2
  · exact rr_4_10 dst src imm size cond b bs w d1 d2 s1 s2 (im (by decide)).1 (im (by decide)).2
  · exact rr_5_10 dst src imm size cond b bs w d1 d2 s1 s2 (im (by decide)).1 (im (by decide)).2
  · exact rr_6_10 dst src imm size cond b bs w d1 d2 s1 s2 (im (by decide)).1 (im (by decide)).2
  · exact rr_7_10 dst src imm size cond b bs w d1 d2 s1 s2 (im (by decide)).1 (im (by decide)).2
  · exact rr_8_10 dst src imm size cond b bs w d1 d2 s1 s2 (im (by decide)).1 (im (by decide)).2
  · exact rr_9_10 dst src imm size cond b bs w d1 d2 s1 s2 (im (by decide)).1 (im (by decide)).2
  · exact rr_10_10 dst src imm size cond b bs w d1 d2 s1 s2 (im (by decide)).1 (im (by decide)).2
  · exact rr_11_10 dst src imm size cond b bs w d1 d2 s1 s2 (im (by decide)).1 (im (by decide)).2
  · exact rr_12_10 dst src imm size cond b bs w d1 d2 s1 s2 (im (by decide)).1 (im (by decide)).2
  · exact rr_13_10 dst src imm size cond b bs w d1 d2 s1 s2 (im (by decide)).1 (im (by decide)).2
  · exact rr_14_10 dst src imm size cond b bs w d1 d2 s1 s2 (im (by decide)).1 (im (by decide)).2
  · exact rr_15_10 dst src imm size cond b bs w d1 d2 s1 s2 (im (by decide)).1 (im (by decide)).2
  · exact rr_16_10 dst src imm size cond b bs w d1 d2 s1 s2 (im (by decide)).1 (im (by decide)).2
  · exact rr_17_10 dst src imm size cond b bs w d1 d2 s1 s2 (im (by decide)).1 (im (by decide)).2
  · exact rr_18_10 dst src imm size cond b bs w d1 d2 s1 s2 (im (by decide)).1 (im (by decide)).2
  · exact rr_19_10 dst src imm size cond b bs w d1 d2 s1 s2 (im (by decide)).1 (im (by decide)).2
  · exact rr_20_10 dst src imm size cond b bs w d1 d2 s1 s2 (im (by decide)).1 (im (by decide)).2
  · exact rr_21_10 dst src imm size cond b bs w d1 d2 s1 s2 (im (by decide)).1 (im (by decide)).2
  · exact rr_22_10 dst src imm size cond b bs w d1 d2 s1 s2 (im (by decide)).1 (im (by decide)).2
  · exact rr_23_10 dst src imm size cond b bs w d1 d2 s1 s2 (im (by decide)).1 (im (by decide)).2
  · exact rr_24_10 dst src imm size cond b bs w d1 d2 s1 s2 (im (by decide)).1 (im (by decide)).2
  · exact rr_25_10 dst src imm size cond b bs w d1 d2 s1 s2 (im (by decide)).1 (im (by decide)).2
  · exact rr_26_10 dst src imm size cond b bs w d1 d2 s1 s2 (im (by decide)).1 (im (by decide)).2
  · exact rr_27_10 dst src imm size cond b bs w d1 d2 s1 s2 (im (by decide)).1 (im (by decide)).2
  · exact rr_28_10 dst src imm size cond b bs w d1 d2 s1 s2 (im (by decide)).1 (im (by decide)).2
  · exact rr_29_10 dst src imm size cond b bs w d1 d2 s1 s2 (im (by decide)).1 (im (by decide)).2
  · exact rr_30_10 dst src imm size cond b bs w d1 d2 s1 s2 (im (by decide)).1 (im (by decide)).2
  · exact rr_31_10 dst src imm size cond b bs w d1 d2 s1 s2 (im (by decide)).1 (im (by decide)).2
  · exact rr_32_10 dst src imm size cond b bs w d1 d2 s1 s2 (im (by decide)).1 (im (by decide)).2
  · exact rr_33_10 dst src imm size cond b bs w d1 d2 s1 s2 (im (by decide)).1 (im (by decide)).2
  · exact rr_34_10 dst src imm size cond b bs w d1 d2 s1 s2 (im (by decide)).1 (im (by decide)).2
  · exact rr_35_10 dst src imm size cond b bs w d1 d2 s1 s2 (im (by decide)).1 (im (by decide)).2
  · exact rr_36_10 dst src imm size cond b bs w d1 d2 s1 s2 (im (by decide)).1 (im (by decide)).2
  · exact rr_37_10 dst src imm size cond b bs w d1 d2 s1 s2 (im (by decide)).1 (im (by decide)).2
  · exact rr_38_10 dst src imm size cond b bs w d1 d2 s1 s2 (im (by decide)).1 (im (by decide)).2
  · exact rr_39_10 dst src imm size cond b bs w d1 d2 s1 s2 (im (by decide)).1 (im (by decide)).2
  · exact rr_40_10 dst src imm size cond b bs w d1 d2 s1 s2 (im (by decide)).1 (im (by decide)).2
  · exact rr_41_10 dst src imm size cond b bs w d1 d2 s1 s2 (im (by decide)).1 (im (by decide)).2
theorem rr_11 (op dst src imm size cond : Int) (w : World) (o1 : 1 ≤ op ∧ op ≤ 41) (d1 : 0 ≤ dst) (d2 : dst ≤ 15) (s1 : 0 ≤ src) (s2 : src ≤ 15) (im : ¬ op = 2 → -2147483648 ≤ imm ∧ imm ≤ 2147483647) :
    Calls Tryz.prog 9 #[.agg #[.int .i64 op, .int .i64 dst, .int .i64 src, .int .i64 imm, .int .i64 size, .bool true, .int .i64 cond, .string ⟨⟨[]⟩⟩]] w fun en w' => RightIs (RP op dst src imm size 1 cond 1) en ∧ Below w.heap.size w w' := by
  rcases c41 o1 with rfl | rfl | rfl | rfl | rfl | rfl | rfl | rfl | rfl | rfl | rfl | rfl | rfl | rfl | rfl | rfl | rfl | rfl | rfl | rfl | rfl | rfl | rfl | rfl | rfl | rfl | rfl | rfl | rfl | rfl | rfl | rfl | rfl | rfl | rfl | rfl | rfl | rfl | rfl | rfl | rfl
  · exact rr_1_11 dst src imm size cond w d1 d2 s1 s2 (im (by decide)).1 (im (by decide)).2
  · exact rr_2_11 dst src imm size cond w d1 d2 s1 s2
  · exact rr_3_11 dst src imm size cond w d1 d2 s1 s2 (im (by decide)).1 (im (by decide)).2
  · exact rr_4_11 dst src imm size cond w d1 d2 s1 s2 (im (by decide)).1 (im (by decide)).2
  · exact rr_5_11 dst src imm size cond w d1 d2 s1 s2 (im (by decide)).1 (im (by decide)).2
  · exact rr_6_11 dst src imm size cond w d1 d2 s1 s2 (im (by decide)).1 (im (by decide)).2
  · exact rr_7_11 dst src imm size cond w d1 d2 s1 s2 (im (by decide)).1 (im (by decide)).2
  · exact rr_8_11 dst src imm size cond w d1 d2 s1 s2 (im (by decide)).1 (im (by decide)).2
  · exact rr_9_11 dst src imm size cond w d1 d2 s1 s2 (im (by decide)).1 (im (by decide)).2
  · exact rr_10_11 dst src imm size cond w d1 d2 s1 s2 (im (by decide)).1 (im (by decide)).2
  · exact rr_11_11 dst src imm size cond w d1 d2 s1 s2 (im (by decide)).1 (im (by decide)).2
  · exact rr_12_11 dst src imm size cond w d1 d2 s1 s2 (im (by decide)).1 (im (by decide)).2
  · exact rr_13_11 dst src imm size cond w d1 d2 s1 s2 (im (by decide)).1 (im (by decide)).2
  · exact rr_14_11 dst src imm size cond w d1 d2 s1 s2 (im (by decide)).1 (im (by decide)).2
  · exact rr_15_11 dst src imm size cond w d1 d2 s1 s2 (im (by decide)).1 (im (by decide)).2
  · exact rr_16_11 dst src imm size cond w d1 d2 s1 s2 (im (by decide)).1 (im (by decide)).2
  · exact rr_17_11 dst src imm size cond w d1 d2 s1 s2 (im (by decide)).1 (im (by decide)).2
  · exact rr_18_11 dst src imm size cond w d1 d2 s1 s2 (im (by decide)).1 (im (by decide)).2
  · exact rr_19_11 dst src imm size cond w d1 d2 s1 s2 (im (by decide)).1 (im (by decide)).2
  · exact rr_20_11 dst src imm size cond w d1 d2 s1 s2 (im (by decide)).1 (im (by decide)).2
  · exact rr_21_11 dst src imm size cond w d1 d2 s1 s2 (im (by decide)).1 (im (by decide)).2
  · exact rr_22_11 dst src imm size cond w d1 d2 s1 s2 (im (by decide)).1 (im (by decide)).2
  · exact rr_23_11 dst src imm size cond w d1 d2 s1 s2 (im (by decide)).1 (im (by decide)).2
  · exact rr_24_11 dst src imm size cond w d1 d2 s1 s2 (im (by decide)).1 (im (by decide)).2
  · exact rr_25_11 dst src imm size cond w d1 d2 s1 s2 (im (by decide)).1 (im (by decide)).2
  · exact rr_26_11 dst src imm size cond w d1 d2 s1 s2 (im (by decide)).1 (im (by decide)).2
  · exact rr_27_11 dst src imm size cond w d1 d2 s1 s2 (im (by decide)).1 (im (by decide)).2
  · exact rr_28_11 dst src imm size cond w d1 d2 s1 s2 (im (by decide)).1 (im (by decide)).2
  · exact rr_29_11 dst src imm size cond w d1 d2 s1 s2 (im (by decide)).1 (im (by decide)).2
  · exact rr_30_11 dst src imm size cond w d1 d2 s1 s2 (im (by decide)).1 (im (by decide)).2
  · exact rr_31_11 dst src imm size cond w d1 d2 s1 s2 (im (by decide)).1 (im (by decide)).2
  · exact rr_32_11 dst src imm size cond w d1 d2 s1 s2 (im (by decide)).1 (im (by decide)).2
  · exact rr_33_11 dst src imm size cond w d1 d2 s1 s2 (im (by decide)).1 (im (by decide)).2
  · exact rr_34_11 dst src imm size cond w d1 d2 s1 s2 (im (by decide)).1 (im (by decide)).2
  · exact rr_35_11 dst src imm size cond w d1 d2 s1 s2 (im (by decide)).1 (im (by decide)).2
  · exact rr_36_11 dst src imm size cond w d1 d2 s1 s2 (im (by decide)).1 (im (by decide)).2
  · exact rr_37_11 dst src imm size cond w d1 d2 s1 s2 (im (by decide)).1 (im (by decide)).2
  · exact rr_38_11 dst src imm size cond w d1 d2 s1 s2 (im (by decide)).1 (im (by decide)).2
  · exact rr_39_11 dst src imm size cond w d1 d2 s1 s2 (im (by decide)).1 (im (by decide)).2
  · exact rr_40_11 dst src imm size cond w d1 d2 s1 s2 (im (by decide)).1 (im (by decide)).2
  · exact rr_41_11 dst src imm size cond w d1 d2 s1 s2 (im (by decide)).1 (im (by decide)).2
theorem bytes_cases (t : ByteArray) : t = ⟨⟨[]⟩⟩ ∨ ∃ b bs, t = ⟨⟨b :: bs⟩⟩ := by
  obtain ⟨⟨l⟩⟩ := t
  cases l with
  | nil => exact Or.inl rfl
  | cons b bs => exact Or.inr ⟨b, bs, rfl⟩
theorem rr_all (op dst src imm size s cond e : Int) (to_ : ByteArray) (w : World) (o1 : 1 ≤ op ∧ op ≤ 41) (d1 : 0 ≤ dst) (d2 : dst ≤ 15) (s1 : 0 ≤ src) (s2 : src ≤ 15) (im : ¬ op = 2 → -2147483648 ≤ imm ∧ imm ≤ 2147483647)
    (hs : s = 0 ∨ s = 1) (he : e = 0 ∨ e = 1) (hE : to_.toList.isEmpty = decide (e = 1)) :
    Calls Tryz.prog 9 #[.agg #[.int .i64 op, .int .i64 dst, .int .i64 src, .int .i64 imm, .int .i64 size, .bool (decide (s = 1)), .int .i64 cond, .string to_]] w fun en w' => RightIs (RP op dst src imm size s cond e) en ∧ Below w.heap.size w w' := by
  rcases bytes_cases to_ with rfl | ⟨b, bs, rfl⟩
  · have he1 : e = 1 := by
      rcases he with rfl | rfl
      · rw [toList_data] at hE; simp at hE
      · rfl
    subst he1
    rcases hs with rfl | rfl
    · exact rr_01 op dst src imm size cond w o1 d1 d2 s1 s2 im
    · exact rr_11 op dst src imm size cond w o1 d1 d2 s1 s2 im
  · have he0 : e = 0 := by
      rcases he with rfl | rfl
      · rfl
      · rw [toList_data] at hE; simp at hE
    subst he0
    rcases hs with rfl | rfl
    · exact rr_00 op dst src imm size cond b bs w o1 d1 d2 s1 s2 im
    · exact rr_10 op dst src imm size cond b bs w o1 d1 d2 s1 s2 im
end Go.Proofs.YtmmpkkpmlaiapaaGreatDoor
