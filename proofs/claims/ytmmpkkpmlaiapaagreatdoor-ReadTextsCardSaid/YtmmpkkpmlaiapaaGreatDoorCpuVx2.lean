/- Walks: which instructions may be (by classes of operations). No condition. -/
import Derived.Test.YtmmpkkpmlaiapaaGreatDoorQf
namespace Go.Proofs.YtmmpkkpmlaiapaaGreatDoor
open Go.RowKit
set_option maxRecDepth 100000
set_option linter.unusedVariables false
set_option maxHeartbeats 8000000
theorem right_x2 (dst src imm size s cond e : Int) (to_ : ByteArray) (w : World) (d1 : 0 ≤ dst) (d2 : dst ≤ 15) (s1 : 0 ≤ src) (s2 : src ≤ 15) (hi : In64 imm) (hs : s = 0 ∨ s = 1) (he : e = 0 ∨ e = 1) (hE : to_.toList.isEmpty = decide (e = 1)) (hz : In64 size) (hc : In64 cond) :
    Calls Tryz.prog 49 #[.agg #[.int .i64 2, .int .i64 dst, .int .i64 src, .int .i64 imm, .int .i64 size, .bool (decide (s = 1)), .int .i64 cond, .string to_]] w fun en w' => RightIs (RP 2 dst src imm size s cond e) en ∧ Below w.heap.size w w' := by
  obtain ⟨hi1, hi2⟩ := hi
  obtain ⟨hz1, hz2⟩ := hz
  obtain ⟨hc1, hc2⟩ := hc
  go_enter Tryz.func49, Tryz.ntmps49
  go_wp2
  all_goals go_returns
  all_goals refine ⟨?_, by go_grown⟩
  all_goals first
    | (refine ret_rp_false ?_; unfold RP lD lS lI lZ lG lC lT; omega)
    | (refine ret_rp_true ?_; unfold RP lD lS lI lZ lG lC lT; omega)
    | (refine ret_rp ?_; simp only [Bool.and_eq_true, Bool.or_eq_true, decide_eq_true_eq, Bool.not_eq_true', decide_eq_false_iff_not, beq_iff_eq, bne_iff_ne]; unfold RP lD lS lI lZ lG lC lT; omega)
theorem right_x3 (dst src imm size s cond e : Int) (to_ : ByteArray) (w : World) (d1 : 0 ≤ dst) (d2 : dst ≤ 15) (s1 : 0 ≤ src) (s2 : src ≤ 15) (hi : In64 imm) (i1 : -2147483648 ≤ imm) (i2 : imm ≤ 2147483647) (hs : s = 0 ∨ s = 1) (he : e = 0 ∨ e = 1) (hE : to_.toList.isEmpty = decide (e = 1)) (hz : In64 size) (hc : In64 cond) :
    Calls Tryz.prog 49 #[.agg #[.int .i64 3, .int .i64 dst, .int .i64 src, .int .i64 imm, .int .i64 size, .bool (decide (s = 1)), .int .i64 cond, .string to_]] w fun en w' => RightIs (RP 3 dst src imm size s cond e) en ∧ Below w.heap.size w w' := by
  obtain ⟨hi1, hi2⟩ := hi
  obtain ⟨hz1, hz2⟩ := hz
  obtain ⟨hc1, hc2⟩ := hc
  go_enter Tryz.func49, Tryz.ntmps49
  go_wp2
  all_goals go_returns
  all_goals refine ⟨?_, by go_grown⟩
  all_goals first
    | (refine ret_rp_false ?_; unfold RP lD lS lI lZ lG lC lT; omega)
    | (refine ret_rp_true ?_; unfold RP lD lS lI lZ lG lC lT; omega)
    | (refine ret_rp ?_; simp only [Bool.and_eq_true, Bool.or_eq_true, decide_eq_true_eq, Bool.not_eq_true', decide_eq_false_iff_not, beq_iff_eq, bne_iff_ne]; unfold RP lD lS lI lZ lG lC lT; omega)
theorem right_x6 (dst src imm size s cond e : Int) (to_ : ByteArray) (w : World) (d1 : 0 ≤ dst) (d2 : dst ≤ 15) (s1 : 0 ≤ src) (s2 : src ≤ 15) (hi : In64 imm) (i1 : -2147483648 ≤ imm) (i2 : imm ≤ 2147483647) (hs : s = 0 ∨ s = 1) (he : e = 0 ∨ e = 1) (hE : to_.toList.isEmpty = decide (e = 1)) (hz : In64 size) (hc : In64 cond) :
    Calls Tryz.prog 49 #[.agg #[.int .i64 6, .int .i64 dst, .int .i64 src, .int .i64 imm, .int .i64 size, .bool (decide (s = 1)), .int .i64 cond, .string to_]] w fun en w' => RightIs (RP 6 dst src imm size s cond e) en ∧ Below w.heap.size w w' := by
  obtain ⟨hi1, hi2⟩ := hi
  obtain ⟨hz1, hz2⟩ := hz
  obtain ⟨hc1, hc2⟩ := hc
  go_enter Tryz.func49, Tryz.ntmps49
  go_wp2
  all_goals go_returns
  all_goals refine ⟨?_, by go_grown⟩
  all_goals first
    | (refine ret_rp_false ?_; unfold RP lD lS lI lZ lG lC lT; omega)
    | (refine ret_rp_true ?_; unfold RP lD lS lI lZ lG lC lT; omega)
    | (refine ret_rp ?_; simp only [Bool.and_eq_true, Bool.or_eq_true, decide_eq_true_eq, Bool.not_eq_true', decide_eq_false_iff_not, beq_iff_eq, bne_iff_ne]; unfold RP lD lS lI lZ lG lC lT; omega)
theorem right_x29 (dst src imm size s cond e : Int) (to_ : ByteArray) (w : World) (d1 : 0 ≤ dst) (d2 : dst ≤ 15) (s1 : 0 ≤ src) (s2 : src ≤ 15) (hi : In64 imm) (i1 : -2147483648 ≤ imm) (i2 : imm ≤ 2147483647) (hs : s = 0 ∨ s = 1) (he : e = 0 ∨ e = 1) (hE : to_.toList.isEmpty = decide (e = 1)) (hz : In64 size) (hc : In64 cond) :
    Calls Tryz.prog 49 #[.agg #[.int .i64 29, .int .i64 dst, .int .i64 src, .int .i64 imm, .int .i64 size, .bool (decide (s = 1)), .int .i64 cond, .string to_]] w fun en w' => RightIs (RP 29 dst src imm size s cond e) en ∧ Below w.heap.size w w' := by
  obtain ⟨hi1, hi2⟩ := hi
  obtain ⟨hz1, hz2⟩ := hz
  obtain ⟨hc1, hc2⟩ := hc
  go_enter Tryz.func49, Tryz.ntmps49
  go_wp2
  all_goals go_returns
  all_goals refine ⟨?_, by go_grown⟩
  all_goals first
    | (refine ret_rp_false ?_; unfold RP lD lS lI lZ lG lC lT; omega)
    | (refine ret_rp_true ?_; unfold RP lD lS lI lZ lG lC lT; omega)
    | (refine ret_rp ?_; simp only [Bool.and_eq_true, Bool.or_eq_true, decide_eq_true_eq, Bool.not_eq_true', decide_eq_false_iff_not, beq_iff_eq, bne_iff_ne]; unfold RP lD lS lI lZ lG lC lT; omega)
theorem right_x40 (dst src imm size s cond e : Int) (to_ : ByteArray) (w : World) (d1 : 0 ≤ dst) (d2 : dst ≤ 15) (s1 : 0 ≤ src) (s2 : src ≤ 15) (hi : In64 imm) (i1 : -2147483648 ≤ imm) (i2 : imm ≤ 2147483647) (hs : s = 0 ∨ s = 1) (he : e = 0 ∨ e = 1) (hE : to_.toList.isEmpty = decide (e = 1)) (hz : In64 size) (hc : In64 cond) :
    Calls Tryz.prog 49 #[.agg #[.int .i64 40, .int .i64 dst, .int .i64 src, .int .i64 imm, .int .i64 size, .bool (decide (s = 1)), .int .i64 cond, .string to_]] w fun en w' => RightIs (RP 40 dst src imm size s cond e) en ∧ Below w.heap.size w w' := by
  obtain ⟨hi1, hi2⟩ := hi
  obtain ⟨hz1, hz2⟩ := hz
  obtain ⟨hc1, hc2⟩ := hc
  go_enter Tryz.func49, Tryz.ntmps49
  go_wp2
  all_goals go_returns
  all_goals refine ⟨?_, by go_grown⟩
  all_goals first
    | (refine ret_rp_false ?_; unfold RP lD lS lI lZ lG lC lT; omega)
    | (refine ret_rp_true ?_; unfold RP lD lS lI lZ lG lC lT; omega)
    | (refine ret_rp ?_; simp only [Bool.and_eq_true, Bool.or_eq_true, decide_eq_true_eq, Bool.not_eq_true', decide_eq_false_iff_not, beq_iff_eq, bne_iff_ne]; unfold RP lD lS lI lZ lG lC lT; omega)
theorem right_x32 (dst src imm size s cond e : Int) (to_ : ByteArray) (w : World) (d1 : 0 ≤ dst) (d2 : dst ≤ 15) (s1 : 0 ≤ src) (s2 : src ≤ 15) (hi : In64 imm) (i1 : -2147483648 ≤ imm) (i2 : imm ≤ 2147483647) (hs : s = 0 ∨ s = 1) (he : e = 0 ∨ e = 1) (hE : to_.toList.isEmpty = decide (e = 1)) (hz : In64 size) (hc : In64 cond) :
    Calls Tryz.prog 49 #[.agg #[.int .i64 32, .int .i64 dst, .int .i64 src, .int .i64 imm, .int .i64 size, .bool (decide (s = 1)), .int .i64 cond, .string to_]] w fun en w' => RightIs (RP 32 dst src imm size s cond e) en ∧ Below w.heap.size w w' := by
  obtain ⟨hi1, hi2⟩ := hi
  obtain ⟨hz1, hz2⟩ := hz
  obtain ⟨hc1, hc2⟩ := hc
  go_enter Tryz.func49, Tryz.ntmps49
  go_wp2
  all_goals go_returns
  all_goals refine ⟨?_, by go_grown⟩
  all_goals first
    | (refine ret_rp_false ?_; unfold RP lD lS lI lZ lG lC lT; omega)
    | (refine ret_rp_true ?_; unfold RP lD lS lI lZ lG lC lT; omega)
    | (refine ret_rp ?_; simp only [Bool.and_eq_true, Bool.or_eq_true, decide_eq_true_eq, Bool.not_eq_true', decide_eq_false_iff_not, beq_iff_eq, bne_iff_ne]; unfold RP lD lS lI lZ lG lC lT; omega)
theorem right_x35 (dst src imm size s cond e : Int) (to_ : ByteArray) (w : World) (d1 : 0 ≤ dst) (d2 : dst ≤ 15) (s1 : 0 ≤ src) (s2 : src ≤ 15) (hi : In64 imm) (i1 : -2147483648 ≤ imm) (i2 : imm ≤ 2147483647) (hs : s = 0 ∨ s = 1) (he : e = 0 ∨ e = 1) (hE : to_.toList.isEmpty = decide (e = 1)) (hz : In64 size) (hc : In64 cond) :
    Calls Tryz.prog 49 #[.agg #[.int .i64 35, .int .i64 dst, .int .i64 src, .int .i64 imm, .int .i64 size, .bool (decide (s = 1)), .int .i64 cond, .string to_]] w fun en w' => RightIs (RP 35 dst src imm size s cond e) en ∧ Below w.heap.size w w' := by
  obtain ⟨hi1, hi2⟩ := hi
  obtain ⟨hz1, hz2⟩ := hz
  obtain ⟨hc1, hc2⟩ := hc
  go_enter Tryz.func49, Tryz.ntmps49
  go_wp2
  all_goals go_returns
  all_goals refine ⟨?_, by go_grown⟩
  all_goals first
    | (refine ret_rp_false ?_; unfold RP lD lS lI lZ lG lC lT; omega)
    | (refine ret_rp_true ?_; unfold RP lD lS lI lZ lG lC lT; omega)
    | (refine ret_rp ?_; simp only [Bool.and_eq_true, Bool.or_eq_true, decide_eq_true_eq, Bool.not_eq_true', decide_eq_false_iff_not, beq_iff_eq, bne_iff_ne]; unfold RP lD lS lI lZ lG lC lT; omega)
theorem right_x39 (dst src imm size s cond e : Int) (to_ : ByteArray) (w : World) (d1 : 0 ≤ dst) (d2 : dst ≤ 15) (s1 : 0 ≤ src) (s2 : src ≤ 15) (hi : In64 imm) (i1 : -2147483648 ≤ imm) (i2 : imm ≤ 2147483647) (hs : s = 0 ∨ s = 1) (he : e = 0 ∨ e = 1) (hE : to_.toList.isEmpty = decide (e = 1)) (hz : In64 size) (hc : In64 cond) :
    Calls Tryz.prog 49 #[.agg #[.int .i64 39, .int .i64 dst, .int .i64 src, .int .i64 imm, .int .i64 size, .bool (decide (s = 1)), .int .i64 cond, .string to_]] w fun en w' => RightIs (RP 39 dst src imm size s cond e) en ∧ Below w.heap.size w w' := by
  obtain ⟨hi1, hi2⟩ := hi
  obtain ⟨hz1, hz2⟩ := hz
  obtain ⟨hc1, hc2⟩ := hc
  go_enter Tryz.func49, Tryz.ntmps49
  go_wp2
  all_goals go_returns
  all_goals refine ⟨?_, by go_grown⟩
  all_goals first
    | (refine ret_rp_false ?_; unfold RP lD lS lI lZ lG lC lT; omega)
    | (refine ret_rp_true ?_; unfold RP lD lS lI lZ lG lC lT; omega)
    | (refine ret_rp ?_; simp only [Bool.and_eq_true, Bool.or_eq_true, decide_eq_true_eq, Bool.not_eq_true', decide_eq_false_iff_not, beq_iff_eq, bne_iff_ne]; unfold RP lD lS lI lZ lG lC lT; omega)
end Go.Proofs.YtmmpkkpmlaiapaaGreatDoor
