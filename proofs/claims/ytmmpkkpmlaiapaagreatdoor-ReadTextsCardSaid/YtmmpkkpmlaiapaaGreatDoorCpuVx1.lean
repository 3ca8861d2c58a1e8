/- Walks: which instructions may be (by classes of operations). No condition. -/
import Derived.Test.YtmmpkkpmlaiapaaGreatDoorQf
namespace Go.Proofs.YtmmpkkpmlaiapaaGreatDoor
open Go.RowKit
set_option maxRecDepth 100000
set_option linter.unusedVariables false
set_option maxHeartbeats 8000000
theorem right_xa (op dst src imm size s cond e : Int) (to_ : ByteArray) (w : World) (o1 : 7 ≤ op) (o2 : op ≤ 13) (d1 : 0 ≤ dst) (d2 : dst ≤ 15) (s1 : 0 ≤ src) (s2 : src ≤ 15) (hi : In64 imm) (i1 : -2147483648 ≤ imm) (i2 : imm ≤ 2147483647) (hs : s = 0 ∨ s = 1) (he : e = 0 ∨ e = 1) (hE : to_.toList.isEmpty = decide (e = 1)) (hz : In64 size) (hc : In64 cond) :
    Calls Tryz.prog 49 #[.agg #[.int .i64 op, .int .i64 dst, .int .i64 src, .int .i64 imm, .int .i64 size, .bool (decide (s = 1)), .int .i64 cond, .string to_]] w fun en w' => RightIs (RP op dst src imm size s cond e) en ∧ Below w.heap.size w w' := by
  obtain ⟨hi1, hi2⟩ := hi
  obtain ⟨hz1, hz2⟩ := hz
  obtain ⟨hc1, hc2⟩ := hc
  have e1 : (op == 1) = false := by simp; omega
  have e2 : (op == 2) = false := by simp; omega
  have e3 : (op == 3) = false := by simp; omega
  have e4 : (op == 4) = false := by simp; omega
  have e5 : (op == 5) = false := by simp; omega
  have e6 : (op == 6) = false := by simp; omega
  have e27 : (op == 27) = false := by simp; omega
  have e28 : (op == 28) = false := by simp; omega
  have e29 : (op == 29) = false := by simp; omega
  have e30 : (op == 30) = false := by simp; omega
  have e31 : (op == 31) = false := by simp; omega
  have e32 : (op == 32) = false := by simp; omega
  have e33 : (op == 33) = false := by simp; omega
  have e34 : (op == 34) = false := by simp; omega
  have e35 : (op == 35) = false := by simp; omega
  have e36 : (op == 36) = false := by simp; omega
  have e37 : (op == 37) = false := by simp; omega
  have e38 : (op == 38) = false := by simp; omega
  have e39 : (op == 39) = false := by simp; omega
  have e40 : (op == 40) = false := by simp; omega
  have e41 : (op == 41) = false := by simp; omega
  have n2 : (op != 2) = true := by simp; omega
  go_enter Tryz.func49, Tryz.ntmps49
  go_wp2
  all_goals go_returns
  all_goals refine ⟨?_, by go_grown⟩
  all_goals first
    | (refine ret_rp_false ?_; unfold RP lD lS lI lZ lG lC lT; omega)
    | (refine ret_rp_true ?_; unfold RP lD lS lI lZ lG lC lT; omega)
    | (refine ret_rp ?_; simp only [Bool.and_eq_true, Bool.or_eq_true, decide_eq_true_eq, Bool.not_eq_true', decide_eq_false_iff_not, beq_iff_eq, bne_iff_ne]; unfold RP lD lS lI lZ lG lC lT; omega)
theorem right_xc (op dst src imm size s cond e : Int) (to_ : ByteArray) (w : World) (o1 : 24 ≤ op) (o2 : op ≤ 26) (d1 : 0 ≤ dst) (d2 : dst ≤ 15) (s1 : 0 ≤ src) (s2 : src ≤ 15) (hi : In64 imm) (i1 : -2147483648 ≤ imm) (i2 : imm ≤ 2147483647) (hs : s = 0 ∨ s = 1) (he : e = 0 ∨ e = 1) (hE : to_.toList.isEmpty = decide (e = 1)) (hz : In64 size) (hc : In64 cond) :
    Calls Tryz.prog 49 #[.agg #[.int .i64 op, .int .i64 dst, .int .i64 src, .int .i64 imm, .int .i64 size, .bool (decide (s = 1)), .int .i64 cond, .string to_]] w fun en w' => RightIs (RP op dst src imm size s cond e) en ∧ Below w.heap.size w w' := by
  obtain ⟨hi1, hi2⟩ := hi
  obtain ⟨hz1, hz2⟩ := hz
  obtain ⟨hc1, hc2⟩ := hc
  have e1 : (op == 1) = false := by simp; omega
  have e2 : (op == 2) = false := by simp; omega
  have e3 : (op == 3) = false := by simp; omega
  have e4 : (op == 4) = false := by simp; omega
  have e5 : (op == 5) = false := by simp; omega
  have e6 : (op == 6) = false := by simp; omega
  have e27 : (op == 27) = false := by simp; omega
  have e28 : (op == 28) = false := by simp; omega
  have e29 : (op == 29) = false := by simp; omega
  have e30 : (op == 30) = false := by simp; omega
  have e31 : (op == 31) = false := by simp; omega
  have e32 : (op == 32) = false := by simp; omega
  have e33 : (op == 33) = false := by simp; omega
  have e34 : (op == 34) = false := by simp; omega
  have e35 : (op == 35) = false := by simp; omega
  have e36 : (op == 36) = false := by simp; omega
  have e37 : (op == 37) = false := by simp; omega
  have e38 : (op == 38) = false := by simp; omega
  have e39 : (op == 39) = false := by simp; omega
  have e40 : (op == 40) = false := by simp; omega
  have e41 : (op == 41) = false := by simp; omega
  have n2 : (op != 2) = true := by simp; omega
  go_enter Tryz.func49, Tryz.ntmps49
  go_wp2
  all_goals go_returns
  all_goals refine ⟨?_, by go_grown⟩
  all_goals first
    | (refine ret_rp_false ?_; unfold RP lD lS lI lZ lG lC lT; omega)
    | (refine ret_rp_true ?_; unfold RP lD lS lI lZ lG lC lT; omega)
    | (refine ret_rp ?_; simp only [Bool.and_eq_true, Bool.or_eq_true, decide_eq_true_eq, Bool.not_eq_true', decide_eq_false_iff_not, beq_iff_eq, bne_iff_ne]; unfold RP lD lS lI lZ lG lC lT; omega)
theorem right_x5 (dst src imm size s cond e : Int) (to_ : ByteArray) (w : World) (d1 : 0 ≤ dst) (d2 : dst ≤ 15) (s1 : 0 ≤ src) (s2 : src ≤ 15) (hi : In64 imm) (i1 : -2147483648 ≤ imm) (i2 : imm ≤ 2147483647) (hs : s = 0 ∨ s = 1) (he : e = 0 ∨ e = 1) (hE : to_.toList.isEmpty = decide (e = 1)) (hz : In64 size) (hc : In64 cond) :
    Calls Tryz.prog 49 #[.agg #[.int .i64 5, .int .i64 dst, .int .i64 src, .int .i64 imm, .int .i64 size, .bool (decide (s = 1)), .int .i64 cond, .string to_]] w fun en w' => RightIs (RP 5 dst src imm size s cond e) en ∧ Below w.heap.size w w' := by
  obtain ⟨hi1, hi2⟩ := hi
  obtain ⟨hz1, hz2⟩ := hz
  obtain ⟨hc1, hc2⟩ := hc
  go_enter Tryz.func49, Tryz.ntmps49
  go_wp2
  all_goals go_returns
  all_goals refine ⟨?_, by go_grown⟩
  all_goals first
    | (refine ret_rp_false ?_; unfold RP lD lS lI lZ lG lC lT; omega)
    | (refine ret_rp_true ?_; unfold RP lD lS lI lZ lG lC lT; omega)
    | (refine ret_rp ?_; simp only [Bool.and_eq_true, Bool.or_eq_true, decide_eq_true_eq, Bool.not_eq_true', decide_eq_false_iff_not, beq_iff_eq, bne_iff_ne]; unfold RP lD lS lI lZ lG lC lT; omega)
theorem right_x28 (dst src imm size s cond e : Int) (to_ : ByteArray) (w : World) (d1 : 0 ≤ dst) (d2 : dst ≤ 15) (s1 : 0 ≤ src) (s2 : src ≤ 15) (hi : In64 imm) (i1 : -2147483648 ≤ imm) (i2 : imm ≤ 2147483647) (hs : s = 0 ∨ s = 1) (he : e = 0 ∨ e = 1) (hE : to_.toList.isEmpty = decide (e = 1)) (hz : In64 size) (hc : In64 cond) :
    Calls Tryz.prog 49 #[.agg #[.int .i64 28, .int .i64 dst, .int .i64 src, .int .i64 imm, .int .i64 size, .bool (decide (s = 1)), .int .i64 cond, .string to_]] w fun en w' => RightIs (RP 28 dst src imm size s cond e) en ∧ Below w.heap.size w w' := by
  obtain ⟨hi1, hi2⟩ := hi
  obtain ⟨hz1, hz2⟩ := hz
  obtain ⟨hc1, hc2⟩ := hc
  go_enter Tryz.func49, Tryz.ntmps49
  go_wp2
  all_goals go_returns
  all_goals refine ⟨?_, by go_grown⟩
  all_goals first
    | (refine ret_rp_false ?_; unfold RP lD lS lI lZ lG lC lT; omega)
    | (refine ret_rp_true ?_; unfold RP lD lS lI lZ lG lC lT; omega)
    | (refine ret_rp ?_; simp only [Bool.and_eq_true, Bool.or_eq_true, decide_eq_true_eq, Bool.not_eq_true', decide_eq_false_iff_not, beq_iff_eq, bne_iff_ne]; unfold RP lD lS lI lZ lG lC lT; omega)
theorem right_x37 (dst src imm size s cond e : Int) (to_ : ByteArray) (w : World) (d1 : 0 ≤ dst) (d2 : dst ≤ 15) (s1 : 0 ≤ src) (s2 : src ≤ 15) (hi : In64 imm) (i1 : -2147483648 ≤ imm) (i2 : imm ≤ 2147483647) (hs : s = 0 ∨ s = 1) (he : e = 0 ∨ e = 1) (hE : to_.toList.isEmpty = decide (e = 1)) (hz : In64 size) (hc : In64 cond) :
    Calls Tryz.prog 49 #[.agg #[.int .i64 37, .int .i64 dst, .int .i64 src, .int .i64 imm, .int .i64 size, .bool (decide (s = 1)), .int .i64 cond, .string to_]] w fun en w' => RightIs (RP 37 dst src imm size s cond e) en ∧ Below w.heap.size w w' := by
  obtain ⟨hi1, hi2⟩ := hi
  obtain ⟨hz1, hz2⟩ := hz
  obtain ⟨hc1, hc2⟩ := hc
  go_enter Tryz.func49, Tryz.ntmps49
  go_wp2
  all_goals go_returns
  all_goals refine ⟨?_, by go_grown⟩
  all_goals first
    | (refine ret_rp_false ?_; unfold RP lD lS lI lZ lG lC lT; omega)
    | (refine ret_rp_true ?_; unfold RP lD lS lI lZ lG lC lT; omega)
    | (refine ret_rp ?_; simp only [Bool.and_eq_true, Bool.or_eq_true, decide_eq_true_eq, Bool.not_eq_true', decide_eq_false_iff_not, beq_iff_eq, bne_iff_ne]; unfold RP lD lS lI lZ lG lC lT; omega)
theorem right_x31 (dst src imm size s cond e : Int) (to_ : ByteArray) (w : World) (d1 : 0 ≤ dst) (d2 : dst ≤ 15) (s1 : 0 ≤ src) (s2 : src ≤ 15) (hi : In64 imm) (i1 : -2147483648 ≤ imm) (i2 : imm ≤ 2147483647) (hs : s = 0 ∨ s = 1) (he : e = 0 ∨ e = 1) (hE : to_.toList.isEmpty = decide (e = 1)) (hz : In64 size) (hc : In64 cond) :
    Calls Tryz.prog 49 #[.agg #[.int .i64 31, .int .i64 dst, .int .i64 src, .int .i64 imm, .int .i64 size, .bool (decide (s = 1)), .int .i64 cond, .string to_]] w fun en w' => RightIs (RP 31 dst src imm size s cond e) en ∧ Below w.heap.size w w' := by
  obtain ⟨hi1, hi2⟩ := hi
  obtain ⟨hz1, hz2⟩ := hz
  obtain ⟨hc1, hc2⟩ := hc
  go_enter Tryz.func49, Tryz.ntmps49
  go_wp2
  all_goals go_returns
  all_goals refine ⟨?_, by go_grown⟩
  all_goals first
    | (refine ret_rp_false ?_; unfold RP lD lS lI lZ lG lC lT; omega)
    | (refine ret_rp_true ?_; unfold RP lD lS lI lZ lG lC lT; omega)
    | (refine ret_rp ?_; simp only [Bool.and_eq_true, Bool.or_eq_true, decide_eq_true_eq, Bool.not_eq_true', decide_eq_false_iff_not, beq_iff_eq, bne_iff_ne]; unfold RP lD lS lI lZ lG lC lT; omega)
theorem right_x33 (dst src imm size s cond e : Int) (to_ : ByteArray) (w : World) (d1 : 0 ≤ dst) (d2 : dst ≤ 15) (s1 : 0 ≤ src) (s2 : src ≤ 15) (hi : In64 imm) (i1 : -2147483648 ≤ imm) (i2 : imm ≤ 2147483647) (hs : s = 0 ∨ s = 1) (he : e = 0 ∨ e = 1) (hE : to_.toList.isEmpty = decide (e = 1)) (hz : In64 size) (hc : In64 cond) :
    Calls Tryz.prog 49 #[.agg #[.int .i64 33, .int .i64 dst, .int .i64 src, .int .i64 imm, .int .i64 size, .bool (decide (s = 1)), .int .i64 cond, .string to_]] w fun en w' => RightIs (RP 33 dst src imm size s cond e) en ∧ Below w.heap.size w w' := by
  obtain ⟨hi1, hi2⟩ := hi
  obtain ⟨hz1, hz2⟩ := hz
  obtain ⟨hc1, hc2⟩ := hc
  go_enter Tryz.func49, Tryz.ntmps49
  go_wp2
  all_goals go_returns
  all_goals refine ⟨?_, by go_grown⟩
  all_goals first
    | (refine ret_rp_false ?_; unfold RP lD lS lI lZ lG lC lT; omega)
    | (refine ret_rp_true ?_; unfold RP lD lS lI lZ lG lC lT; omega)
    | (refine ret_rp ?_; simp only [Bool.and_eq_true, Bool.or_eq_true, decide_eq_true_eq, Bool.not_eq_true', decide_eq_false_iff_not, beq_iff_eq, bne_iff_ne]; unfold RP lD lS lI lZ lG lC lT; omega)
theorem right_x38 (dst src imm size s cond e : Int) (to_ : ByteArray) (w : World) (d1 : 0 ≤ dst) (d2 : dst ≤ 15) (s1 : 0 ≤ src) (s2 : src ≤ 15) (hi : In64 imm) (i1 : -2147483648 ≤ imm) (i2 : imm ≤ 2147483647) (hs : s = 0 ∨ s = 1) (he : e = 0 ∨ e = 1) (hE : to_.toList.isEmpty = decide (e = 1)) (hz : In64 size) (hc : In64 cond) :
    Calls Tryz.prog 49 #[.agg #[.int .i64 38, .int .i64 dst, .int .i64 src, .int .i64 imm, .int .i64 size, .bool (decide (s = 1)), .int .i64 cond, .string to_]] w fun en w' => RightIs (RP 38 dst src imm size s cond e) en ∧ Below w.heap.size w w' := by
  obtain ⟨hi1, hi2⟩ := hi
  obtain ⟨hz1, hz2⟩ := hz
  obtain ⟨hc1, hc2⟩ := hc
  go_enter Tryz.func49, Tryz.ntmps49
  go_wp2
  all_goals go_returns
  all_goals refine ⟨?_, by go_grown⟩
  all_goals first
    | (refine ret_rp_false ?_; unfold RP lD lS lI lZ lG lC lT; omega)
    | (refine ret_rp_true ?_; unfold RP lD lS lI lZ lG lC lT; omega)
    | (refine ret_rp ?_; simp only [Bool.and_eq_true, Bool.or_eq_true, decide_eq_true_eq, Bool.not_eq_true', decide_eq_false_iff_not, beq_iff_eq, bne_iff_ne]; unfold RP lD lS lI lZ lG lC lT; omega)
end Go.Proofs.YtmmpkkpmlaiapaaGreatDoor
