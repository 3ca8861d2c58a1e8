/- Which instructions may be (the first refusals), run by the machine. No condition. -/
import Derived.Test.YtmmpkkpmlaiapaaGreatDoorCpuVfi
namespace Go.Proofs.YtmmpkkpmlaiapaaGreatDoor
open Go.RowKit
set_option linter.unusedVariables false
set_option maxHeartbeats 8000000
set_option maxRecDepth 100000 in
theorem first_x (op dst src imm size s cond e : Int) (to_ : ByteArray) (w : World) (hi : In64 imm) (h : op < 1 ∨ (1 ≤ op ∧ 41 < op) ∨ (1 ≤ op ∧ op ≤ 41 ∧ dst < 0) ∨ (1 ≤ op ∧ op ≤ 41 ∧ 0 ≤ dst ∧ 15 < dst) ∨ (1 ≤ op ∧ op ≤ 41 ∧ 0 ≤ dst ∧ dst ≤ 15 ∧ src < 0) ∨ (1 ≤ op ∧ op ≤ 41 ∧ 0 ≤ dst ∧ dst ≤ 15 ∧ 0 ≤ src ∧ 15 < src) ∨
      (1 ≤ op ∧ op ≤ 41 ∧ 0 ≤ dst ∧ dst ≤ 15 ∧ 0 ≤ src ∧ src ≤ 15 ∧ (op != 2) = true ∧ imm < -2147483648) ∨ (1 ≤ op ∧ op ≤ 41 ∧ 0 ≤ dst ∧ dst ≤ 15 ∧ 0 ≤ src ∧ src ≤ 15 ∧ (op != 2) = true ∧ 2147483647 < imm)) :
    Calls Tryz.prog 49 #[.agg #[.int .i64 op, .int .i64 dst, .int .i64 src, .int .i64 imm, .int .i64 size, .bool (decide (s = 1)), .int .i64 cond, .string to_]] w fun en w' => RightIs (RP op dst src imm size s cond e) en ∧ Below w.heap.size w w' := by
  have hn0 : ¬ RP op dst src imm size s cond e := no_arith (by simp only [bne_iff_ne, ne_eq] at h; omega)
  have fin : ∀ en w', (en = .returned (.bool false) ∧ Below w.heap.size w w') → RightIs (RP op dst src imm size s cond e) en ∧ Below w.heap.size w w' := by
    rintro en w' ⟨rfl, hb⟩
    exact ⟨ret_rp_false hn0, hb⟩
  have run : ∀ (sg : Bool), Calls Tryz.prog 49 #[.agg #[.int .i64 op, .int .i64 dst, .int .i64 src, .int .i64 imm, .int .i64 size, .bool sg, .int .i64 cond, .string to_]] w fun en w' => en = .returned (.bool false) ∧ Below w.heap.size w w' := by
    intro sg
    clear fin hn0
    rcases h with h | ⟨h1, h⟩ | ⟨h1, h2, h⟩ | ⟨h1, h2, h3, h⟩ | ⟨h1, h2, h3, h4, h⟩ | ⟨h1, h2, h3, h4, h5, h⟩ | ⟨h1, h2, h3, h4, h5, h6, h7, h⟩ | ⟨h1, h2, h3, h4, h5, h6, h7, h⟩
    · exact rp_of _ (kn_cons (kn_lss 5 1 true (decide_eq_true (show op < 1 by omega))) (kn_nil (m6 dst src imm size cond op))) sg to_ false (by cases sg <;> kernel_rfl) w
    · exact rp_of _ (kn_cons (kn_gtr 5 41 true (decide_eq_true (show op > 41 by omega))) (kn_cons (kn_lss 5 1 false (decide_eq_false (show ¬ (op < 1) by omega))) (kn_nil (m6 dst src imm size cond op)))) sg to_ false (by cases sg <;> kernel_rfl) w
    · exact rp_of _ (kn_cons (kn_lss 0 0 true (decide_eq_true (show dst < 0 by omega))) (kn_cons (kn_gtr 5 41 false (decide_eq_false (show ¬ (op > 41) by omega))) (kn_cons (kn_lss 5 1 false (decide_eq_false (show ¬ (op < 1) by omega))) (kn_nil (m6 dst src imm size cond op))))) sg to_ false (by cases sg <;> kernel_rfl) w
    · exact rp_of _ (kn_cons (kn_gtr 0 15 true (decide_eq_true (show dst > 15 by omega))) (kn_cons (kn_lss 0 0 false (decide_eq_false (show ¬ (dst < 0) by omega))) (kn_cons (kn_gtr 5 41 false (decide_eq_false (show ¬ (op > 41) by omega))) (kn_cons (kn_lss 5 1 false (decide_eq_false (show ¬ (op < 1) by omega))) (kn_nil (m6 dst src imm size cond op)))))) sg to_ false (by cases sg <;> kernel_rfl) w
    · exact rp_of _ (kn_cons (kn_lss 1 0 true (decide_eq_true (show src < 0 by omega))) (kn_cons (kn_gtr 0 15 false (decide_eq_false (show ¬ (dst > 15) by omega))) (kn_cons (kn_lss 0 0 false (decide_eq_false (show ¬ (dst < 0) by omega))) (kn_cons (kn_gtr 5 41 false (decide_eq_false (show ¬ (op > 41) by omega))) (kn_cons (kn_lss 5 1 false (decide_eq_false (show ¬ (op < 1) by omega))) (kn_nil (m6 dst src imm size cond op))))))) sg to_ false (by cases sg <;> kernel_rfl) w
    · exact rp_of _ (kn_cons (kn_gtr 1 15 true (decide_eq_true (show src > 15 by omega))) (kn_cons (kn_lss 1 0 false (decide_eq_false (show ¬ (src < 0) by omega))) (kn_cons (kn_gtr 0 15 false (decide_eq_false (show ¬ (dst > 15) by omega))) (kn_cons (kn_lss 0 0 false (decide_eq_false (show ¬ (dst < 0) by omega))) (kn_cons (kn_gtr 5 41 false (decide_eq_false (show ¬ (op > 41) by omega))) (kn_cons (kn_lss 5 1 false (decide_eq_false (show ¬ (op < 1) by omega))) (kn_nil (m6 dst src imm size cond op)))))))) sg to_ false (by cases sg <;> kernel_rfl) w
    · exact wide_x op dst src imm size cond sg to_ w h1 h2 h3 h4 h5 h6 (by simpa using h7) (by omega)
    · exact wide_x op dst src imm size cond sg to_ w h1 h2 h3 h4 h5 h6 (by simpa using h7) (by omega)
  exact (run _).mono fin
end Go.Proofs.YtmmpkkpmlaiapaaGreatDoor
