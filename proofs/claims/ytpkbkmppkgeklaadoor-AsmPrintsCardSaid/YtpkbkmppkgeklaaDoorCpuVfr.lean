/- Walks: which instructions may be (the first refusals). No condition. -/
import Derived.Test.YtpkbkmppkgeklaaDoorCpuV
namespace Go.Proofs.YtpkbkmppkgeklaaDoor
open Go.RowKit
set_option linter.unusedVariables false
set_option maxHeartbeats 8000000
set_option maxRecDepth 100000 in
theorem first_r (op dst src imm size s cond e : Int) (to_ : ByteArray) (w : World) (hi : In64 imm) (h : op < 1 ∨ (1 ≤ op ∧ 41 < op) ∨ (1 ≤ op ∧ op ≤ 41 ∧ dst < 0) ∨ (1 ≤ op ∧ op ≤ 41 ∧ 0 ≤ dst ∧ 15 < dst) ∨ (1 ≤ op ∧ op ≤ 41 ∧ 0 ≤ dst ∧ dst ≤ 15 ∧ src < 0) ∨ (1 ≤ op ∧ op ≤ 41 ∧ 0 ≤ dst ∧ dst ≤ 15 ∧ 0 ≤ src ∧ 15 < src) ∨
      (1 ≤ op ∧ op ≤ 41 ∧ 0 ≤ dst ∧ dst ≤ 15 ∧ 0 ≤ src ∧ src ≤ 15 ∧ (op != 2) = true ∧ imm < -2147483648) ∨ (1 ≤ op ∧ op ≤ 41 ∧ 0 ≤ dst ∧ dst ≤ 15 ∧ 0 ≤ src ∧ src ≤ 15 ∧ (op != 2) = true ∧ 2147483647 < imm)) :
    Calls Tryd.prog 11 #[.agg #[.int .i64 op, .int .i64 dst, .int .i64 src, .int .i64 imm, .int .i64 size, .bool (decide (s = 1)), .int .i64 cond, .string to_]] w fun en w' => RightIs (RP op dst src imm size s cond e) en ∧ Below w.heap.size w w' := by
  have hn0 : ¬ RP op dst src imm size s cond e := no_arith (by simp only [bne_iff_ne, ne_eq] at h; omega)
  have hn := Lib.hid hn0
  clear hn0
  generalize RP op dst src imm size s cond e = R at *
  obtain ⟨hi1, hi2⟩ := hi
  rcases h with h | ⟨h1, h⟩ | ⟨h1, h2, h⟩ | ⟨h1, h2, h3, h⟩ | ⟨h1, h2, h3, h4, h⟩ | ⟨h1, h2, h3, h4, h5, h⟩ | ⟨h1, h2, h3, h4, h5, h6, h7, h⟩ | ⟨h1, h2, h3, h4, h5, h6, h7, h⟩
  all_goals
    go_enter Tryd.func11, Tryd.ntmps11
    go_wp2
    all_goals go_returns
    all_goals refine ⟨ret_rp_false hn.out, ?_⟩
    all_goals go_grown
end Go.Proofs.YtpkbkmppkgeklaaDoor
