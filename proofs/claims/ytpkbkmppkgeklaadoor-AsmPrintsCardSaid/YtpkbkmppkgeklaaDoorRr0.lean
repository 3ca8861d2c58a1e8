/- The document's Right, run: operations 2, 10, 18, 34, 36. The document's Right, run: operations 4, 5, 14, 21, 27, 40. No condition. -/
import Derived.Test.YtpkbkmppkgeklaaDoorRr
namespace Go.Proofs.YtpkbkmppkgeklaaDoor
open Go.RowKit
set_option linter.unusedVariables false
theorem rr_2_00 (dst src imm size cond : Int) (b : UInt8) (bs : List UInt8) (w : World) (d1 : 0 ≤ dst) (d2 : dst ≤ 15) (s1 : 0 ≤ src) (s2 : src ≤ 15) :
    Calls Tryd.prog 11 #[.agg #[.int .i64 2, .int .i64 dst, .int .i64 src, .int .i64 imm, .int .i64 size, .bool false, .int .i64 cond, .string ⟨⟨b :: bs⟩⟩]] w fun en w' => RightIs (RP 2 dst src imm size 0 cond 0) en ∧ Below w.heap.size w w' := by
  have base := (kn_cons (kn_lss 0 0 false (decide_eq_false (show ¬ (dst < 0) by omega))) (kn_cons (kn_gtr 0 15 false (decide_eq_false (show ¬ (dst > 15) by omega))) (kn_cons (kn_lss 1 0 false (decide_eq_false (show ¬ (src < 0) by omega))) (kn_cons (kn_gtr 1 15 false (decide_eq_false (show ¬ (src > 15) by omega))) (kn_nil (m5 dst src imm size cond))))))
  by_cases h0 : src ≠ 0
  · exact fin_false (rr_of _ (nT 1 0 h0 base) 2 false ⟨⟨b :: bs⟩⟩ false (by kernel_rfl) w) (by unfold RP lD lS lI lZ lG lC lT; omega)
  · by_cases h1 : size ≠ 0
    · exact fin_false (rr_of _ (nT 3 0 h1 (nF 1 0 h0 base)) 2 false ⟨⟨b :: bs⟩⟩ false (by kernel_rfl) w) (by unfold RP lD lS lI lZ lG lC lT; omega)
    · by_cases h2 : cond ≠ 0
      · exact fin_false (rr_of _ (nT 4 0 h2 (nF 3 0 h1 (nF 1 0 h0 base))) 2 false ⟨⟨b :: bs⟩⟩ false (by kernel_rfl) w) (by unfold RP lD lS lI lZ lG lC lT; omega)
      · exact fin_false (rr_of _ (nF 4 0 h2 (nF 3 0 h1 (nF 1 0 h0 base))) 2 false ⟨⟨b :: bs⟩⟩ false (by kernel_rfl) w) (by unfold RP lD lS lI lZ lG lC lT; omega)
theorem rr_2_01 (dst src imm size cond : Int) (w : World) (d1 : 0 ≤ dst) (d2 : dst ≤ 15) (s1 : 0 ≤ src) (s2 : src ≤ 15) :
    Calls Tryd.prog 11 #[.agg #[.int .i64 2, .int .i64 dst, .int .i64 src, .int .i64 imm, .int .i64 size, .bool false, .int .i64 cond, .string ⟨⟨[]⟩⟩]] w fun en w' => RightIs (RP 2 dst src imm size 0 cond 1) en ∧ Below w.heap.size w w' := by
  have base := (kn_cons (kn_lss 0 0 false (decide_eq_false (show ¬ (dst < 0) by omega))) (kn_cons (kn_gtr 0 15 false (decide_eq_false (show ¬ (dst > 15) by omega))) (kn_cons (kn_lss 1 0 false (decide_eq_false (show ¬ (src < 0) by omega))) (kn_cons (kn_gtr 1 15 false (decide_eq_false (show ¬ (src > 15) by omega))) (kn_nil (m5 dst src imm size cond))))))
  by_cases h0 : src ≠ 0
  · exact fin_false (rr_of _ (nT 1 0 h0 base) 2 false ⟨⟨[]⟩⟩ false (by kernel_rfl) w) (by unfold RP lD lS lI lZ lG lC lT; omega)
  · by_cases h1 : size ≠ 0
    · exact fin_false (rr_of _ (nT 3 0 h1 (nF 1 0 h0 base)) 2 false ⟨⟨[]⟩⟩ false (by kernel_rfl) w) (by unfold RP lD lS lI lZ lG lC lT; omega)
    · by_cases h2 : cond ≠ 0
      · exact fin_false (rr_of _ (nT 4 0 h2 (nF 3 0 h1 (nF 1 0 h0 base))) 2 false ⟨⟨[]⟩⟩ false (by kernel_rfl) w) (by unfold RP lD lS lI lZ lG lC lT; omega)
      · exact fin_true (rr_of _ (nF 4 0 h2 (nF 3 0 h1 (nF 1 0 h0 base))) 2 false ⟨⟨[]⟩⟩ true (by kernel_rfl) w) (by unfold RP lD lS lI lZ lG lC lT; omega)
theorem rr_2_10 (dst src imm size cond : Int) (b : UInt8) (bs : List UInt8) (w : World) (d1 : 0 ≤ dst) (d2 : dst ≤ 15) (s1 : 0 ≤ src) (s2 : src ≤ 15) :
    Calls Tryd.prog 11 #[.agg #[.int .i64 2, .int .i64 dst, .int .i64 src, .int .i64 imm, .int .i64 size, .bool true, .int .i64 cond, .string ⟨⟨b :: bs⟩⟩]] w fun en w' => RightIs (RP 2 dst src imm size 1 cond 0) en ∧ Below w.heap.size w w' := by
  have base := (kn_cons (kn_lss 0 0 false (decide_eq_false (show ¬ (dst < 0) by omega))) (kn_cons (kn_gtr 0 15 false (decide_eq_false (show ¬ (dst > 15) by omega))) (kn_cons (kn_lss 1 0 false (decide_eq_false (show ¬ (src < 0) by omega))) (kn_cons (kn_gtr 1 15 false (decide_eq_false (show ¬ (src > 15) by omega))) (kn_nil (m5 dst src imm size cond))))))
  by_cases h0 : src ≠ 0
  · exact fin_false (rr_of _ (nT 1 0 h0 base) 2 true ⟨⟨b :: bs⟩⟩ false (by kernel_rfl) w) (by unfold RP lD lS lI lZ lG lC lT; omega)
  · by_cases h1 : size ≠ 0
    · exact fin_false (rr_of _ (nT 3 0 h1 (nF 1 0 h0 base)) 2 true ⟨⟨b :: bs⟩⟩ false (by kernel_rfl) w) (by unfold RP lD lS lI lZ lG lC lT; omega)
    · exact fin_false (rr_of _ (nF 3 0 h1 (nF 1 0 h0 base)) 2 true ⟨⟨b :: bs⟩⟩ false (by kernel_rfl) w) (by unfold RP lD lS lI lZ lG lC lT; omega)
theorem rr_2_11 (dst src imm size cond : Int) (w : World) (d1 : 0 ≤ dst) (d2 : dst ≤ 15) (s1 : 0 ≤ src) (s2 : src ≤ 15) :
    Calls Tryd.prog 11 #[.agg #[.int .i64 2, .int .i64 dst, .int .i64 src, .int .i64 imm, .int .i64 size, .bool true, .int .i64 cond, .string ⟨⟨[]⟩⟩]] w fun en w' => RightIs (RP 2 dst src imm size 1 cond 1) en ∧ Below w.heap.size w w' := by
  have base := (kn_cons (kn_lss 0 0 false (decide_eq_false (show ¬ (dst < 0) by omega))) (kn_cons (kn_gtr 0 15 false (decide_eq_false (show ¬ (dst > 15) by omega))) (kn_cons (kn_lss 1 0 false (decide_eq_false (show ¬ (src < 0) by omega))) (kn_cons (kn_gtr 1 15 false (decide_eq_false (show ¬ (src > 15) by omega))) (kn_nil (m5 dst src imm size cond))))))
  by_cases h0 : src ≠ 0
  · exact fin_false (rr_of _ (nT 1 0 h0 base) 2 true ⟨⟨[]⟩⟩ false (by kernel_rfl) w) (by unfold RP lD lS lI lZ lG lC lT; omega)
  · by_cases h1 : size ≠ 0
    · exact fin_false (rr_of _ (nT 3 0 h1 (nF 1 0 h0 base)) 2 true ⟨⟨[]⟩⟩ false (by kernel_rfl) w) (by unfold RP lD lS lI lZ lG lC lT; omega)
    · exact fin_false (rr_of _ (nF 3 0 h1 (nF 1 0 h0 base)) 2 true ⟨⟨[]⟩⟩ false (by kernel_rfl) w) (by unfold RP lD lS lI lZ lG lC lT; omega)
theorem rr_10_00 (dst src imm size cond : Int) (b : UInt8) (bs : List UInt8) (w : World) (d1 : 0 ≤ dst) (d2 : dst ≤ 15) (s1 : 0 ≤ src) (s2 : src ≤ 15) (i1 : -2147483648 ≤ imm) (i2 : imm ≤ 2147483647) :
    Calls Tryd.prog 11 #[.agg #[.int .i64 10, .int .i64 dst, .int .i64 src, .int .i64 imm, .int .i64 size, .bool false, .int .i64 cond, .string ⟨⟨b :: bs⟩⟩]] w fun en w' => RightIs (RP 10 dst src imm size 0 cond 0) en ∧ Below w.heap.size w w' := by
  have base := rbase dst src imm size cond d1 d2 s1 s2 i1 i2
  by_cases h0 : imm ≠ 0
  · exact fin_false (rr_of _ (nT 2 0 h0 base) 10 false ⟨⟨b :: bs⟩⟩ false (by kernel_rfl) w) (by unfold RP lD lS lI lZ lG lC lT; omega)
  · by_cases h1 : size ≠ 0
    · exact fin_false (rr_of _ (nT 3 0 h1 (nF 2 0 h0 base)) 10 false ⟨⟨b :: bs⟩⟩ false (by kernel_rfl) w) (by unfold RP lD lS lI lZ lG lC lT; omega)
    · by_cases h2 : cond ≠ 0
      · exact fin_false (rr_of _ (nT 4 0 h2 (nF 3 0 h1 (nF 2 0 h0 base))) 10 false ⟨⟨b :: bs⟩⟩ false (by kernel_rfl) w) (by unfold RP lD lS lI lZ lG lC lT; omega)
      · exact fin_false (rr_of _ (nF 4 0 h2 (nF 3 0 h1 (nF 2 0 h0 base))) 10 false ⟨⟨b :: bs⟩⟩ false (by kernel_rfl) w) (by unfold RP lD lS lI lZ lG lC lT; omega)
theorem rr_10_01 (dst src imm size cond : Int) (w : World) (d1 : 0 ≤ dst) (d2 : dst ≤ 15) (s1 : 0 ≤ src) (s2 : src ≤ 15) (i1 : -2147483648 ≤ imm) (i2 : imm ≤ 2147483647) :
    Calls Tryd.prog 11 #[.agg #[.int .i64 10, .int .i64 dst, .int .i64 src, .int .i64 imm, .int .i64 size, .bool false, .int .i64 cond, .string ⟨⟨[]⟩⟩]] w fun en w' => RightIs (RP 10 dst src imm size 0 cond 1) en ∧ Below w.heap.size w w' := by
  have base := rbase dst src imm size cond d1 d2 s1 s2 i1 i2
  by_cases h0 : imm ≠ 0
  · exact fin_false (rr_of _ (nT 2 0 h0 base) 10 false ⟨⟨[]⟩⟩ false (by kernel_rfl) w) (by unfold RP lD lS lI lZ lG lC lT; omega)
  · by_cases h1 : size ≠ 0
    · exact fin_false (rr_of _ (nT 3 0 h1 (nF 2 0 h0 base)) 10 false ⟨⟨[]⟩⟩ false (by kernel_rfl) w) (by unfold RP lD lS lI lZ lG lC lT; omega)
    · by_cases h2 : cond ≠ 0
      · exact fin_false (rr_of _ (nT 4 0 h2 (nF 3 0 h1 (nF 2 0 h0 base))) 10 false ⟨⟨[]⟩⟩ false (by kernel_rfl) w) (by unfold RP lD lS lI lZ lG lC lT; omega)
      · exact fin_true (rr_of _ (nF 4 0 h2 (nF 3 0 h1 (nF 2 0 h0 base))) 10 false ⟨⟨[]⟩⟩ true (by kernel_rfl) w) (by unfold RP lD lS lI lZ lG lC lT; omega)
theorem rr_10_10 (dst src imm size cond : Int) (b : UInt8) (bs : List UInt8) (w : World) (d1 : 0 ≤ dst) (d2 : dst ≤ 15) (s1 : 0 ≤ src) (s2 : src ≤ 15) (i1 : -2147483648 ≤ imm) (i2 : imm ≤ 2147483647) :
    Calls Tryd.prog 11 #[.agg #[.int .i64 10, .int .i64 dst, .int .i64 src, .int .i64 imm, .int .i64 size, .bool true, .int .i64 cond, .string ⟨⟨b :: bs⟩⟩]] w fun en w' => RightIs (RP 10 dst src imm size 1 cond 0) en ∧ Below w.heap.size w w' := by
  have base := rbase dst src imm size cond d1 d2 s1 s2 i1 i2
  by_cases h0 : imm ≠ 0
  · exact fin_false (rr_of _ (nT 2 0 h0 base) 10 true ⟨⟨b :: bs⟩⟩ false (by kernel_rfl) w) (by unfold RP lD lS lI lZ lG lC lT; omega)
  · by_cases h1 : size ≠ 0
    · exact fin_false (rr_of _ (nT 3 0 h1 (nF 2 0 h0 base)) 10 true ⟨⟨b :: bs⟩⟩ false (by kernel_rfl) w) (by unfold RP lD lS lI lZ lG lC lT; omega)
    · exact fin_false (rr_of _ (nF 3 0 h1 (nF 2 0 h0 base)) 10 true ⟨⟨b :: bs⟩⟩ false (by kernel_rfl) w) (by unfold RP lD lS lI lZ lG lC lT; omega)
theorem rr_10_11 (dst src imm size cond : Int) (w : World) (d1 : 0 ≤ dst) (d2 : dst ≤ 15) (s1 : 0 ≤ src) (s2 : src ≤ 15) (i1 : -2147483648 ≤ imm) (i2 : imm ≤ 2147483647) :
    Calls Tryd.prog 11 #[.agg #[.int .i64 10, .int .i64 dst, .int .i64 src, .int .i64 imm, .int .i64 size, .bool true, .int .i64 cond, .string ⟨⟨[]⟩⟩]] w fun en w' => RightIs (RP 10 dst src imm size 1 cond 1) en ∧ Below w.heap.size w w' := by
  have base := rbase dst src imm size cond d1 d2 s1 s2 i1 i2
  by_cases h0 : imm ≠ 0
  · exact fin_false (rr_of _ (nT 2 0 h0 base) 10 true ⟨⟨[]⟩⟩ false (by kernel_rfl) w) (by unfold RP lD lS lI lZ lG lC lT; omega)
  · by_cases h1 : size ≠ 0
    · exact fin_false (rr_of _ (nT 3 0 h1 (nF 2 0 h0 base)) 10 true ⟨⟨[]⟩⟩ false (by kernel_rfl) w) (by unfold RP lD lS lI lZ lG lC lT; omega)
    · exact fin_false (rr_of _ (nF 3 0 h1 (nF 2 0 h0 base)) 10 true ⟨⟨[]⟩⟩ false (by kernel_rfl) w) (by unfold RP lD lS lI lZ lG lC lT; omega)
theorem rr_18_00 (dst src imm size cond : Int) (b : UInt8) (bs : List UInt8) (w : World) (d1 : 0 ≤ dst) (d2 : dst ≤ 15) (s1 : 0 ≤ src) (s2 : src ≤ 15) (i1 : -2147483648 ≤ imm) (i2 : imm ≤ 2147483647) :
    Calls Tryd.prog 11 #[.agg #[.int .i64 18, .int .i64 dst, .int .i64 src, .int .i64 imm, .int .i64 size, .bool false, .int .i64 cond, .string ⟨⟨b :: bs⟩⟩]] w fun en w' => RightIs (RP 18 dst src imm size 0 cond 0) en ∧ Below w.heap.size w w' := by
  have base := rbase dst src imm size cond d1 d2 s1 s2 i1 i2
  by_cases h0 : src ≠ 0
  · exact fin_false (rr_of _ (nT 1 0 h0 base) 18 false ⟨⟨b :: bs⟩⟩ false (by kernel_rfl) w) (by unfold RP lD lS lI lZ lG lC lT; omega)
  · by_cases h1 : size ≠ 0
    · exact fin_false (rr_of _ (nT 3 0 h1 (nF 1 0 h0 base)) 18 false ⟨⟨b :: bs⟩⟩ false (by kernel_rfl) w) (by unfold RP lD lS lI lZ lG lC lT; omega)
    · by_cases h2 : cond ≠ 0
      · exact fin_false (rr_of _ (nT 4 0 h2 (nF 3 0 h1 (nF 1 0 h0 base))) 18 false ⟨⟨b :: bs⟩⟩ false (by kernel_rfl) w) (by unfold RP lD lS lI lZ lG lC lT; omega)
      · exact fin_false (rr_of _ (nF 4 0 h2 (nF 3 0 h1 (nF 1 0 h0 base))) 18 false ⟨⟨b :: bs⟩⟩ false (by kernel_rfl) w) (by unfold RP lD lS lI lZ lG lC lT; omega)
theorem rr_18_01 (dst src imm size cond : Int) (w : World) (d1 : 0 ≤ dst) (d2 : dst ≤ 15) (s1 : 0 ≤ src) (s2 : src ≤ 15) (i1 : -2147483648 ≤ imm) (i2 : imm ≤ 2147483647) :
    Calls Tryd.prog 11 #[.agg #[.int .i64 18, .int .i64 dst, .int .i64 src, .int .i64 imm, .int .i64 size, .bool false, .int .i64 cond, .string ⟨⟨[]⟩⟩]] w fun en w' => RightIs (RP 18 dst src imm size 0 cond 1) en ∧ Below w.heap.size w w' := by
  have base := rbase dst src imm size cond d1 d2 s1 s2 i1 i2
  by_cases h0 : src ≠ 0
  · exact fin_false (rr_of _ (nT 1 0 h0 base) 18 false ⟨⟨[]⟩⟩ false (by kernel_rfl) w) (by unfold RP lD lS lI lZ lG lC lT; omega)
  · by_cases h1 : size ≠ 0
    · exact fin_false (rr_of _ (nT 3 0 h1 (nF 1 0 h0 base)) 18 false ⟨⟨[]⟩⟩ false (by kernel_rfl) w) (by unfold RP lD lS lI lZ lG lC lT; omega)
    · by_cases h2 : cond ≠ 0
      · exact fin_false (rr_of _ (nT 4 0 h2 (nF 3 0 h1 (nF 1 0 h0 base))) 18 false ⟨⟨[]⟩⟩ false (by kernel_rfl) w) (by unfold RP lD lS lI lZ lG lC lT; omega)
      · exact fin_true (rr_of _ (nF 4 0 h2 (nF 3 0 h1 (nF 1 0 h0 base))) 18 false ⟨⟨[]⟩⟩ true (by kernel_rfl) w) (by unfold RP lD lS lI lZ lG lC lT; omega)
theorem rr_18_10 (dst src imm size cond : Int) (b : UInt8) (bs : List UInt8) (w : World) (d1 : 0 ≤ dst) (d2 : dst ≤ 15) (s1 : 0 ≤ src) (s2 : src ≤ 15) (i1 : -2147483648 ≤ imm) (i2 : imm ≤ 2147483647) :
    Calls Tryd.prog 11 #[.agg #[.int .i64 18, .int .i64 dst, .int .i64 src, .int .i64 imm, .int .i64 size, .bool true, .int .i64 cond, .string ⟨⟨b :: bs⟩⟩]] w fun en w' => RightIs (RP 18 dst src imm size 1 cond 0) en ∧ Below w.heap.size w w' := by
  have base := rbase dst src imm size cond d1 d2 s1 s2 i1 i2
  by_cases h0 : src ≠ 0
  · exact fin_false (rr_of _ (nT 1 0 h0 base) 18 true ⟨⟨b :: bs⟩⟩ false (by kernel_rfl) w) (by unfold RP lD lS lI lZ lG lC lT; omega)
  · by_cases h1 : size ≠ 0
    · exact fin_false (rr_of _ (nT 3 0 h1 (nF 1 0 h0 base)) 18 true ⟨⟨b :: bs⟩⟩ false (by kernel_rfl) w) (by unfold RP lD lS lI lZ lG lC lT; omega)
    · exact fin_false (rr_of _ (nF 3 0 h1 (nF 1 0 h0 base)) 18 true ⟨⟨b :: bs⟩⟩ false (by kernel_rfl) w) (by unfold RP lD lS lI lZ lG lC lT; omega)
theorem rr_18_11 (dst src imm size cond : Int) (w : World) (d1 : 0 ≤ dst) (d2 : dst ≤ 15) (s1 : 0 ≤ src) (s2 : src ≤ 15) (i1 : -2147483648 ≤ imm) (i2 : imm ≤ 2147483647) :
    Calls Tryd.prog 11 #[.agg #[.int .i64 18, .int .i64 dst, .int .i64 src, .int .i64 imm, .int .i64 size, .bool true, .int .i64 cond, .string ⟨⟨[]⟩⟩]] w fun en w' => RightIs (RP 18 dst src imm size 1 cond 1) en ∧ Below w.heap.size w w' := by
  have base := rbase dst src imm size cond d1 d2 s1 s2 i1 i2
  by_cases h0 : src ≠ 0
  · exact fin_false (rr_of _ (nT 1 0 h0 base) 18 true ⟨⟨[]⟩⟩ false (by kernel_rfl) w) (by unfold RP lD lS lI lZ lG lC lT; omega)
  · by_cases h1 : size ≠ 0
    · exact fin_false (rr_of _ (nT 3 0 h1 (nF 1 0 h0 base)) 18 true ⟨⟨[]⟩⟩ false (by kernel_rfl) w) (by unfold RP lD lS lI lZ lG lC lT; omega)
    · exact fin_false (rr_of _ (nF 3 0 h1 (nF 1 0 h0 base)) 18 true ⟨⟨[]⟩⟩ false (by kernel_rfl) w) (by unfold RP lD lS lI lZ lG lC lT; omega)
theorem rr_34_00 (dst src imm size cond : Int) (b : UInt8) (bs : List UInt8) (w : World) (d1 : 0 ≤ dst) (d2 : dst ≤ 15) (s1 : 0 ≤ src) (s2 : src ≤ 15) (i1 : -2147483648 ≤ imm) (i2 : imm ≤ 2147483647) :
    Calls Tryd.prog 11 #[.agg #[.int .i64 34, .int .i64 dst, .int .i64 src, .int .i64 imm, .int .i64 size, .bool false, .int .i64 cond, .string ⟨⟨b :: bs⟩⟩]] w fun en w' => RightIs (RP 34 dst src imm size 0 cond 0) en ∧ Below w.heap.size w w' := by
  have base := rbase dst src imm size cond d1 d2 s1 s2 i1 i2
  by_cases h0 : dst ≠ 0
  · exact fin_false (rr_of _ (nT 0 0 h0 base) 34 false ⟨⟨b :: bs⟩⟩ false (by kernel_rfl) w) (by unfold RP lD lS lI lZ lG lC lT; omega)
  · by_cases h1 : src ≠ 0
    · exact fin_false (rr_of _ (nT 1 0 h1 (nF 0 0 h0 base)) 34 false ⟨⟨b :: bs⟩⟩ false (by kernel_rfl) w) (by unfold RP lD lS lI lZ lG lC lT; omega)
    · by_cases h2 : imm ≠ 0
      · exact fin_false (rr_of _ (nT 2 0 h2 (nF 1 0 h1 (nF 0 0 h0 base))) 34 false ⟨⟨b :: bs⟩⟩ false (by kernel_rfl) w) (by unfold RP lD lS lI lZ lG lC lT; omega)
      · by_cases h3 : size ≠ 0
        · exact fin_false (rr_of _ (nT 3 0 h3 (nF 2 0 h2 (nF 1 0 h1 (nF 0 0 h0 base)))) 34 false ⟨⟨b :: bs⟩⟩ false (by kernel_rfl) w) (by unfold RP lD lS lI lZ lG lC lT; omega)
        · by_cases h4 : cond < 0
          · exact fin_false (rr_of _ (kn_cons (kn_lss 4 0 true (decide_eq_true (h4))) (nF 3 0 h3 (nF 2 0 h2 (nF 1 0 h1 (nF 0 0 h0 base))))) 34 false ⟨⟨b :: bs⟩⟩ false (by kernel_rfl) w) (by unfold RP lD lS lI lZ lG lC lT; omega)
          · by_cases h5 : cond > 9
            · exact fin_false (rr_of _ (kn_cons (kn_gtr 4 9 true (decide_eq_true (h5))) (kn_cons (kn_lss 4 0 false (decide_eq_false (h4))) (nF 3 0 h3 (nF 2 0 h2 (nF 1 0 h1 (nF 0 0 h0 base)))))) 34 false ⟨⟨b :: bs⟩⟩ false (by kernel_rfl) w) (by unfold RP lD lS lI lZ lG lC lT; omega)
            · exact fin_true (rr_of _ (kn_cons (kn_gtr 4 9 false (decide_eq_false (h5))) (kn_cons (kn_lss 4 0 false (decide_eq_false (h4))) (nF 3 0 h3 (nF 2 0 h2 (nF 1 0 h1 (nF 0 0 h0 base)))))) 34 false ⟨⟨b :: bs⟩⟩ true (by kernel_rfl) w) (by unfold RP lD lS lI lZ lG lC lT; omega)
theorem rr_34_01 (dst src imm size cond : Int) (w : World) (d1 : 0 ≤ dst) (d2 : dst ≤ 15) (s1 : 0 ≤ src) (s2 : src ≤ 15) (i1 : -2147483648 ≤ imm) (i2 : imm ≤ 2147483647) :
    Calls Tryd.prog 11 #[.agg #[.int .i64 34, .int .i64 dst, .int .i64 src, .int .i64 imm, .int .i64 size, .bool false, .int .i64 cond, .string ⟨⟨[]⟩⟩]] w fun en w' => RightIs (RP 34 dst src imm size 0 cond 1) en ∧ Below w.heap.size w w' := by
  have base := rbase dst src imm size cond d1 d2 s1 s2 i1 i2
  by_cases h0 : dst ≠ 0
  · exact fin_false (rr_of _ (nT 0 0 h0 base) 34 false ⟨⟨[]⟩⟩ false (by kernel_rfl) w) (by unfold RP lD lS lI lZ lG lC lT; omega)
  · by_cases h1 : src ≠ 0
    · exact fin_false (rr_of _ (nT 1 0 h1 (nF 0 0 h0 base)) 34 false ⟨⟨[]⟩⟩ false (by kernel_rfl) w) (by unfold RP lD lS lI lZ lG lC lT; omega)
    · by_cases h2 : imm ≠ 0
      · exact fin_false (rr_of _ (nT 2 0 h2 (nF 1 0 h1 (nF 0 0 h0 base))) 34 false ⟨⟨[]⟩⟩ false (by kernel_rfl) w) (by unfold RP lD lS lI lZ lG lC lT; omega)
      · by_cases h3 : size ≠ 0
        · exact fin_false (rr_of _ (nT 3 0 h3 (nF 2 0 h2 (nF 1 0 h1 (nF 0 0 h0 base)))) 34 false ⟨⟨[]⟩⟩ false (by kernel_rfl) w) (by unfold RP lD lS lI lZ lG lC lT; omega)
        · by_cases h4 : cond < 0
          · exact fin_false (rr_of _ (kn_cons (kn_lss 4 0 true (decide_eq_true (h4))) (nF 3 0 h3 (nF 2 0 h2 (nF 1 0 h1 (nF 0 0 h0 base))))) 34 false ⟨⟨[]⟩⟩ false (by kernel_rfl) w) (by unfold RP lD lS lI lZ lG lC lT; omega)
          · by_cases h5 : cond > 9
            · exact fin_false (rr_of _ (kn_cons (kn_gtr 4 9 true (decide_eq_true (h5))) (kn_cons (kn_lss 4 0 false (decide_eq_false (h4))) (nF 3 0 h3 (nF 2 0 h2 (nF 1 0 h1 (nF 0 0 h0 base)))))) 34 false ⟨⟨[]⟩⟩ false (by kernel_rfl) w) (by unfold RP lD lS lI lZ lG lC lT; omega)
            · exact fin_true (rr_of _ (kn_cons (kn_gtr 4 9 false (decide_eq_false (h5))) (kn_cons (kn_lss 4 0 false (decide_eq_false (h4))) (nF 3 0 h3 (nF 2 0 h2 (nF 1 0 h1 (nF 0 0 h0 base)))))) 34 false ⟨⟨[]⟩⟩ true (by kernel_rfl) w) (by unfold RP lD lS lI lZ lG lC lT; omega)
theorem rr_34_10 (dst src imm size cond : Int) (b : UInt8) (bs : List UInt8) (w : World) (d1 : 0 ≤ dst) (d2 : dst ≤ 15) (s1 : 0 ≤ src) (s2 : src ≤ 15) (i1 : -2147483648 ≤ imm) (i2 : imm ≤ 2147483647) :
    Calls Tryd.prog 11 #[.agg #[.int .i64 34, .int .i64 dst, .int .i64 src, .int .i64 imm, .int .i64 size, .bool true, .int .i64 cond, .string ⟨⟨b :: bs⟩⟩]] w fun en w' => RightIs (RP 34 dst src imm size 1 cond 0) en ∧ Below w.heap.size w w' := by
  have base := rbase dst src imm size cond d1 d2 s1 s2 i1 i2
  by_cases h0 : dst ≠ 0
  · exact fin_false (rr_of _ (nT 0 0 h0 base) 34 true ⟨⟨b :: bs⟩⟩ false (by kernel_rfl) w) (by unfold RP lD lS lI lZ lG lC lT; omega)
  · by_cases h1 : src ≠ 0
    · exact fin_false (rr_of _ (nT 1 0 h1 (nF 0 0 h0 base)) 34 true ⟨⟨b :: bs⟩⟩ false (by kernel_rfl) w) (by unfold RP lD lS lI lZ lG lC lT; omega)
    · by_cases h2 : imm ≠ 0
      · exact fin_false (rr_of _ (nT 2 0 h2 (nF 1 0 h1 (nF 0 0 h0 base))) 34 true ⟨⟨b :: bs⟩⟩ false (by kernel_rfl) w) (by unfold RP lD lS lI lZ lG lC lT; omega)
      · by_cases h3 : size ≠ 0
        · exact fin_false (rr_of _ (nT 3 0 h3 (nF 2 0 h2 (nF 1 0 h1 (nF 0 0 h0 base)))) 34 true ⟨⟨b :: bs⟩⟩ false (by kernel_rfl) w) (by unfold RP lD lS lI lZ lG lC lT; omega)
        · exact fin_false (rr_of _ (nF 3 0 h3 (nF 2 0 h2 (nF 1 0 h1 (nF 0 0 h0 base)))) 34 true ⟨⟨b :: bs⟩⟩ false (by kernel_rfl) w) (by unfold RP lD lS lI lZ lG lC lT; omega)
theorem rr_34_11 (dst src imm size cond : Int) (w : World) (d1 : 0 ≤ dst) (d2 : dst ≤ 15) (s1 : 0 ≤ src) (s2 : src ≤ 15) (i1 : -2147483648 ≤ imm) (i2 : imm ≤ 2147483647) :
    Calls Tryd.prog 11 #[.agg #[.int .i64 34, .int .i64 dst, .int .i64 src, .int .i64 imm, .int .i64 size, .bool true, .int .i64 cond, .string ⟨⟨[]⟩⟩]] w fun en w' => RightIs (RP 34 dst src imm size 1 cond 1) en ∧ Below w.heap.size w w' := by
  have base := rbase dst src imm size cond d1 d2 s1 s2 i1 i2
  by_cases h0 : dst ≠ 0
  · exact fin_false (rr_of _ (nT 0 0 h0 base) 34 true ⟨⟨[]⟩⟩ false (by kernel_rfl) w) (by unfold RP lD lS lI lZ lG lC lT; omega)
  · by_cases h1 : src ≠ 0
    · exact fin_false (rr_of _ (nT 1 0 h1 (nF 0 0 h0 base)) 34 true ⟨⟨[]⟩⟩ false (by kernel_rfl) w) (by unfold RP lD lS lI lZ lG lC lT; omega)
    · by_cases h2 : imm ≠ 0
      · exact fin_false (rr_of _ (nT 2 0 h2 (nF 1 0 h1 (nF 0 0 h0 base))) 34 true ⟨⟨[]⟩⟩ false (by kernel_rfl) w) (by unfold RP lD lS lI lZ lG lC lT; omega)
      · by_cases h3 : size ≠ 0
        · exact fin_false (rr_of _ (nT 3 0 h3 (nF 2 0 h2 (nF 1 0 h1 (nF 0 0 h0 base)))) 34 true ⟨⟨[]⟩⟩ false (by kernel_rfl) w) (by unfold RP lD lS lI lZ lG lC lT; omega)
        · exact fin_false (rr_of _ (nF 3 0 h3 (nF 2 0 h2 (nF 1 0 h1 (nF 0 0 h0 base)))) 34 true ⟨⟨[]⟩⟩ false (by kernel_rfl) w) (by unfold RP lD lS lI lZ lG lC lT; omega)
theorem rr_36_00 (dst src imm size cond : Int) (b : UInt8) (bs : List UInt8) (w : World) (d1 : 0 ≤ dst) (d2 : dst ≤ 15) (s1 : 0 ≤ src) (s2 : src ≤ 15) (i1 : -2147483648 ≤ imm) (i2 : imm ≤ 2147483647) :
    Calls Tryd.prog 11 #[.agg #[.int .i64 36, .int .i64 dst, .int .i64 src, .int .i64 imm, .int .i64 size, .bool false, .int .i64 cond, .string ⟨⟨b :: bs⟩⟩]] w fun en w' => RightIs (RP 36 dst src imm size 0 cond 0) en ∧ Below w.heap.size w w' := by
  have base := rbase dst src imm size cond d1 d2 s1 s2 i1 i2
  by_cases h0 : src ≠ 0
  · exact fin_false (rr_of _ (nT 1 0 h0 base) 36 false ⟨⟨b :: bs⟩⟩ false (by kernel_rfl) w) (by unfold RP lD lS lI lZ lG lC lT; omega)
  · by_cases h1 : imm ≠ 0
    · exact fin_false (rr_of _ (nT 2 0 h1 (nF 1 0 h0 base)) 36 false ⟨⟨b :: bs⟩⟩ false (by kernel_rfl) w) (by unfold RP lD lS lI lZ lG lC lT; omega)
    · by_cases h2 : size ≠ 0
      · exact fin_false (rr_of _ (nT 3 0 h2 (nF 2 0 h1 (nF 1 0 h0 base))) 36 false ⟨⟨b :: bs⟩⟩ false (by kernel_rfl) w) (by unfold RP lD lS lI lZ lG lC lT; omega)
      · by_cases h3 : cond ≠ 0
        · exact fin_false (rr_of _ (nT 4 0 h3 (nF 3 0 h2 (nF 2 0 h1 (nF 1 0 h0 base)))) 36 false ⟨⟨b :: bs⟩⟩ false (by kernel_rfl) w) (by unfold RP lD lS lI lZ lG lC lT; omega)
        · exact fin_false (rr_of _ (nF 4 0 h3 (nF 3 0 h2 (nF 2 0 h1 (nF 1 0 h0 base)))) 36 false ⟨⟨b :: bs⟩⟩ false (by kernel_rfl) w) (by unfold RP lD lS lI lZ lG lC lT; omega)
theorem rr_36_01 (dst src imm size cond : Int) (w : World) (d1 : 0 ≤ dst) (d2 : dst ≤ 15) (s1 : 0 ≤ src) (s2 : src ≤ 15) (i1 : -2147483648 ≤ imm) (i2 : imm ≤ 2147483647) :
    Calls Tryd.prog 11 #[.agg #[.int .i64 36, .int .i64 dst, .int .i64 src, .int .i64 imm, .int .i64 size, .bool false, .int .i64 cond, .string ⟨⟨[]⟩⟩]] w fun en w' => RightIs (RP 36 dst src imm size 0 cond 1) en ∧ Below w.heap.size w w' := by
  have base := rbase dst src imm size cond d1 d2 s1 s2 i1 i2
  by_cases h0 : src ≠ 0
  · exact fin_false (rr_of _ (nT 1 0 h0 base) 36 false ⟨⟨[]⟩⟩ false (by kernel_rfl) w) (by unfold RP lD lS lI lZ lG lC lT; omega)
  · by_cases h1 : imm ≠ 0
    · exact fin_false (rr_of _ (nT 2 0 h1 (nF 1 0 h0 base)) 36 false ⟨⟨[]⟩⟩ false (by kernel_rfl) w) (by unfold RP lD lS lI lZ lG lC lT; omega)
    · by_cases h2 : size ≠ 0
      · exact fin_false (rr_of _ (nT 3 0 h2 (nF 2 0 h1 (nF 1 0 h0 base))) 36 false ⟨⟨[]⟩⟩ false (by kernel_rfl) w) (by unfold RP lD lS lI lZ lG lC lT; omega)
      · by_cases h3 : cond ≠ 0
        · exact fin_false (rr_of _ (nT 4 0 h3 (nF 3 0 h2 (nF 2 0 h1 (nF 1 0 h0 base)))) 36 false ⟨⟨[]⟩⟩ false (by kernel_rfl) w) (by unfold RP lD lS lI lZ lG lC lT; omega)
        · exact fin_true (rr_of _ (nF 4 0 h3 (nF 3 0 h2 (nF 2 0 h1 (nF 1 0 h0 base)))) 36 false ⟨⟨[]⟩⟩ true (by kernel_rfl) w) (by unfold RP lD lS lI lZ lG lC lT; omega)
theorem rr_36_10 (dst src imm size cond : Int) (b : UInt8) (bs : List UInt8) (w : World) (d1 : 0 ≤ dst) (d2 : dst ≤ 15) (s1 : 0 ≤ src) (s2 : src ≤ 15) (i1 : -2147483648 ≤ imm) (i2 : imm ≤ 2147483647) :
    Calls Tryd.prog 11 #[.agg #[.int .i64 36, .int .i64 dst, .int .i64 src, .int .i64 imm, .int .i64 size, .bool true, .int .i64 cond, .string ⟨⟨b :: bs⟩⟩]] w fun en w' => RightIs (RP 36 dst src imm size 1 cond 0) en ∧ Below w.heap.size w w' := by
  have base := rbase dst src imm size cond d1 d2 s1 s2 i1 i2
  by_cases h0 : src ≠ 0
  · exact fin_false (rr_of _ (nT 1 0 h0 base) 36 true ⟨⟨b :: bs⟩⟩ false (by kernel_rfl) w) (by unfold RP lD lS lI lZ lG lC lT; omega)
  · by_cases h1 : imm ≠ 0
    · exact fin_false (rr_of _ (nT 2 0 h1 (nF 1 0 h0 base)) 36 true ⟨⟨b :: bs⟩⟩ false (by kernel_rfl) w) (by unfold RP lD lS lI lZ lG lC lT; omega)
    · by_cases h2 : size ≠ 0
      · exact fin_false (rr_of _ (nT 3 0 h2 (nF 2 0 h1 (nF 1 0 h0 base))) 36 true ⟨⟨b :: bs⟩⟩ false (by kernel_rfl) w) (by unfold RP lD lS lI lZ lG lC lT; omega)
      · exact fin_false (rr_of _ (nF 3 0 h2 (nF 2 0 h1 (nF 1 0 h0 base))) 36 true ⟨⟨b :: bs⟩⟩ false (by kernel_rfl) w) (by unfold RP lD lS lI lZ lG lC lT; omega)
theorem rr_36_11 (dst src imm size cond : Int) (w : World) (d1 : 0 ≤ dst) (d2 : dst ≤ 15) (s1 : 0 ≤ src) (s2 : src ≤ 15) (i1 : -2147483648 ≤ imm) (i2 : imm ≤ 2147483647) :
    Calls Tryd.prog 11 #[.agg #[.int .i64 36, .int .i64 dst, .int .i64 src, .int .i64 imm, .int .i64 size, .bool true, .int .i64 cond, .string ⟨⟨[]⟩⟩]] w fun en w' => RightIs (RP 36 dst src imm size 1 cond 1) en ∧ Below w.heap.size w w' := by
  have base := rbase dst src imm size cond d1 d2 s1 s2 i1 i2
  by_cases h0 : src ≠ 0
  · exact fin_false (rr_of _ (nT 1 0 h0 base) 36 true ⟨⟨[]⟩⟩ false (by kernel_rfl) w) (by unfold RP lD lS lI lZ lG lC lT; omega)
  · by_cases h1 : imm ≠ 0
    · exact fin_false (rr_of _ (nT 2 0 h1 (nF 1 0 h0 base)) 36 true ⟨⟨[]⟩⟩ false (by kernel_rfl) w) (by unfold RP lD lS lI lZ lG lC lT; omega)
    · by_cases h2 : size ≠ 0
      · exact fin_false (rr_of _ (nT 3 0 h2 (nF 2 0 h1 (nF 1 0 h0 base))) 36 true ⟨⟨[]⟩⟩ false (by kernel_rfl) w) (by unfold RP lD lS lI lZ lG lC lT; omega)
      · exact fin_false (rr_of _ (nF 3 0 h2 (nF 2 0 h1 (nF 1 0 h0 base))) 36 true ⟨⟨[]⟩⟩ false (by kernel_rfl) w) (by unfold RP lD lS lI lZ lG lC lT; omega)
end Go.Proofs.YtpkbkmppkgeklaaDoor
namespace Go.Proofs.YtpkbkmppkgeklaaDoor
open Go.RowKit
set_option linter.unusedVariables false
theorem rr_4_00 (dst src imm size cond : Int) (b : UInt8) (bs : List UInt8) (w : World) (d1 : 0 ≤ dst) (d2 : dst ≤ 15) (s1 : 0 ≤ src) (s2 : src ≤ 15) (i1 : -2147483648 ≤ imm) (i2 : imm ≤ 2147483647) :
    Calls Tryd.prog 11 #[.agg #[.int .i64 4, .int .i64 dst, .int .i64 src, .int .i64 imm, .int .i64 size, .bool false, .int .i64 cond, .string ⟨⟨b :: bs⟩⟩]] w fun en w' => RightIs (RP 4 dst src imm size 0 cond 0) en ∧ Below w.heap.size w w' := by
  have base := rbase dst src imm size cond d1 d2 s1 s2 i1 i2
  by_cases h0 : cond ≠ 0
  · exact fin_false (rr_of _ (nT 4 0 h0 base) 4 false ⟨⟨b :: bs⟩⟩ false (by kernel_rfl) w) (by unfold RP lD lS lI lZ lG lC lT; omega)
  · exact fin_false (rr_of _ (nF 4 0 h0 base) 4 false ⟨⟨b :: bs⟩⟩ false (by kernel_rfl) w) (by unfold RP lD lS lI lZ lG lC lT; omega)
theorem rr_4_01 (dst src imm size cond : Int) (w : World) (d1 : 0 ≤ dst) (d2 : dst ≤ 15) (s1 : 0 ≤ src) (s2 : src ≤ 15) (i1 : -2147483648 ≤ imm) (i2 : imm ≤ 2147483647) :
    Calls Tryd.prog 11 #[.agg #[.int .i64 4, .int .i64 dst, .int .i64 src, .int .i64 imm, .int .i64 size, .bool false, .int .i64 cond, .string ⟨⟨[]⟩⟩]] w fun en w' => RightIs (RP 4 dst src imm size 0 cond 1) en ∧ Below w.heap.size w w' := by
  have base := rbase dst src imm size cond d1 d2 s1 s2 i1 i2
  by_cases h0 : cond ≠ 0
  · exact fin_false (rr_of _ (nT 4 0 h0 base) 4 false ⟨⟨[]⟩⟩ false (by kernel_rfl) w) (by unfold RP lD lS lI lZ lG lC lT; omega)
  · by_cases h1 : size ≠ 1
    · by_cases h2 : size ≠ 2
      · by_cases h3 : size ≠ 4
        · by_cases h4 : size ≠ 8
          · exact fin_false (rr_of _ (nT 3 8 h4 (nT 3 4 h3 (nT 3 2 h2 (nT 3 1 h1 (nF 4 0 h0 base))))) 4 false ⟨⟨[]⟩⟩ false (by kernel_rfl) w) (by unfold RP lD lS lI lZ lG lC lT; omega)
          · exact fin_true (rr_of _ (nF 3 8 h4 (nT 3 4 h3 (nT 3 2 h2 (nT 3 1 h1 (nF 4 0 h0 base))))) 4 false ⟨⟨[]⟩⟩ true (by kernel_rfl) w) (by unfold RP lD lS lI lZ lG lC lT; omega)
        · exact fin_true (rr_of _ (nF 3 4 h3 (nT 3 2 h2 (nT 3 1 h1 (nF 4 0 h0 base)))) 4 false ⟨⟨[]⟩⟩ true (by kernel_rfl) w) (by unfold RP lD lS lI lZ lG lC lT; omega)
      · exact fin_true (rr_of _ (nF 3 2 h2 (nT 3 1 h1 (nF 4 0 h0 base))) 4 false ⟨⟨[]⟩⟩ true (by kernel_rfl) w) (by unfold RP lD lS lI lZ lG lC lT; omega)
    · exact fin_true (rr_of _ (nF 3 1 h1 (nF 4 0 h0 base)) 4 false ⟨⟨[]⟩⟩ true (by kernel_rfl) w) (by unfold RP lD lS lI lZ lG lC lT; omega)
theorem rr_4_10 (dst src imm size cond : Int) (b : UInt8) (bs : List UInt8) (w : World) (d1 : 0 ≤ dst) (d2 : dst ≤ 15) (s1 : 0 ≤ src) (s2 : src ≤ 15) (i1 : -2147483648 ≤ imm) (i2 : imm ≤ 2147483647) :
    Calls Tryd.prog 11 #[.agg #[.int .i64 4, .int .i64 dst, .int .i64 src, .int .i64 imm, .int .i64 size, .bool true, .int .i64 cond, .string ⟨⟨b :: bs⟩⟩]] w fun en w' => RightIs (RP 4 dst src imm size 1 cond 0) en ∧ Below w.heap.size w w' := by
  have base := rbase dst src imm size cond d1 d2 s1 s2 i1 i2
  exact fin_false (rr_of _ base 4 true ⟨⟨b :: bs⟩⟩ false (by kernel_rfl) w) (by unfold RP lD lS lI lZ lG lC lT; omega)
theorem rr_4_11 (dst src imm size cond : Int) (w : World) (d1 : 0 ≤ dst) (d2 : dst ≤ 15) (s1 : 0 ≤ src) (s2 : src ≤ 15) (i1 : -2147483648 ≤ imm) (i2 : imm ≤ 2147483647) :
    Calls Tryd.prog 11 #[.agg #[.int .i64 4, .int .i64 dst, .int .i64 src, .int .i64 imm, .int .i64 size, .bool true, .int .i64 cond, .string ⟨⟨[]⟩⟩]] w fun en w' => RightIs (RP 4 dst src imm size 1 cond 1) en ∧ Below w.heap.size w w' := by
  have base := rbase dst src imm size cond d1 d2 s1 s2 i1 i2
  exact fin_false (rr_of _ base 4 true ⟨⟨[]⟩⟩ false (by kernel_rfl) w) (by unfold RP lD lS lI lZ lG lC lT; omega)
theorem rr_5_00 (dst src imm size cond : Int) (b : UInt8) (bs : List UInt8) (w : World) (d1 : 0 ≤ dst) (d2 : dst ≤ 15) (s1 : 0 ≤ src) (s2 : src ≤ 15) (i1 : -2147483648 ≤ imm) (i2 : imm ≤ 2147483647) :
    Calls Tryd.prog 11 #[.agg #[.int .i64 5, .int .i64 dst, .int .i64 src, .int .i64 imm, .int .i64 size, .bool false, .int .i64 cond, .string ⟨⟨b :: bs⟩⟩]] w fun en w' => RightIs (RP 5 dst src imm size 0 cond 0) en ∧ Below w.heap.size w w' := by
  have base := rbase dst src imm size cond d1 d2 s1 s2 i1 i2
  by_cases h0 : size ≠ 0
  · exact fin_false (rr_of _ (nT 3 0 h0 base) 5 false ⟨⟨b :: bs⟩⟩ false (by kernel_rfl) w) (by unfold RP lD lS lI lZ lG lC lT; omega)
  · by_cases h1 : cond ≠ 0
    · exact fin_false (rr_of _ (nT 4 0 h1 (nF 3 0 h0 base)) 5 false ⟨⟨b :: bs⟩⟩ false (by kernel_rfl) w) (by unfold RP lD lS lI lZ lG lC lT; omega)
    · exact fin_false (rr_of _ (nF 4 0 h1 (nF 3 0 h0 base)) 5 false ⟨⟨b :: bs⟩⟩ false (by kernel_rfl) w) (by unfold RP lD lS lI lZ lG lC lT; omega)
theorem rr_5_01 (dst src imm size cond : Int) (w : World) (d1 : 0 ≤ dst) (d2 : dst ≤ 15) (s1 : 0 ≤ src) (s2 : src ≤ 15) (i1 : -2147483648 ≤ imm) (i2 : imm ≤ 2147483647) :
    Calls Tryd.prog 11 #[.agg #[.int .i64 5, .int .i64 dst, .int .i64 src, .int .i64 imm, .int .i64 size, .bool false, .int .i64 cond, .string ⟨⟨[]⟩⟩]] w fun en w' => RightIs (RP 5 dst src imm size 0 cond 1) en ∧ Below w.heap.size w w' := by
  have base := rbase dst src imm size cond d1 d2 s1 s2 i1 i2
  by_cases h0 : size ≠ 0
  · exact fin_false (rr_of _ (nT 3 0 h0 base) 5 false ⟨⟨[]⟩⟩ false (by kernel_rfl) w) (by unfold RP lD lS lI lZ lG lC lT; omega)
  · by_cases h1 : cond ≠ 0
    · exact fin_false (rr_of _ (nT 4 0 h1 (nF 3 0 h0 base)) 5 false ⟨⟨[]⟩⟩ false (by kernel_rfl) w) (by unfold RP lD lS lI lZ lG lC lT; omega)
    · exact fin_true (rr_of _ (nF 4 0 h1 (nF 3 0 h0 base)) 5 false ⟨⟨[]⟩⟩ true (by kernel_rfl) w) (by unfold RP lD lS lI lZ lG lC lT; omega)
theorem rr_5_10 (dst src imm size cond : Int) (b : UInt8) (bs : List UInt8) (w : World) (d1 : 0 ≤ dst) (d2 : dst ≤ 15) (s1 : 0 ≤ src) (s2 : src ≤ 15) (i1 : -2147483648 ≤ imm) (i2 : imm ≤ 2147483647) :
    Calls Tryd.prog 11 #[.agg #[.int .i64 5, .int .i64 dst, .int .i64 src, .int .i64 imm, .int .i64 size, .bool true, .int .i64 cond, .string ⟨⟨b :: bs⟩⟩]] w fun en w' => RightIs (RP 5 dst src imm size 1 cond 0) en ∧ Below w.heap.size w w' := by
  have base := rbase dst src imm size cond d1 d2 s1 s2 i1 i2
  by_cases h0 : size ≠ 0
  · exact fin_false (rr_of _ (nT 3 0 h0 base) 5 true ⟨⟨b :: bs⟩⟩ false (by kernel_rfl) w) (by unfold RP lD lS lI lZ lG lC lT; omega)
  · exact fin_false (rr_of _ (nF 3 0 h0 base) 5 true ⟨⟨b :: bs⟩⟩ false (by kernel_rfl) w) (by unfold RP lD lS lI lZ lG lC lT; omega)
theorem rr_5_11 (dst src imm size cond : Int) (w : World) (d1 : 0 ≤ dst) (d2 : dst ≤ 15) (s1 : 0 ≤ src) (s2 : src ≤ 15) (i1 : -2147483648 ≤ imm) (i2 : imm ≤ 2147483647) :
    Calls Tryd.prog 11 #[.agg #[.int .i64 5, .int .i64 dst, .int .i64 src, .int .i64 imm, .int .i64 size, .bool true, .int .i64 cond, .string ⟨⟨[]⟩⟩]] w fun en w' => RightIs (RP 5 dst src imm size 1 cond 1) en ∧ Below w.heap.size w w' := by
  have base := rbase dst src imm size cond d1 d2 s1 s2 i1 i2
  by_cases h0 : size ≠ 0
  · exact fin_false (rr_of _ (nT 3 0 h0 base) 5 true ⟨⟨[]⟩⟩ false (by kernel_rfl) w) (by unfold RP lD lS lI lZ lG lC lT; omega)
  · exact fin_false (rr_of _ (nF 3 0 h0 base) 5 true ⟨⟨[]⟩⟩ false (by kernel_rfl) w) (by unfold RP lD lS lI lZ lG lC lT; omega)
theorem rr_14_00 (dst src imm size cond : Int) (b : UInt8) (bs : List UInt8) (w : World) (d1 : 0 ≤ dst) (d2 : dst ≤ 15) (s1 : 0 ≤ src) (s2 : src ≤ 15) (i1 : -2147483648 ≤ imm) (i2 : imm ≤ 2147483647) :
    Calls Tryd.prog 11 #[.agg #[.int .i64 14, .int .i64 dst, .int .i64 src, .int .i64 imm, .int .i64 size, .bool false, .int .i64 cond, .string ⟨⟨b :: bs⟩⟩]] w fun en w' => RightIs (RP 14 dst src imm size 0 cond 0) en ∧ Below w.heap.size w w' := by
  have base := rbase dst src imm size cond d1 d2 s1 s2 i1 i2
  by_cases h0 : src ≠ 0
  · exact fin_false (rr_of _ (nT 1 0 h0 base) 14 false ⟨⟨b :: bs⟩⟩ false (by kernel_rfl) w) (by unfold RP lD lS lI lZ lG lC lT; omega)
  · by_cases h1 : size ≠ 0
    · exact fin_false (rr_of _ (nT 3 0 h1 (nF 1 0 h0 base)) 14 false ⟨⟨b :: bs⟩⟩ false (by kernel_rfl) w) (by unfold RP lD lS lI lZ lG lC lT; omega)
    · by_cases h2 : cond ≠ 0
      · exact fin_false (rr_of _ (nT 4 0 h2 (nF 3 0 h1 (nF 1 0 h0 base))) 14 false ⟨⟨b :: bs⟩⟩ false (by kernel_rfl) w) (by unfold RP lD lS lI lZ lG lC lT; omega)
      · exact fin_false (rr_of _ (nF 4 0 h2 (nF 3 0 h1 (nF 1 0 h0 base))) 14 false ⟨⟨b :: bs⟩⟩ false (by kernel_rfl) w) (by unfold RP lD lS lI lZ lG lC lT; omega)
theorem rr_14_01 (dst src imm size cond : Int) (w : World) (d1 : 0 ≤ dst) (d2 : dst ≤ 15) (s1 : 0 ≤ src) (s2 : src ≤ 15) (i1 : -2147483648 ≤ imm) (i2 : imm ≤ 2147483647) :
    Calls Tryd.prog 11 #[.agg #[.int .i64 14, .int .i64 dst, .int .i64 src, .int .i64 imm, .int .i64 size, .bool false, .int .i64 cond, .string ⟨⟨[]⟩⟩]] w fun en w' => RightIs (RP 14 dst src imm size 0 cond 1) en ∧ Below w.heap.size w w' := by
  have base := rbase dst src imm size cond d1 d2 s1 s2 i1 i2
  by_cases h0 : src ≠ 0
  · exact fin_false (rr_of _ (nT 1 0 h0 base) 14 false ⟨⟨[]⟩⟩ false (by kernel_rfl) w) (by unfold RP lD lS lI lZ lG lC lT; omega)
  · by_cases h1 : size ≠ 0
    · exact fin_false (rr_of _ (nT 3 0 h1 (nF 1 0 h0 base)) 14 false ⟨⟨[]⟩⟩ false (by kernel_rfl) w) (by unfold RP lD lS lI lZ lG lC lT; omega)
    · by_cases h2 : cond ≠ 0
      · exact fin_false (rr_of _ (nT 4 0 h2 (nF 3 0 h1 (nF 1 0 h0 base))) 14 false ⟨⟨[]⟩⟩ false (by kernel_rfl) w) (by unfold RP lD lS lI lZ lG lC lT; omega)
      · exact fin_true (rr_of _ (nF 4 0 h2 (nF 3 0 h1 (nF 1 0 h0 base))) 14 false ⟨⟨[]⟩⟩ true (by kernel_rfl) w) (by unfold RP lD lS lI lZ lG lC lT; omega)
theorem rr_14_10 (dst src imm size cond : Int) (b : UInt8) (bs : List UInt8) (w : World) (d1 : 0 ≤ dst) (d2 : dst ≤ 15) (s1 : 0 ≤ src) (s2 : src ≤ 15) (i1 : -2147483648 ≤ imm) (i2 : imm ≤ 2147483647) :
    Calls Tryd.prog 11 #[.agg #[.int .i64 14, .int .i64 dst, .int .i64 src, .int .i64 imm, .int .i64 size, .bool true, .int .i64 cond, .string ⟨⟨b :: bs⟩⟩]] w fun en w' => RightIs (RP 14 dst src imm size 1 cond 0) en ∧ Below w.heap.size w w' := by
  have base := rbase dst src imm size cond d1 d2 s1 s2 i1 i2
  by_cases h0 : src ≠ 0
  · exact fin_false (rr_of _ (nT 1 0 h0 base) 14 true ⟨⟨b :: bs⟩⟩ false (by kernel_rfl) w) (by unfold RP lD lS lI lZ lG lC lT; omega)
  · by_cases h1 : size ≠ 0
    · exact fin_false (rr_of _ (nT 3 0 h1 (nF 1 0 h0 base)) 14 true ⟨⟨b :: bs⟩⟩ false (by kernel_rfl) w) (by unfold RP lD lS lI lZ lG lC lT; omega)
    · exact fin_false (rr_of _ (nF 3 0 h1 (nF 1 0 h0 base)) 14 true ⟨⟨b :: bs⟩⟩ false (by kernel_rfl) w) (by unfold RP lD lS lI lZ lG lC lT; omega)
theorem rr_14_11 (dst src imm size cond : Int) (w : World) (d1 : 0 ≤ dst) (d2 : dst ≤ 15) (s1 : 0 ≤ src) (s2 : src ≤ 15) (i1 : -2147483648 ≤ imm) (i2 : imm ≤ 2147483647) :
    Calls Tryd.prog 11 #[.agg #[.int .i64 14, .int .i64 dst, .int .i64 src, .int .i64 imm, .int .i64 size, .bool true, .int .i64 cond, .string ⟨⟨[]⟩⟩]] w fun en w' => RightIs (RP 14 dst src imm size 1 cond 1) en ∧ Below w.heap.size w w' := by
  have base := rbase dst src imm size cond d1 d2 s1 s2 i1 i2
  by_cases h0 : src ≠ 0
  · exact fin_false (rr_of _ (nT 1 0 h0 base) 14 true ⟨⟨[]⟩⟩ false (by kernel_rfl) w) (by unfold RP lD lS lI lZ lG lC lT; omega)
  · by_cases h1 : size ≠ 0
    · exact fin_false (rr_of _ (nT 3 0 h1 (nF 1 0 h0 base)) 14 true ⟨⟨[]⟩⟩ false (by kernel_rfl) w) (by unfold RP lD lS lI lZ lG lC lT; omega)
    · exact fin_false (rr_of _ (nF 3 0 h1 (nF 1 0 h0 base)) 14 true ⟨⟨[]⟩⟩ false (by kernel_rfl) w) (by unfold RP lD lS lI lZ lG lC lT; omega)
theorem rr_21_00 (dst src imm size cond : Int) (b : UInt8) (bs : List UInt8) (w : World) (d1 : 0 ≤ dst) (d2 : dst ≤ 15) (s1 : 0 ≤ src) (s2 : src ≤ 15) (i1 : -2147483648 ≤ imm) (i2 : imm ≤ 2147483647) :
    Calls Tryd.prog 11 #[.agg #[.int .i64 21, .int .i64 dst, .int .i64 src, .int .i64 imm, .int .i64 size, .bool false, .int .i64 cond, .string ⟨⟨b :: bs⟩⟩]] w fun en w' => RightIs (RP 21 dst src imm size 0 cond 0) en ∧ Below w.heap.size w w' := by
  have base := rbase dst src imm size cond d1 d2 s1 s2 i1 i2
  by_cases h0 : src ≠ 0
  · exact fin_false (rr_of _ (nT 1 0 h0 base) 21 false ⟨⟨b :: bs⟩⟩ false (by kernel_rfl) w) (by unfold RP lD lS lI lZ lG lC lT; omega)
  · by_cases h1 : imm ≠ 0
    · exact fin_false (rr_of _ (nT 2 0 h1 (nF 1 0 h0 base)) 21 false ⟨⟨b :: bs⟩⟩ false (by kernel_rfl) w) (by unfold RP lD lS lI lZ lG lC lT; omega)
    · by_cases h2 : size ≠ 0
      · exact fin_false (rr_of _ (nT 3 0 h2 (nF 2 0 h1 (nF 1 0 h0 base))) 21 false ⟨⟨b :: bs⟩⟩ false (by kernel_rfl) w) (by unfold RP lD lS lI lZ lG lC lT; omega)
      · by_cases h3 : cond ≠ 0
        · exact fin_false (rr_of _ (nT 4 0 h3 (nF 3 0 h2 (nF 2 0 h1 (nF 1 0 h0 base)))) 21 false ⟨⟨b :: bs⟩⟩ false (by kernel_rfl) w) (by unfold RP lD lS lI lZ lG lC lT; omega)
        · exact fin_false (rr_of _ (nF 4 0 h3 (nF 3 0 h2 (nF 2 0 h1 (nF 1 0 h0 base)))) 21 false ⟨⟨b :: bs⟩⟩ false (by kernel_rfl) w) (by unfold RP lD lS lI lZ lG lC lT; omega)
theorem rr_21_01 (dst src imm size cond : Int) (w : World) (d1 : 0 ≤ dst) (d2 : dst ≤ 15) (s1 : 0 ≤ src) (s2 : src ≤ 15) (i1 : -2147483648 ≤ imm) (i2 : imm ≤ 2147483647) :
    Calls Tryd.prog 11 #[.agg #[.int .i64 21, .int .i64 dst, .int .i64 src, .int .i64 imm, .int .i64 size, .bool false, .int .i64 cond, .string ⟨⟨[]⟩⟩]] w fun en w' => RightIs (RP 21 dst src imm size 0 cond 1) en ∧ Below w.heap.size w w' := by
  have base := rbase dst src imm size cond d1 d2 s1 s2 i1 i2
  by_cases h0 : src ≠ 0
  · exact fin_false (rr_of _ (nT 1 0 h0 base) 21 false ⟨⟨[]⟩⟩ false (by kernel_rfl) w) (by unfold RP lD lS lI lZ lG lC lT; omega)
  · by_cases h1 : imm ≠ 0
    · exact fin_false (rr_of _ (nT 2 0 h1 (nF 1 0 h0 base)) 21 false ⟨⟨[]⟩⟩ false (by kernel_rfl) w) (by unfold RP lD lS lI lZ lG lC lT; omega)
    · by_cases h2 : size ≠ 0
      · exact fin_false (rr_of _ (nT 3 0 h2 (nF 2 0 h1 (nF 1 0 h0 base))) 21 false ⟨⟨[]⟩⟩ false (by kernel_rfl) w) (by unfold RP lD lS lI lZ lG lC lT; omega)
      · by_cases h3 : cond ≠ 0
        · exact fin_false (rr_of _ (nT 4 0 h3 (nF 3 0 h2 (nF 2 0 h1 (nF 1 0 h0 base)))) 21 false ⟨⟨[]⟩⟩ false (by kernel_rfl) w) (by unfold RP lD lS lI lZ lG lC lT; omega)
        · exact fin_true (rr_of _ (nF 4 0 h3 (nF 3 0 h2 (nF 2 0 h1 (nF 1 0 h0 base)))) 21 false ⟨⟨[]⟩⟩ true (by kernel_rfl) w) (by unfold RP lD lS lI lZ lG lC lT; omega)
theorem rr_21_10 (dst src imm size cond : Int) (b : UInt8) (bs : List UInt8) (w : World) (d1 : 0 ≤ dst) (d2 : dst ≤ 15) (s1 : 0 ≤ src) (s2 : src ≤ 15) (i1 : -2147483648 ≤ imm) (i2 : imm ≤ 2147483647) :
    Calls Tryd.prog 11 #[.agg #[.int .i64 21, .int .i64 dst, .int .i64 src, .int .i64 imm, .int .i64 size, .bool true, .int .i64 cond, .string ⟨⟨b :: bs⟩⟩]] w fun en w' => RightIs (RP 21 dst src imm size 1 cond 0) en ∧ Below w.heap.size w w' := by
  have base := rbase dst src imm size cond d1 d2 s1 s2 i1 i2
  by_cases h0 : src ≠ 0
  · exact fin_false (rr_of _ (nT 1 0 h0 base) 21 true ⟨⟨b :: bs⟩⟩ false (by kernel_rfl) w) (by unfold RP lD lS lI lZ lG lC lT; omega)
  · by_cases h1 : imm ≠ 0
    · exact fin_false (rr_of _ (nT 2 0 h1 (nF 1 0 h0 base)) 21 true ⟨⟨b :: bs⟩⟩ false (by kernel_rfl) w) (by unfold RP lD lS lI lZ lG lC lT; omega)
    · by_cases h2 : size ≠ 0
      · exact fin_false (rr_of _ (nT 3 0 h2 (nF 2 0 h1 (nF 1 0 h0 base))) 21 true ⟨⟨b :: bs⟩⟩ false (by kernel_rfl) w) (by unfold RP lD lS lI lZ lG lC lT; omega)
      · exact fin_false (rr_of _ (nF 3 0 h2 (nF 2 0 h1 (nF 1 0 h0 base))) 21 true ⟨⟨b :: bs⟩⟩ false (by kernel_rfl) w) (by unfold RP lD lS lI lZ lG lC lT; omega)
theorem rr_21_11 (dst src imm size cond : Int) (w : World) (d1 : 0 ≤ dst) (d2 : dst ≤ 15) (s1 : 0 ≤ src) (s2 : src ≤ 15) (i1 : -2147483648 ≤ imm) (i2 : imm ≤ 2147483647) :
    Calls Tryd.prog 11 #[.agg #[.int .i64 21, .int .i64 dst, .int .i64 src, .int .i64 imm, .int .i64 size, .bool true, .int .i64 cond, .string ⟨⟨[]⟩⟩]] w fun en w' => RightIs (RP 21 dst src imm size 1 cond 1) en ∧ Below w.heap.size w w' := by
  have base := rbase dst src imm size cond d1 d2 s1 s2 i1 i2
  by_cases h0 : src ≠ 0
  · exact fin_false (rr_of _ (nT 1 0 h0 base) 21 true ⟨⟨[]⟩⟩ false (by kernel_rfl) w) (by unfold RP lD lS lI lZ lG lC lT; omega)
  · by_cases h1 : imm ≠ 0
    · exact fin_false (rr_of _ (nT 2 0 h1 (nF 1 0 h0 base)) 21 true ⟨⟨[]⟩⟩ false (by kernel_rfl) w) (by unfold RP lD lS lI lZ lG lC lT; omega)
    · by_cases h2 : size ≠ 0
      · exact fin_false (rr_of _ (nT 3 0 h2 (nF 2 0 h1 (nF 1 0 h0 base))) 21 true ⟨⟨[]⟩⟩ false (by kernel_rfl) w) (by unfold RP lD lS lI lZ lG lC lT; omega)
      · exact fin_false (rr_of _ (nF 3 0 h2 (nF 2 0 h1 (nF 1 0 h0 base))) 21 true ⟨⟨[]⟩⟩ false (by kernel_rfl) w) (by unfold RP lD lS lI lZ lG lC lT; omega)
theorem rr_27_00 (dst src imm size cond : Int) (b : UInt8) (bs : List UInt8) (w : World) (d1 : 0 ≤ dst) (d2 : dst ≤ 15) (s1 : 0 ≤ src) (s2 : src ≤ 15) (i1 : -2147483648 ≤ imm) (i2 : imm ≤ 2147483647) :
    Calls Tryd.prog 11 #[.agg #[.int .i64 27, .int .i64 dst, .int .i64 src, .int .i64 imm, .int .i64 size, .bool false, .int .i64 cond, .string ⟨⟨b :: bs⟩⟩]] w fun en w' => RightIs (RP 27 dst src imm size 0 cond 0) en ∧ Below w.heap.size w w' := by
  have base := rbase dst src imm size cond d1 d2 s1 s2 i1 i2
  by_cases h0 : dst ≠ 0
  · exact fin_false (rr_of _ (nT 0 0 h0 base) 27 false ⟨⟨b :: bs⟩⟩ false (by kernel_rfl) w) (by unfold RP lD lS lI lZ lG lC lT; omega)
  · by_cases h1 : src ≠ 0
    · exact fin_false (rr_of _ (nT 1 0 h1 (nF 0 0 h0 base)) 27 false ⟨⟨b :: bs⟩⟩ false (by kernel_rfl) w) (by unfold RP lD lS lI lZ lG lC lT; omega)
    · by_cases h2 : imm ≠ 0
      · exact fin_false (rr_of _ (nT 2 0 h2 (nF 1 0 h1 (nF 0 0 h0 base))) 27 false ⟨⟨b :: bs⟩⟩ false (by kernel_rfl) w) (by unfold RP lD lS lI lZ lG lC lT; omega)
      · by_cases h3 : size ≠ 0
        · exact fin_false (rr_of _ (nT 3 0 h3 (nF 2 0 h2 (nF 1 0 h1 (nF 0 0 h0 base)))) 27 false ⟨⟨b :: bs⟩⟩ false (by kernel_rfl) w) (by unfold RP lD lS lI lZ lG lC lT; omega)
        · by_cases h4 : cond ≠ 0
          · exact fin_false (rr_of _ (nT 4 0 h4 (nF 3 0 h3 (nF 2 0 h2 (nF 1 0 h1 (nF 0 0 h0 base))))) 27 false ⟨⟨b :: bs⟩⟩ false (by kernel_rfl) w) (by unfold RP lD lS lI lZ lG lC lT; omega)
          · exact fin_false (rr_of _ (nF 4 0 h4 (nF 3 0 h3 (nF 2 0 h2 (nF 1 0 h1 (nF 0 0 h0 base))))) 27 false ⟨⟨b :: bs⟩⟩ false (by kernel_rfl) w) (by unfold RP lD lS lI lZ lG lC lT; omega)
theorem rr_27_01 (dst src imm size cond : Int) (w : World) (d1 : 0 ≤ dst) (d2 : dst ≤ 15) (s1 : 0 ≤ src) (s2 : src ≤ 15) (i1 : -2147483648 ≤ imm) (i2 : imm ≤ 2147483647) :
    Calls Tryd.prog 11 #[.agg #[.int .i64 27, .int .i64 dst, .int .i64 src, .int .i64 imm, .int .i64 size, .bool false, .int .i64 cond, .string ⟨⟨[]⟩⟩]] w fun en w' => RightIs (RP 27 dst src imm size 0 cond 1) en ∧ Below w.heap.size w w' := by
  have base := rbase dst src imm size cond d1 d2 s1 s2 i1 i2
  by_cases h0 : dst ≠ 0
  · exact fin_false (rr_of _ (nT 0 0 h0 base) 27 false ⟨⟨[]⟩⟩ false (by kernel_rfl) w) (by unfold RP lD lS lI lZ lG lC lT; omega)
  · by_cases h1 : src ≠ 0
    · exact fin_false (rr_of _ (nT 1 0 h1 (nF 0 0 h0 base)) 27 false ⟨⟨[]⟩⟩ false (by kernel_rfl) w) (by unfold RP lD lS lI lZ lG lC lT; omega)
    · by_cases h2 : imm ≠ 0
      · exact fin_false (rr_of _ (nT 2 0 h2 (nF 1 0 h1 (nF 0 0 h0 base))) 27 false ⟨⟨[]⟩⟩ false (by kernel_rfl) w) (by unfold RP lD lS lI lZ lG lC lT; omega)
      · by_cases h3 : size ≠ 0
        · exact fin_false (rr_of _ (nT 3 0 h3 (nF 2 0 h2 (nF 1 0 h1 (nF 0 0 h0 base)))) 27 false ⟨⟨[]⟩⟩ false (by kernel_rfl) w) (by unfold RP lD lS lI lZ lG lC lT; omega)
        · by_cases h4 : cond ≠ 0
          · exact fin_false (rr_of _ (nT 4 0 h4 (nF 3 0 h3 (nF 2 0 h2 (nF 1 0 h1 (nF 0 0 h0 base))))) 27 false ⟨⟨[]⟩⟩ false (by kernel_rfl) w) (by unfold RP lD lS lI lZ lG lC lT; omega)
          · exact fin_true (rr_of _ (nF 4 0 h4 (nF 3 0 h3 (nF 2 0 h2 (nF 1 0 h1 (nF 0 0 h0 base))))) 27 false ⟨⟨[]⟩⟩ true (by kernel_rfl) w) (by unfold RP lD lS lI lZ lG lC lT; omega)
theorem rr_27_10 (dst src imm size cond : Int) (b : UInt8) (bs : List UInt8) (w : World) (d1 : 0 ≤ dst) (d2 : dst ≤ 15) (s1 : 0 ≤ src) (s2 : src ≤ 15) (i1 : -2147483648 ≤ imm) (i2 : imm ≤ 2147483647) :
    Calls Tryd.prog 11 #[.agg #[.int .i64 27, .int .i64 dst, .int .i64 src, .int .i64 imm, .int .i64 size, .bool true, .int .i64 cond, .string ⟨⟨b :: bs⟩⟩]] w fun en w' => RightIs (RP 27 dst src imm size 1 cond 0) en ∧ Below w.heap.size w w' := by
  have base := rbase dst src imm size cond d1 d2 s1 s2 i1 i2
  by_cases h0 : dst ≠ 0
  · exact fin_false (rr_of _ (nT 0 0 h0 base) 27 true ⟨⟨b :: bs⟩⟩ false (by kernel_rfl) w) (by unfold RP lD lS lI lZ lG lC lT; omega)
  · by_cases h1 : src ≠ 0
    · exact fin_false (rr_of _ (nT 1 0 h1 (nF 0 0 h0 base)) 27 true ⟨⟨b :: bs⟩⟩ false (by kernel_rfl) w) (by unfold RP lD lS lI lZ lG lC lT; omega)
    · by_cases h2 : imm ≠ 0
      · exact fin_false (rr_of _ (nT 2 0 h2 (nF 1 0 h1 (nF 0 0 h0 base))) 27 true ⟨⟨b :: bs⟩⟩ false (by kernel_rfl) w) (by unfold RP lD lS lI lZ lG lC lT; omega)
      · by_cases h3 : size ≠ 0
        · exact fin_false (rr_of _ (nT 3 0 h3 (nF 2 0 h2 (nF 1 0 h1 (nF 0 0 h0 base)))) 27 true ⟨⟨b :: bs⟩⟩ false (by kernel_rfl) w) (by unfold RP lD lS lI lZ lG lC lT; omega)
        · exact fin_false (rr_of _ (nF 3 0 h3 (nF 2 0 h2 (nF 1 0 h1 (nF 0 0 h0 base)))) 27 true ⟨⟨b :: bs⟩⟩ false (by kernel_rfl) w) (by unfold RP lD lS lI lZ lG lC lT; omega)
theorem rr_27_11 (dst src imm size cond : Int) (w : World) (d1 : 0 ≤ dst) (d2 : dst ≤ 15) (s1 : 0 ≤ src) (s2 : src ≤ 15) (i1 : -2147483648 ≤ imm) (i2 : imm ≤ 2147483647) :
    Calls Tryd.prog 11 #[.agg #[.int .i64 27, .int .i64 dst, .int .i64 src, .int .i64 imm, .int .i64 size, .bool true, .int .i64 cond, .string ⟨⟨[]⟩⟩]] w fun en w' => RightIs (RP 27 dst src imm size 1 cond 1) en ∧ Below w.heap.size w w' := by
  have base := rbase dst src imm size cond d1 d2 s1 s2 i1 i2
  by_cases h0 : dst ≠ 0
  · exact fin_false (rr_of _ (nT 0 0 h0 base) 27 true ⟨⟨[]⟩⟩ false (by kernel_rfl) w) (by unfold RP lD lS lI lZ lG lC lT; omega)
  · by_cases h1 : src ≠ 0
    · exact fin_false (rr_of _ (nT 1 0 h1 (nF 0 0 h0 base)) 27 true ⟨⟨[]⟩⟩ false (by kernel_rfl) w) (by unfold RP lD lS lI lZ lG lC lT; omega)
    · by_cases h2 : imm ≠ 0
      · exact fin_false (rr_of _ (nT 2 0 h2 (nF 1 0 h1 (nF 0 0 h0 base))) 27 true ⟨⟨[]⟩⟩ false (by kernel_rfl) w) (by unfold RP lD lS lI lZ lG lC lT; omega)
      · by_cases h3 : size ≠ 0
        · exact fin_false (rr_of _ (nT 3 0 h3 (nF 2 0 h2 (nF 1 0 h1 (nF 0 0 h0 base)))) 27 true ⟨⟨[]⟩⟩ false (by kernel_rfl) w) (by unfold RP lD lS lI lZ lG lC lT; omega)
        · exact fin_false (rr_of _ (nF 3 0 h3 (nF 2 0 h2 (nF 1 0 h1 (nF 0 0 h0 base)))) 27 true ⟨⟨[]⟩⟩ false (by kernel_rfl) w) (by unfold RP lD lS lI lZ lG lC lT; omega)
theorem rr_40_00 (dst src imm size cond : Int) (b : UInt8) (bs : List UInt8) (w : World) (d1 : 0 ≤ dst) (d2 : dst ≤ 15) (s1 : 0 ≤ src) (s2 : src ≤ 15) (i1 : -2147483648 ≤ imm) (i2 : imm ≤ 2147483647) :
    Calls Tryd.prog 11 #[.agg #[.int .i64 40, .int .i64 dst, .int .i64 src, .int .i64 imm, .int .i64 size, .bool false, .int .i64 cond, .string ⟨⟨b :: bs⟩⟩]] w fun en w' => RightIs (RP 40 dst src imm size 0 cond 0) en ∧ Below w.heap.size w w' := by
  have base := rbase dst src imm size cond d1 d2 s1 s2 i1 i2
  by_cases h0 : src ≠ 0
  · exact fin_false (rr_of _ (nT 1 0 h0 base) 40 false ⟨⟨b :: bs⟩⟩ false (by kernel_rfl) w) (by unfold RP lD lS lI lZ lG lC lT; omega)
  · by_cases h1 : imm ≠ 0
    · exact fin_false (rr_of _ (nT 2 0 h1 (nF 1 0 h0 base)) 40 false ⟨⟨b :: bs⟩⟩ false (by kernel_rfl) w) (by unfold RP lD lS lI lZ lG lC lT; omega)
    · by_cases h2 : size ≠ 0
      · exact fin_false (rr_of _ (nT 3 0 h2 (nF 2 0 h1 (nF 1 0 h0 base))) 40 false ⟨⟨b :: bs⟩⟩ false (by kernel_rfl) w) (by unfold RP lD lS lI lZ lG lC lT; omega)
      · by_cases h3 : cond ≠ 0
        · exact fin_false (rr_of _ (nT 4 0 h3 (nF 3 0 h2 (nF 2 0 h1 (nF 1 0 h0 base)))) 40 false ⟨⟨b :: bs⟩⟩ false (by kernel_rfl) w) (by unfold RP lD lS lI lZ lG lC lT; omega)
        · exact fin_false (rr_of _ (nF 4 0 h3 (nF 3 0 h2 (nF 2 0 h1 (nF 1 0 h0 base)))) 40 false ⟨⟨b :: bs⟩⟩ false (by kernel_rfl) w) (by unfold RP lD lS lI lZ lG lC lT; omega)
theorem rr_40_01 (dst src imm size cond : Int) (w : World) (d1 : 0 ≤ dst) (d2 : dst ≤ 15) (s1 : 0 ≤ src) (s2 : src ≤ 15) (i1 : -2147483648 ≤ imm) (i2 : imm ≤ 2147483647) :
    Calls Tryd.prog 11 #[.agg #[.int .i64 40, .int .i64 dst, .int .i64 src, .int .i64 imm, .int .i64 size, .bool false, .int .i64 cond, .string ⟨⟨[]⟩⟩]] w fun en w' => RightIs (RP 40 dst src imm size 0 cond 1) en ∧ Below w.heap.size w w' := by
  have base := rbase dst src imm size cond d1 d2 s1 s2 i1 i2
  by_cases h0 : src ≠ 0
  · exact fin_false (rr_of _ (nT 1 0 h0 base) 40 false ⟨⟨[]⟩⟩ false (by kernel_rfl) w) (by unfold RP lD lS lI lZ lG lC lT; omega)
  · by_cases h1 : imm ≠ 0
    · exact fin_false (rr_of _ (nT 2 0 h1 (nF 1 0 h0 base)) 40 false ⟨⟨[]⟩⟩ false (by kernel_rfl) w) (by unfold RP lD lS lI lZ lG lC lT; omega)
    · by_cases h2 : size ≠ 0
      · exact fin_false (rr_of _ (nT 3 0 h2 (nF 2 0 h1 (nF 1 0 h0 base))) 40 false ⟨⟨[]⟩⟩ false (by kernel_rfl) w) (by unfold RP lD lS lI lZ lG lC lT; omega)
      · by_cases h3 : cond ≠ 0
        · exact fin_false (rr_of _ (nT 4 0 h3 (nF 3 0 h2 (nF 2 0 h1 (nF 1 0 h0 base)))) 40 false ⟨⟨[]⟩⟩ false (by kernel_rfl) w) (by unfold RP lD lS lI lZ lG lC lT; omega)
        · exact fin_true (rr_of _ (nF 4 0 h3 (nF 3 0 h2 (nF 2 0 h1 (nF 1 0 h0 base)))) 40 false ⟨⟨[]⟩⟩ true (by kernel_rfl) w) (by unfold RP lD lS lI lZ lG lC lT; omega)
theorem rr_40_10 (dst src imm size cond : Int) (b : UInt8) (bs : List UInt8) (w : World) (d1 : 0 ≤ dst) (d2 : dst ≤ 15) (s1 : 0 ≤ src) (s2 : src ≤ 15) (i1 : -2147483648 ≤ imm) (i2 : imm ≤ 2147483647) :
    Calls Tryd.prog 11 #[.agg #[.int .i64 40, .int .i64 dst, .int .i64 src, .int .i64 imm, .int .i64 size, .bool true, .int .i64 cond, .string ⟨⟨b :: bs⟩⟩]] w fun en w' => RightIs (RP 40 dst src imm size 1 cond 0) en ∧ Below w.heap.size w w' := by
  have base := rbase dst src imm size cond d1 d2 s1 s2 i1 i2
  by_cases h0 : src ≠ 0
  · exact fin_false (rr_of _ (nT 1 0 h0 base) 40 true ⟨⟨b :: bs⟩⟩ false (by kernel_rfl) w) (by unfold RP lD lS lI lZ lG lC lT; omega)
  · by_cases h1 : imm ≠ 0
    · exact fin_false (rr_of _ (nT 2 0 h1 (nF 1 0 h0 base)) 40 true ⟨⟨b :: bs⟩⟩ false (by kernel_rfl) w) (by unfold RP lD lS lI lZ lG lC lT; omega)
    · by_cases h2 : size ≠ 0
      · exact fin_false (rr_of _ (nT 3 0 h2 (nF 2 0 h1 (nF 1 0 h0 base))) 40 true ⟨⟨b :: bs⟩⟩ false (by kernel_rfl) w) (by unfold RP lD lS lI lZ lG lC lT; omega)
      · exact fin_false (rr_of _ (nF 3 0 h2 (nF 2 0 h1 (nF 1 0 h0 base))) 40 true ⟨⟨b :: bs⟩⟩ false (by kernel_rfl) w) (by unfold RP lD lS lI lZ lG lC lT; omega)
theorem rr_40_11 (dst src imm size cond : Int) (w : World) (d1 : 0 ≤ dst) (d2 : dst ≤ 15) (s1 : 0 ≤ src) (s2 : src ≤ 15) (i1 : -2147483648 ≤ imm) (i2 : imm ≤ 2147483647) :
    Calls Tryd.prog 11 #[.agg #[.int .i64 40, .int .i64 dst, .int .i64 src, .int .i64 imm, .int .i64 size, .bool true, .int .i64 cond, .string ⟨⟨[]⟩⟩]] w fun en w' => RightIs (RP 40 dst src imm size 1 cond 1) en ∧ Below w.heap.size w w' := by
  have base := rbase dst src imm size cond d1 d2 s1 s2 i1 i2
  by_cases h0 : src ≠ 0
  · exact fin_false (rr_of _ (nT 1 0 h0 base) 40 true ⟨⟨[]⟩⟩ false (by kernel_rfl) w) (by unfold RP lD lS lI lZ lG lC lT; omega)
  · by_cases h1 : imm ≠ 0
    · exact fin_false (rr_of _ (nT 2 0 h1 (nF 1 0 h0 base)) 40 true ⟨⟨[]⟩⟩ false (by kernel_rfl) w) (by unfold RP lD lS lI lZ lG lC lT; omega)
    · by_cases h2 : size ≠ 0
      · exact fin_false (rr_of _ (nT 3 0 h2 (nF 2 0 h1 (nF 1 0 h0 base))) 40 true ⟨⟨[]⟩⟩ false (by kernel_rfl) w) (by unfold RP lD lS lI lZ lG lC lT; omega)
      · exact fin_false (rr_of _ (nF 3 0 h2 (nF 2 0 h1 (nF 1 0 h0 base))) 40 true ⟨⟨[]⟩⟩ false (by kernel_rfl) w) (by unfold RP lD lS lI lZ lG lC lT; omega)
end Go.Proofs.YtpkbkmppkgeklaaDoor
