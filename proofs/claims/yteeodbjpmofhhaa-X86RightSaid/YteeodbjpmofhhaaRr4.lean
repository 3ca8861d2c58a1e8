/- The document's Right, run: operations 12, 20, 25, 28, 38. No condition. -/
import Derived.Test.YteeodbjpmofhhaaRr
namespace Go.Proofs.Yteeodbjpmofhhaa
open Go.RowKit
set_option linter.unusedVariables false
theorem rr_12_00 (dst src imm size cond : Int) (b : UInt8) (bs : List UInt8) (w : World) (d1 : 0 ≤ dst) (d2 : dst ≤ 15) (s1 : 0 ≤ src) (s2 : src ≤ 15) (i1 : -2147483648 ≤ imm) (i2 : imm ≤ 2147483647) :
    Calls Try.prog 14 #[.agg #[.int .i64 12, .int .i64 dst, .int .i64 src, .int .i64 imm, .int .i64 size, .bool false, .int .i64 cond, .string ⟨⟨b :: bs⟩⟩]] w fun en w' => RightIs (RP 12 dst src imm size 0 cond 0) en ∧ Below w.heap.size w w' := by
  have base := (kn_cons (kn_lss 0 0 false (decide_eq_false (show ¬ (dst < 0) by omega))) (kn_cons (kn_gtr 0 15 false (decide_eq_false (show ¬ (dst > 15) by omega))) (kn_cons (kn_lss 1 0 false (decide_eq_false (show ¬ (src < 0) by omega))) (kn_cons (kn_gtr 1 15 false (decide_eq_false (show ¬ (src > 15) by omega))) (kn_cons (kn_lss 2 (-2147483648) false (decide_eq_false (show ¬ (imm < (-2147483648)) by omega))) (kn_cons (kn_gtr 2 2147483647 false (decide_eq_false (show ¬ (imm > 2147483647) by omega))) (kn_nil (m5 dst src imm size cond))))))))
  by_cases h0 : imm ≠ 0
  · refine (rr_of _ (kn_cons (kn_neq 2 0 true (decide_eq_true (h0))) base) 12 false ⟨⟨b :: bs⟩⟩ false (by kernel_rfl) w).mono ?_
    rintro e w' ⟨rfl, hb⟩
    exact ⟨ret_rp_false (by unfold RP lD lS lI lZ lG lC lT; omega), hb⟩
  · by_cases h1 : size ≠ 0
    · refine (rr_of _ (kn_cons (kn_neq 3 0 true (decide_eq_true (h1))) (kn_cons (kn_neq 2 0 false (decide_eq_false (h0))) base)) 12 false ⟨⟨b :: bs⟩⟩ false (by kernel_rfl) w).mono ?_
      rintro e w' ⟨rfl, hb⟩
      exact ⟨ret_rp_false (by unfold RP lD lS lI lZ lG lC lT; omega), hb⟩
    · by_cases h2 : cond ≠ 0
      · refine (rr_of _ (kn_cons (kn_neq 4 0 true (decide_eq_true (h2))) (kn_cons (kn_neq 3 0 false (decide_eq_false (h1))) (kn_cons (kn_neq 2 0 false (decide_eq_false (h0))) base))) 12 false ⟨⟨b :: bs⟩⟩ false (by kernel_rfl) w).mono ?_
        rintro e w' ⟨rfl, hb⟩
        exact ⟨ret_rp_false (by unfold RP lD lS lI lZ lG lC lT; omega), hb⟩
      · refine (rr_of _ (kn_cons (kn_neq 4 0 false (decide_eq_false (h2))) (kn_cons (kn_neq 3 0 false (decide_eq_false (h1))) (kn_cons (kn_neq 2 0 false (decide_eq_false (h0))) base))) 12 false ⟨⟨b :: bs⟩⟩ false (by kernel_rfl) w).mono ?_
        rintro e w' ⟨rfl, hb⟩
        exact ⟨ret_rp_false (by unfold RP lD lS lI lZ lG lC lT; omega), hb⟩
theorem rr_12_01 (dst src imm size cond : Int) (w : World) (d1 : 0 ≤ dst) (d2 : dst ≤ 15) (s1 : 0 ≤ src) (s2 : src ≤ 15) (i1 : -2147483648 ≤ imm) (i2 : imm ≤ 2147483647) :
    Calls Try.prog 14 #[.agg #[.int .i64 12, .int .i64 dst, .int .i64 src, .int .i64 imm, .int .i64 size, .bool false, .int .i64 cond, .string ⟨⟨[]⟩⟩]] w fun en w' => RightIs (RP 12 dst src imm size 0 cond 1) en ∧ Below w.heap.size w w' := by
  have base := (kn_cons (kn_lss 0 0 false (decide_eq_false (show ¬ (dst < 0) by omega))) (kn_cons (kn_gtr 0 15 false (decide_eq_false (show ¬ (dst > 15) by omega))) (kn_cons (kn_lss 1 0 false (decide_eq_false (show ¬ (src < 0) by omega))) (kn_cons (kn_gtr 1 15 false (decide_eq_false (show ¬ (src > 15) by omega))) (kn_cons (kn_lss 2 (-2147483648) false (decide_eq_false (show ¬ (imm < (-2147483648)) by omega))) (kn_cons (kn_gtr 2 2147483647 false (decide_eq_false (show ¬ (imm > 2147483647) by omega))) (kn_nil (m5 dst src imm size cond))))))))
  by_cases h0 : imm ≠ 0
  · refine (rr_of _ (kn_cons (kn_neq 2 0 true (decide_eq_true (h0))) base) 12 false ⟨⟨[]⟩⟩ false (by kernel_rfl) w).mono ?_
    rintro e w' ⟨rfl, hb⟩
    exact ⟨ret_rp_false (by unfold RP lD lS lI lZ lG lC lT; omega), hb⟩
  · by_cases h1 : size ≠ 0
    · refine (rr_of _ (kn_cons (kn_neq 3 0 true (decide_eq_true (h1))) (kn_cons (kn_neq 2 0 false (decide_eq_false (h0))) base)) 12 false ⟨⟨[]⟩⟩ false (by kernel_rfl) w).mono ?_
      rintro e w' ⟨rfl, hb⟩
      exact ⟨ret_rp_false (by unfold RP lD lS lI lZ lG lC lT; omega), hb⟩
    · by_cases h2 : cond ≠ 0
      · refine (rr_of _ (kn_cons (kn_neq 4 0 true (decide_eq_true (h2))) (kn_cons (kn_neq 3 0 false (decide_eq_false (h1))) (kn_cons (kn_neq 2 0 false (decide_eq_false (h0))) base))) 12 false ⟨⟨[]⟩⟩ false (by kernel_rfl) w).mono ?_
        rintro e w' ⟨rfl, hb⟩
        exact ⟨ret_rp_false (by unfold RP lD lS lI lZ lG lC lT; omega), hb⟩
      · refine (rr_of _ (kn_cons (kn_neq 4 0 false (decide_eq_false (h2))) (kn_cons (kn_neq 3 0 false (decide_eq_false (h1))) (kn_cons (kn_neq 2 0 false (decide_eq_false (h0))) base))) 12 false ⟨⟨[]⟩⟩ true (by kernel_rfl) w).mono ?_
        rintro e w' ⟨rfl, hb⟩
        exact ⟨ret_rp_true (by unfold RP lD lS lI lZ lG lC lT; omega), hb⟩
theorem rr_12_10 (dst src imm size cond : Int) (b : UInt8) (bs : List UInt8) (w : World) (d1 : 0 ≤ dst) (d2 : dst ≤ 15) (s1 : 0 ≤ src) (s2 : src ≤ 15) (i1 : -2147483648 ≤ imm) (i2 : imm ≤ 2147483647) :
    Calls Try.prog 14 #[.agg #[.int .i64 12, .int .i64 dst, .int .i64 src, .int .i64 imm, .int .i64 size, .bool true, .int .i64 cond, .string ⟨⟨b :: bs⟩⟩]] w fun en w' => RightIs (RP 12 dst src imm size 1 cond 0) en ∧ Below w.heap.size w w' := by
  have base := (kn_cons (kn_lss 0 0 false (decide_eq_false (show ¬ (dst < 0) by omega))) (kn_cons (kn_gtr 0 15 false (decide_eq_false (show ¬ (dst > 15) by omega))) (kn_cons (kn_lss 1 0 false (decide_eq_false (show ¬ (src < 0) by omega))) (kn_cons (kn_gtr 1 15 false (decide_eq_false (show ¬ (src > 15) by omega))) (kn_cons (kn_lss 2 (-2147483648) false (decide_eq_false (show ¬ (imm < (-2147483648)) by omega))) (kn_cons (kn_gtr 2 2147483647 false (decide_eq_false (show ¬ (imm > 2147483647) by omega))) (kn_nil (m5 dst src imm size cond))))))))
  by_cases h0 : imm ≠ 0
  · refine (rr_of _ (kn_cons (kn_neq 2 0 true (decide_eq_true (h0))) base) 12 true ⟨⟨b :: bs⟩⟩ false (by kernel_rfl) w).mono ?_
    rintro e w' ⟨rfl, hb⟩
    exact ⟨ret_rp_false (by unfold RP lD lS lI lZ lG lC lT; omega), hb⟩
  · by_cases h1 : size ≠ 0
    · refine (rr_of _ (kn_cons (kn_neq 3 0 true (decide_eq_true (h1))) (kn_cons (kn_neq 2 0 false (decide_eq_false (h0))) base)) 12 true ⟨⟨b :: bs⟩⟩ false (by kernel_rfl) w).mono ?_
      rintro e w' ⟨rfl, hb⟩
      exact ⟨ret_rp_false (by unfold RP lD lS lI lZ lG lC lT; omega), hb⟩
    · refine (rr_of _ (kn_cons (kn_neq 3 0 false (decide_eq_false (h1))) (kn_cons (kn_neq 2 0 false (decide_eq_false (h0))) base)) 12 true ⟨⟨b :: bs⟩⟩ false (by kernel_rfl) w).mono ?_
      rintro e w' ⟨rfl, hb⟩
      exact ⟨ret_rp_false (by unfold RP lD lS lI lZ lG lC lT; omega), hb⟩
theorem rr_12_11 (dst src imm size cond : Int) (w : World) (d1 : 0 ≤ dst) (d2 : dst ≤ 15) (s1 : 0 ≤ src) (s2 : src ≤ 15) (i1 : -2147483648 ≤ imm) (i2 : imm ≤ 2147483647) :
    Calls Try.prog 14 #[.agg #[.int .i64 12, .int .i64 dst, .int .i64 src, .int .i64 imm, .int .i64 size, .bool true, .int .i64 cond, .string ⟨⟨[]⟩⟩]] w fun en w' => RightIs (RP 12 dst src imm size 1 cond 1) en ∧ Below w.heap.size w w' := by
  have base := (kn_cons (kn_lss 0 0 false (decide_eq_false (show ¬ (dst < 0) by omega))) (kn_cons (kn_gtr 0 15 false (decide_eq_false (show ¬ (dst > 15) by omega))) (kn_cons (kn_lss 1 0 false (decide_eq_false (show ¬ (src < 0) by omega))) (kn_cons (kn_gtr 1 15 false (decide_eq_false (show ¬ (src > 15) by omega))) (kn_cons (kn_lss 2 (-2147483648) false (decide_eq_false (show ¬ (imm < (-2147483648)) by omega))) (kn_cons (kn_gtr 2 2147483647 false (decide_eq_false (show ¬ (imm > 2147483647) by omega))) (kn_nil (m5 dst src imm size cond))))))))
  by_cases h0 : imm ≠ 0
  · refine (rr_of _ (kn_cons (kn_neq 2 0 true (decide_eq_true (h0))) base) 12 true ⟨⟨[]⟩⟩ false (by kernel_rfl) w).mono ?_
    rintro e w' ⟨rfl, hb⟩
    exact ⟨ret_rp_false (by unfold RP lD lS lI lZ lG lC lT; omega), hb⟩
  · by_cases h1 : size ≠ 0
    · refine (rr_of _ (kn_cons (kn_neq 3 0 true (decide_eq_true (h1))) (kn_cons (kn_neq 2 0 false (decide_eq_false (h0))) base)) 12 true ⟨⟨[]⟩⟩ false (by kernel_rfl) w).mono ?_
      rintro e w' ⟨rfl, hb⟩
      exact ⟨ret_rp_false (by unfold RP lD lS lI lZ lG lC lT; omega), hb⟩
    · refine (rr_of _ (kn_cons (kn_neq 3 0 false (decide_eq_false (h1))) (kn_cons (kn_neq 2 0 false (decide_eq_false (h0))) base)) 12 true ⟨⟨[]⟩⟩ false (by kernel_rfl) w).mono ?_
      rintro e w' ⟨rfl, hb⟩
      exact ⟨ret_rp_false (by unfold RP lD lS lI lZ lG lC lT; omega), hb⟩
theorem rr_20_00 (dst src imm size cond : Int) (b : UInt8) (bs : List UInt8) (w : World) (d1 : 0 ≤ dst) (d2 : dst ≤ 15) (s1 : 0 ≤ src) (s2 : src ≤ 15) (i1 : -2147483648 ≤ imm) (i2 : imm ≤ 2147483647) :
    Calls Try.prog 14 #[.agg #[.int .i64 20, .int .i64 dst, .int .i64 src, .int .i64 imm, .int .i64 size, .bool false, .int .i64 cond, .string ⟨⟨b :: bs⟩⟩]] w fun en w' => RightIs (RP 20 dst src imm size 0 cond 0) en ∧ Below w.heap.size w w' := by
  have base := (kn_cons (kn_lss 0 0 false (decide_eq_false (show ¬ (dst < 0) by omega))) (kn_cons (kn_gtr 0 15 false (decide_eq_false (show ¬ (dst > 15) by omega))) (kn_cons (kn_lss 1 0 false (decide_eq_false (show ¬ (src < 0) by omega))) (kn_cons (kn_gtr 1 15 false (decide_eq_false (show ¬ (src > 15) by omega))) (kn_cons (kn_lss 2 (-2147483648) false (decide_eq_false (show ¬ (imm < (-2147483648)) by omega))) (kn_cons (kn_gtr 2 2147483647 false (decide_eq_false (show ¬ (imm > 2147483647) by omega))) (kn_nil (m5 dst src imm size cond))))))))
  by_cases h0 : src ≠ 0
  · refine (rr_of _ (kn_cons (kn_neq 1 0 true (decide_eq_true (h0))) base) 20 false ⟨⟨b :: bs⟩⟩ false (by kernel_rfl) w).mono ?_
    rintro e w' ⟨rfl, hb⟩
    exact ⟨ret_rp_false (by unfold RP lD lS lI lZ lG lC lT; omega), hb⟩
  · by_cases h1 : size ≠ 0
    · refine (rr_of _ (kn_cons (kn_neq 3 0 true (decide_eq_true (h1))) (kn_cons (kn_neq 1 0 false (decide_eq_false (h0))) base)) 20 false ⟨⟨b :: bs⟩⟩ false (by kernel_rfl) w).mono ?_
      rintro e w' ⟨rfl, hb⟩
      exact ⟨ret_rp_false (by unfold RP lD lS lI lZ lG lC lT; omega), hb⟩
    · by_cases h2 : cond ≠ 0
      · refine (rr_of _ (kn_cons (kn_neq 4 0 true (decide_eq_true (h2))) (kn_cons (kn_neq 3 0 false (decide_eq_false (h1))) (kn_cons (kn_neq 1 0 false (decide_eq_false (h0))) base))) 20 false ⟨⟨b :: bs⟩⟩ false (by kernel_rfl) w).mono ?_
        rintro e w' ⟨rfl, hb⟩
        exact ⟨ret_rp_false (by unfold RP lD lS lI lZ lG lC lT; omega), hb⟩
      · refine (rr_of _ (kn_cons (kn_neq 4 0 false (decide_eq_false (h2))) (kn_cons (kn_neq 3 0 false (decide_eq_false (h1))) (kn_cons (kn_neq 1 0 false (decide_eq_false (h0))) base))) 20 false ⟨⟨b :: bs⟩⟩ false (by kernel_rfl) w).mono ?_
        rintro e w' ⟨rfl, hb⟩
        exact ⟨ret_rp_false (by unfold RP lD lS lI lZ lG lC lT; omega), hb⟩
theorem rr_20_01 (dst src imm size cond : Int) (w : World) (d1 : 0 ≤ dst) (d2 : dst ≤ 15) (s1 : 0 ≤ src) (s2 : src ≤ 15) (i1 : -2147483648 ≤ imm) (i2 : imm ≤ 2147483647) :
    Calls Try.prog 14 #[.agg #[.int .i64 20, .int .i64 dst, .int .i64 src, .int .i64 imm, .int .i64 size, .bool false, .int .i64 cond, .string ⟨⟨[]⟩⟩]] w fun en w' => RightIs (RP 20 dst src imm size 0 cond 1) en ∧ Below w.heap.size w w' := by
  have base := (kn_cons (kn_lss 0 0 false (decide_eq_false (show ¬ (dst < 0) by omega))) (kn_cons (kn_gtr 0 15 false (decide_eq_false (show ¬ (dst > 15) by omega))) (kn_cons (kn_lss 1 0 false (decide_eq_false (show ¬ (src < 0) by omega))) (kn_cons (kn_gtr 1 15 false (decide_eq_false (show ¬ (src > 15) by omega))) (kn_cons (kn_lss 2 (-2147483648) false (decide_eq_false (show ¬ (imm < (-2147483648)) by omega))) (kn_cons (kn_gtr 2 2147483647 false (decide_eq_false (show ¬ (imm > 2147483647) by omega))) (kn_nil (m5 dst src imm size cond))))))))
  by_cases h0 : src ≠ 0
  · refine (rr_of _ (kn_cons (kn_neq 1 0 true (decide_eq_true (h0))) base) 20 false ⟨⟨[]⟩⟩ false (by kernel_rfl) w).mono ?_
    rintro e w' ⟨rfl, hb⟩
    exact ⟨ret_rp_false (by unfold RP lD lS lI lZ lG lC lT; omega), hb⟩
  · by_cases h1 : size ≠ 0
    · refine (rr_of _ (kn_cons (kn_neq 3 0 true (decide_eq_true (h1))) (kn_cons (kn_neq 1 0 false (decide_eq_false (h0))) base)) 20 false ⟨⟨[]⟩⟩ false (by kernel_rfl) w).mono ?_
      rintro e w' ⟨rfl, hb⟩
      exact ⟨ret_rp_false (by unfold RP lD lS lI lZ lG lC lT; omega), hb⟩
    · by_cases h2 : cond ≠ 0
      · refine (rr_of _ (kn_cons (kn_neq 4 0 true (decide_eq_true (h2))) (kn_cons (kn_neq 3 0 false (decide_eq_false (h1))) (kn_cons (kn_neq 1 0 false (decide_eq_false (h0))) base))) 20 false ⟨⟨[]⟩⟩ false (by kernel_rfl) w).mono ?_
        rintro e w' ⟨rfl, hb⟩
        exact ⟨ret_rp_false (by unfold RP lD lS lI lZ lG lC lT; omega), hb⟩
      · refine (rr_of _ (kn_cons (kn_neq 4 0 false (decide_eq_false (h2))) (kn_cons (kn_neq 3 0 false (decide_eq_false (h1))) (kn_cons (kn_neq 1 0 false (decide_eq_false (h0))) base))) 20 false ⟨⟨[]⟩⟩ true (by kernel_rfl) w).mono ?_
        rintro e w' ⟨rfl, hb⟩
        exact ⟨ret_rp_true (by unfold RP lD lS lI lZ lG lC lT; omega), hb⟩
theorem rr_20_10 (dst src imm size cond : Int) (b : UInt8) (bs : List UInt8) (w : World) (d1 : 0 ≤ dst) (d2 : dst ≤ 15) (s1 : 0 ≤ src) (s2 : src ≤ 15) (i1 : -2147483648 ≤ imm) (i2 : imm ≤ 2147483647) :
    Calls Try.prog 14 #[.agg #[.int .i64 20, .int .i64 dst, .int .i64 src, .int .i64 imm, .int .i64 size, .bool true, .int .i64 cond, .string ⟨⟨b :: bs⟩⟩]] w fun en w' => RightIs (RP 20 dst src imm size 1 cond 0) en ∧ Below w.heap.size w w' := by
  have base := (kn_cons (kn_lss 0 0 false (decide_eq_false (show ¬ (dst < 0) by omega))) (kn_cons (kn_gtr 0 15 false (decide_eq_false (show ¬ (dst > 15) by omega))) (kn_cons (kn_lss 1 0 false (decide_eq_false (show ¬ (src < 0) by omega))) (kn_cons (kn_gtr 1 15 false (decide_eq_false (show ¬ (src > 15) by omega))) (kn_cons (kn_lss 2 (-2147483648) false (decide_eq_false (show ¬ (imm < (-2147483648)) by omega))) (kn_cons (kn_gtr 2 2147483647 false (decide_eq_false (show ¬ (imm > 2147483647) by omega))) (kn_nil (m5 dst src imm size cond))))))))
  by_cases h0 : src ≠ 0
  · refine (rr_of _ (kn_cons (kn_neq 1 0 true (decide_eq_true (h0))) base) 20 true ⟨⟨b :: bs⟩⟩ false (by kernel_rfl) w).mono ?_
    rintro e w' ⟨rfl, hb⟩
    exact ⟨ret_rp_false (by unfold RP lD lS lI lZ lG lC lT; omega), hb⟩
  · by_cases h1 : size ≠ 0
    · refine (rr_of _ (kn_cons (kn_neq 3 0 true (decide_eq_true (h1))) (kn_cons (kn_neq 1 0 false (decide_eq_false (h0))) base)) 20 true ⟨⟨b :: bs⟩⟩ false (by kernel_rfl) w).mono ?_
      rintro e w' ⟨rfl, hb⟩
      exact ⟨ret_rp_false (by unfold RP lD lS lI lZ lG lC lT; omega), hb⟩
    · refine (rr_of _ (kn_cons (kn_neq 3 0 false (decide_eq_false (h1))) (kn_cons (kn_neq 1 0 false (decide_eq_false (h0))) base)) 20 true ⟨⟨b :: bs⟩⟩ false (by kernel_rfl) w).mono ?_
      rintro e w' ⟨rfl, hb⟩
      exact ⟨ret_rp_false (by unfold RP lD lS lI lZ lG lC lT; omega), hb⟩
theorem rr_20_11 (dst src imm size cond : Int) (w : World) (d1 : 0 ≤ dst) (d2 : dst ≤ 15) (s1 : 0 ≤ src) (s2 : src ≤ 15) (i1 : -2147483648 ≤ imm) (i2 : imm ≤ 2147483647) :
    Calls Try.prog 14 #[.agg #[.int .i64 20, .int .i64 dst, .int .i64 src, .int .i64 imm, .int .i64 size, .bool true, .int .i64 cond, .string ⟨⟨[]⟩⟩]] w fun en w' => RightIs (RP 20 dst src imm size 1 cond 1) en ∧ Below w.heap.size w w' := by
  have base := (kn_cons (kn_lss 0 0 false (decide_eq_false (show ¬ (dst < 0) by omega))) (kn_cons (kn_gtr 0 15 false (decide_eq_false (show ¬ (dst > 15) by omega))) (kn_cons (kn_lss 1 0 false (decide_eq_false (show ¬ (src < 0) by omega))) (kn_cons (kn_gtr 1 15 false (decide_eq_false (show ¬ (src > 15) by omega))) (kn_cons (kn_lss 2 (-2147483648) false (decide_eq_false (show ¬ (imm < (-2147483648)) by omega))) (kn_cons (kn_gtr 2 2147483647 false (decide_eq_false (show ¬ (imm > 2147483647) by omega))) (kn_nil (m5 dst src imm size cond))))))))
  by_cases h0 : src ≠ 0
  · refine (rr_of _ (kn_cons (kn_neq 1 0 true (decide_eq_true (h0))) base) 20 true ⟨⟨[]⟩⟩ false (by kernel_rfl) w).mono ?_
    rintro e w' ⟨rfl, hb⟩
    exact ⟨ret_rp_false (by unfold RP lD lS lI lZ lG lC lT; omega), hb⟩
  · by_cases h1 : size ≠ 0
    · refine (rr_of _ (kn_cons (kn_neq 3 0 true (decide_eq_true (h1))) (kn_cons (kn_neq 1 0 false (decide_eq_false (h0))) base)) 20 true ⟨⟨[]⟩⟩ false (by kernel_rfl) w).mono ?_
      rintro e w' ⟨rfl, hb⟩
      exact ⟨ret_rp_false (by unfold RP lD lS lI lZ lG lC lT; omega), hb⟩
    · refine (rr_of _ (kn_cons (kn_neq 3 0 false (decide_eq_false (h1))) (kn_cons (kn_neq 1 0 false (decide_eq_false (h0))) base)) 20 true ⟨⟨[]⟩⟩ false (by kernel_rfl) w).mono ?_
      rintro e w' ⟨rfl, hb⟩
      exact ⟨ret_rp_false (by unfold RP lD lS lI lZ lG lC lT; omega), hb⟩
theorem rr_25_00 (dst src imm size cond : Int) (b : UInt8) (bs : List UInt8) (w : World) (d1 : 0 ≤ dst) (d2 : dst ≤ 15) (s1 : 0 ≤ src) (s2 : src ≤ 15) (i1 : -2147483648 ≤ imm) (i2 : imm ≤ 2147483647) :
    Calls Try.prog 14 #[.agg #[.int .i64 25, .int .i64 dst, .int .i64 src, .int .i64 imm, .int .i64 size, .bool false, .int .i64 cond, .string ⟨⟨b :: bs⟩⟩]] w fun en w' => RightIs (RP 25 dst src imm size 0 cond 0) en ∧ Below w.heap.size w w' := by
  have base := (kn_cons (kn_lss 0 0 false (decide_eq_false (show ¬ (dst < 0) by omega))) (kn_cons (kn_gtr 0 15 false (decide_eq_false (show ¬ (dst > 15) by omega))) (kn_cons (kn_lss 1 0 false (decide_eq_false (show ¬ (src < 0) by omega))) (kn_cons (kn_gtr 1 15 false (decide_eq_false (show ¬ (src > 15) by omega))) (kn_cons (kn_lss 2 (-2147483648) false (decide_eq_false (show ¬ (imm < (-2147483648)) by omega))) (kn_cons (kn_gtr 2 2147483647 false (decide_eq_false (show ¬ (imm > 2147483647) by omega))) (kn_nil (m5 dst src imm size cond))))))))
  by_cases h0 : src ≠ 0
  · refine (rr_of _ (kn_cons (kn_neq 1 0 true (decide_eq_true (h0))) base) 25 false ⟨⟨b :: bs⟩⟩ false (by kernel_rfl) w).mono ?_
    rintro e w' ⟨rfl, hb⟩
    exact ⟨ret_rp_false (by unfold RP lD lS lI lZ lG lC lT; omega), hb⟩
  · by_cases h1 : size ≠ 0
    · refine (rr_of _ (kn_cons (kn_neq 3 0 true (decide_eq_true (h1))) (kn_cons (kn_neq 1 0 false (decide_eq_false (h0))) base)) 25 false ⟨⟨b :: bs⟩⟩ false (by kernel_rfl) w).mono ?_
      rintro e w' ⟨rfl, hb⟩
      exact ⟨ret_rp_false (by unfold RP lD lS lI lZ lG lC lT; omega), hb⟩
    · by_cases h2 : cond ≠ 0
      · refine (rr_of _ (kn_cons (kn_neq 4 0 true (decide_eq_true (h2))) (kn_cons (kn_neq 3 0 false (decide_eq_false (h1))) (kn_cons (kn_neq 1 0 false (decide_eq_false (h0))) base))) 25 false ⟨⟨b :: bs⟩⟩ false (by kernel_rfl) w).mono ?_
        rintro e w' ⟨rfl, hb⟩
        exact ⟨ret_rp_false (by unfold RP lD lS lI lZ lG lC lT; omega), hb⟩
      · refine (rr_of _ (kn_cons (kn_neq 4 0 false (decide_eq_false (h2))) (kn_cons (kn_neq 3 0 false (decide_eq_false (h1))) (kn_cons (kn_neq 1 0 false (decide_eq_false (h0))) base))) 25 false ⟨⟨b :: bs⟩⟩ false (by kernel_rfl) w).mono ?_
        rintro e w' ⟨rfl, hb⟩
        exact ⟨ret_rp_false (by unfold RP lD lS lI lZ lG lC lT; omega), hb⟩
theorem rr_25_01 (dst src imm size cond : Int) (w : World) (d1 : 0 ≤ dst) (d2 : dst ≤ 15) (s1 : 0 ≤ src) (s2 : src ≤ 15) (i1 : -2147483648 ≤ imm) (i2 : imm ≤ 2147483647) :
    Calls Try.prog 14 #[.agg #[.int .i64 25, .int .i64 dst, .int .i64 src, .int .i64 imm, .int .i64 size, .bool false, .int .i64 cond, .string ⟨⟨[]⟩⟩]] w fun en w' => RightIs (RP 25 dst src imm size 0 cond 1) en ∧ Below w.heap.size w w' := by
  have base := (kn_cons (kn_lss 0 0 false (decide_eq_false (show ¬ (dst < 0) by omega))) (kn_cons (kn_gtr 0 15 false (decide_eq_false (show ¬ (dst > 15) by omega))) (kn_cons (kn_lss 1 0 false (decide_eq_false (show ¬ (src < 0) by omega))) (kn_cons (kn_gtr 1 15 false (decide_eq_false (show ¬ (src > 15) by omega))) (kn_cons (kn_lss 2 (-2147483648) false (decide_eq_false (show ¬ (imm < (-2147483648)) by omega))) (kn_cons (kn_gtr 2 2147483647 false (decide_eq_false (show ¬ (imm > 2147483647) by omega))) (kn_nil (m5 dst src imm size cond))))))))
  by_cases h0 : src ≠ 0
  · refine (rr_of _ (kn_cons (kn_neq 1 0 true (decide_eq_true (h0))) base) 25 false ⟨⟨[]⟩⟩ false (by kernel_rfl) w).mono ?_
    rintro e w' ⟨rfl, hb⟩
    exact ⟨ret_rp_false (by unfold RP lD lS lI lZ lG lC lT; omega), hb⟩
  · by_cases h1 : size ≠ 0
    · refine (rr_of _ (kn_cons (kn_neq 3 0 true (decide_eq_true (h1))) (kn_cons (kn_neq 1 0 false (decide_eq_false (h0))) base)) 25 false ⟨⟨[]⟩⟩ false (by kernel_rfl) w).mono ?_
      rintro e w' ⟨rfl, hb⟩
      exact ⟨ret_rp_false (by unfold RP lD lS lI lZ lG lC lT; omega), hb⟩
    · by_cases h2 : cond ≠ 0
      · refine (rr_of _ (kn_cons (kn_neq 4 0 true (decide_eq_true (h2))) (kn_cons (kn_neq 3 0 false (decide_eq_false (h1))) (kn_cons (kn_neq 1 0 false (decide_eq_false (h0))) base))) 25 false ⟨⟨[]⟩⟩ false (by kernel_rfl) w).mono ?_
        rintro e w' ⟨rfl, hb⟩
        exact ⟨ret_rp_false (by unfold RP lD lS lI lZ lG lC lT; omega), hb⟩
      · by_cases h3 : imm ≥ 0
        · by_cases h4 : imm ≤ 63
          · refine (rr_of _ (kn_cons (kn_leq 2 63 true (decide_eq_true (h4))) (kn_cons (kn_geq 2 0 true (decide_eq_true (h3))) (kn_cons (kn_neq 4 0 false (decide_eq_false (h2))) (kn_cons (kn_neq 3 0 false (decide_eq_false (h1))) (kn_cons (kn_neq 1 0 false (decide_eq_false (h0))) base))))) 25 false ⟨⟨[]⟩⟩ true (by kernel_rfl) w).mono ?_
            rintro e w' ⟨rfl, hb⟩
            exact ⟨ret_rp_true (by unfold RP lD lS lI lZ lG lC lT; omega), hb⟩
          · refine (rr_of _ (kn_cons (kn_leq 2 63 false (decide_eq_false (h4))) (kn_cons (kn_geq 2 0 true (decide_eq_true (h3))) (kn_cons (kn_neq 4 0 false (decide_eq_false (h2))) (kn_cons (kn_neq 3 0 false (decide_eq_false (h1))) (kn_cons (kn_neq 1 0 false (decide_eq_false (h0))) base))))) 25 false ⟨⟨[]⟩⟩ false (by kernel_rfl) w).mono ?_
            rintro e w' ⟨rfl, hb⟩
            exact ⟨ret_rp_false (by unfold RP lD lS lI lZ lG lC lT; omega), hb⟩
        · refine (rr_of _ (kn_cons (kn_geq 2 0 false (decide_eq_false (h3))) (kn_cons (kn_neq 4 0 false (decide_eq_false (h2))) (kn_cons (kn_neq 3 0 false (decide_eq_false (h1))) (kn_cons (kn_neq 1 0 false (decide_eq_false (h0))) base)))) 25 false ⟨⟨[]⟩⟩ false (by kernel_rfl) w).mono ?_
          rintro e w' ⟨rfl, hb⟩
          exact ⟨ret_rp_false (by unfold RP lD lS lI lZ lG lC lT; omega), hb⟩
theorem rr_25_10 (dst src imm size cond : Int) (b : UInt8) (bs : List UInt8) (w : World) (d1 : 0 ≤ dst) (d2 : dst ≤ 15) (s1 : 0 ≤ src) (s2 : src ≤ 15) (i1 : -2147483648 ≤ imm) (i2 : imm ≤ 2147483647) :
    Calls Try.prog 14 #[.agg #[.int .i64 25, .int .i64 dst, .int .i64 src, .int .i64 imm, .int .i64 size, .bool true, .int .i64 cond, .string ⟨⟨b :: bs⟩⟩]] w fun en w' => RightIs (RP 25 dst src imm size 1 cond 0) en ∧ Below w.heap.size w w' := by
  have base := (kn_cons (kn_lss 0 0 false (decide_eq_false (show ¬ (dst < 0) by omega))) (kn_cons (kn_gtr 0 15 false (decide_eq_false (show ¬ (dst > 15) by omega))) (kn_cons (kn_lss 1 0 false (decide_eq_false (show ¬ (src < 0) by omega))) (kn_cons (kn_gtr 1 15 false (decide_eq_false (show ¬ (src > 15) by omega))) (kn_cons (kn_lss 2 (-2147483648) false (decide_eq_false (show ¬ (imm < (-2147483648)) by omega))) (kn_cons (kn_gtr 2 2147483647 false (decide_eq_false (show ¬ (imm > 2147483647) by omega))) (kn_nil (m5 dst src imm size cond))))))))
  by_cases h0 : src ≠ 0
  · refine (rr_of _ (kn_cons (kn_neq 1 0 true (decide_eq_true (h0))) base) 25 true ⟨⟨b :: bs⟩⟩ false (by kernel_rfl) w).mono ?_
    rintro e w' ⟨rfl, hb⟩
    exact ⟨ret_rp_false (by unfold RP lD lS lI lZ lG lC lT; omega), hb⟩
  · by_cases h1 : size ≠ 0
    · refine (rr_of _ (kn_cons (kn_neq 3 0 true (decide_eq_true (h1))) (kn_cons (kn_neq 1 0 false (decide_eq_false (h0))) base)) 25 true ⟨⟨b :: bs⟩⟩ false (by kernel_rfl) w).mono ?_
      rintro e w' ⟨rfl, hb⟩
      exact ⟨ret_rp_false (by unfold RP lD lS lI lZ lG lC lT; omega), hb⟩
    · refine (rr_of _ (kn_cons (kn_neq 3 0 false (decide_eq_false (h1))) (kn_cons (kn_neq 1 0 false (decide_eq_false (h0))) base)) 25 true ⟨⟨b :: bs⟩⟩ false (by kernel_rfl) w).mono ?_
      rintro e w' ⟨rfl, hb⟩
      exact ⟨ret_rp_false (by unfold RP lD lS lI lZ lG lC lT; omega), hb⟩
theorem rr_25_11 (dst src imm size cond : Int) (w : World) (d1 : 0 ≤ dst) (d2 : dst ≤ 15) (s1 : 0 ≤ src) (s2 : src ≤ 15) (i1 : -2147483648 ≤ imm) (i2 : imm ≤ 2147483647) :
    Calls Try.prog 14 #[.agg #[.int .i64 25, .int .i64 dst, .int .i64 src, .int .i64 imm, .int .i64 size, .bool true, .int .i64 cond, .string ⟨⟨[]⟩⟩]] w fun en w' => RightIs (RP 25 dst src imm size 1 cond 1) en ∧ Below w.heap.size w w' := by
  have base := (kn_cons (kn_lss 0 0 false (decide_eq_false (show ¬ (dst < 0) by omega))) (kn_cons (kn_gtr 0 15 false (decide_eq_false (show ¬ (dst > 15) by omega))) (kn_cons (kn_lss 1 0 false (decide_eq_false (show ¬ (src < 0) by omega))) (kn_cons (kn_gtr 1 15 false (decide_eq_false (show ¬ (src > 15) by omega))) (kn_cons (kn_lss 2 (-2147483648) false (decide_eq_false (show ¬ (imm < (-2147483648)) by omega))) (kn_cons (kn_gtr 2 2147483647 false (decide_eq_false (show ¬ (imm > 2147483647) by omega))) (kn_nil (m5 dst src imm size cond))))))))
  by_cases h0 : src ≠ 0
  · refine (rr_of _ (kn_cons (kn_neq 1 0 true (decide_eq_true (h0))) base) 25 true ⟨⟨[]⟩⟩ false (by kernel_rfl) w).mono ?_
    rintro e w' ⟨rfl, hb⟩
    exact ⟨ret_rp_false (by unfold RP lD lS lI lZ lG lC lT; omega), hb⟩
  · by_cases h1 : size ≠ 0
    · refine (rr_of _ (kn_cons (kn_neq 3 0 true (decide_eq_true (h1))) (kn_cons (kn_neq 1 0 false (decide_eq_false (h0))) base)) 25 true ⟨⟨[]⟩⟩ false (by kernel_rfl) w).mono ?_
      rintro e w' ⟨rfl, hb⟩
      exact ⟨ret_rp_false (by unfold RP lD lS lI lZ lG lC lT; omega), hb⟩
    · refine (rr_of _ (kn_cons (kn_neq 3 0 false (decide_eq_false (h1))) (kn_cons (kn_neq 1 0 false (decide_eq_false (h0))) base)) 25 true ⟨⟨[]⟩⟩ false (by kernel_rfl) w).mono ?_
      rintro e w' ⟨rfl, hb⟩
      exact ⟨ret_rp_false (by unfold RP lD lS lI lZ lG lC lT; omega), hb⟩
theorem rr_28_00 (dst src imm size cond : Int) (b : UInt8) (bs : List UInt8) (w : World) (d1 : 0 ≤ dst) (d2 : dst ≤ 15) (s1 : 0 ≤ src) (s2 : src ≤ 15) (i1 : -2147483648 ≤ imm) (i2 : imm ≤ 2147483647) :
    Calls Try.prog 14 #[.agg #[.int .i64 28, .int .i64 dst, .int .i64 src, .int .i64 imm, .int .i64 size, .bool false, .int .i64 cond, .string ⟨⟨b :: bs⟩⟩]] w fun en w' => RightIs (RP 28 dst src imm size 0 cond 0) en ∧ Below w.heap.size w w' := by
  have base := (kn_cons (kn_lss 0 0 false (decide_eq_false (show ¬ (dst < 0) by omega))) (kn_cons (kn_gtr 0 15 false (decide_eq_false (show ¬ (dst > 15) by omega))) (kn_cons (kn_lss 1 0 false (decide_eq_false (show ¬ (src < 0) by omega))) (kn_cons (kn_gtr 1 15 false (decide_eq_false (show ¬ (src > 15) by omega))) (kn_cons (kn_lss 2 (-2147483648) false (decide_eq_false (show ¬ (imm < (-2147483648)) by omega))) (kn_cons (kn_gtr 2 2147483647 false (decide_eq_false (show ¬ (imm > 2147483647) by omega))) (kn_nil (m5 dst src imm size cond))))))))
  by_cases h0 : src ≠ 0
  · refine (rr_of _ (kn_cons (kn_neq 1 0 true (decide_eq_true (h0))) base) 28 false ⟨⟨b :: bs⟩⟩ false (by kernel_rfl) w).mono ?_
    rintro e w' ⟨rfl, hb⟩
    exact ⟨ret_rp_false (by unfold RP lD lS lI lZ lG lC lT; omega), hb⟩
  · by_cases h1 : imm ≠ 0
    · refine (rr_of _ (kn_cons (kn_neq 2 0 true (decide_eq_true (h1))) (kn_cons (kn_neq 1 0 false (decide_eq_false (h0))) base)) 28 false ⟨⟨b :: bs⟩⟩ false (by kernel_rfl) w).mono ?_
      rintro e w' ⟨rfl, hb⟩
      exact ⟨ret_rp_false (by unfold RP lD lS lI lZ lG lC lT; omega), hb⟩
    · by_cases h2 : size ≠ 0
      · refine (rr_of _ (kn_cons (kn_neq 3 0 true (decide_eq_true (h2))) (kn_cons (kn_neq 2 0 false (decide_eq_false (h1))) (kn_cons (kn_neq 1 0 false (decide_eq_false (h0))) base))) 28 false ⟨⟨b :: bs⟩⟩ false (by kernel_rfl) w).mono ?_
        rintro e w' ⟨rfl, hb⟩
        exact ⟨ret_rp_false (by unfold RP lD lS lI lZ lG lC lT; omega), hb⟩
      · by_cases h3 : cond ≠ 0
        · refine (rr_of _ (kn_cons (kn_neq 4 0 true (decide_eq_true (h3))) (kn_cons (kn_neq 3 0 false (decide_eq_false (h2))) (kn_cons (kn_neq 2 0 false (decide_eq_false (h1))) (kn_cons (kn_neq 1 0 false (decide_eq_false (h0))) base)))) 28 false ⟨⟨b :: bs⟩⟩ false (by kernel_rfl) w).mono ?_
          rintro e w' ⟨rfl, hb⟩
          exact ⟨ret_rp_false (by unfold RP lD lS lI lZ lG lC lT; omega), hb⟩
        · refine (rr_of _ (kn_cons (kn_neq 4 0 false (decide_eq_false (h3))) (kn_cons (kn_neq 3 0 false (decide_eq_false (h2))) (kn_cons (kn_neq 2 0 false (decide_eq_false (h1))) (kn_cons (kn_neq 1 0 false (decide_eq_false (h0))) base)))) 28 false ⟨⟨b :: bs⟩⟩ false (by kernel_rfl) w).mono ?_
          rintro e w' ⟨rfl, hb⟩
          exact ⟨ret_rp_false (by unfold RP lD lS lI lZ lG lC lT; omega), hb⟩
theorem rr_28_01 (dst src imm size cond : Int) (w : World) (d1 : 0 ≤ dst) (d2 : dst ≤ 15) (s1 : 0 ≤ src) (s2 : src ≤ 15) (i1 : -2147483648 ≤ imm) (i2 : imm ≤ 2147483647) :
    Calls Try.prog 14 #[.agg #[.int .i64 28, .int .i64 dst, .int .i64 src, .int .i64 imm, .int .i64 size, .bool false, .int .i64 cond, .string ⟨⟨[]⟩⟩]] w fun en w' => RightIs (RP 28 dst src imm size 0 cond 1) en ∧ Below w.heap.size w w' := by
  have base := (kn_cons (kn_lss 0 0 false (decide_eq_false (show ¬ (dst < 0) by omega))) (kn_cons (kn_gtr 0 15 false (decide_eq_false (show ¬ (dst > 15) by omega))) (kn_cons (kn_lss 1 0 false (decide_eq_false (show ¬ (src < 0) by omega))) (kn_cons (kn_gtr 1 15 false (decide_eq_false (show ¬ (src > 15) by omega))) (kn_cons (kn_lss 2 (-2147483648) false (decide_eq_false (show ¬ (imm < (-2147483648)) by omega))) (kn_cons (kn_gtr 2 2147483647 false (decide_eq_false (show ¬ (imm > 2147483647) by omega))) (kn_nil (m5 dst src imm size cond))))))))
  by_cases h0 : src ≠ 0
  · refine (rr_of _ (kn_cons (kn_neq 1 0 true (decide_eq_true (h0))) base) 28 false ⟨⟨[]⟩⟩ false (by kernel_rfl) w).mono ?_
    rintro e w' ⟨rfl, hb⟩
    exact ⟨ret_rp_false (by unfold RP lD lS lI lZ lG lC lT; omega), hb⟩
  · by_cases h1 : imm ≠ 0
    · refine (rr_of _ (kn_cons (kn_neq 2 0 true (decide_eq_true (h1))) (kn_cons (kn_neq 1 0 false (decide_eq_false (h0))) base)) 28 false ⟨⟨[]⟩⟩ false (by kernel_rfl) w).mono ?_
      rintro e w' ⟨rfl, hb⟩
      exact ⟨ret_rp_false (by unfold RP lD lS lI lZ lG lC lT; omega), hb⟩
    · by_cases h2 : size ≠ 0
      · refine (rr_of _ (kn_cons (kn_neq 3 0 true (decide_eq_true (h2))) (kn_cons (kn_neq 2 0 false (decide_eq_false (h1))) (kn_cons (kn_neq 1 0 false (decide_eq_false (h0))) base))) 28 false ⟨⟨[]⟩⟩ false (by kernel_rfl) w).mono ?_
        rintro e w' ⟨rfl, hb⟩
        exact ⟨ret_rp_false (by unfold RP lD lS lI lZ lG lC lT; omega), hb⟩
      · by_cases h3 : cond ≠ 0
        · refine (rr_of _ (kn_cons (kn_neq 4 0 true (decide_eq_true (h3))) (kn_cons (kn_neq 3 0 false (decide_eq_false (h2))) (kn_cons (kn_neq 2 0 false (decide_eq_false (h1))) (kn_cons (kn_neq 1 0 false (decide_eq_false (h0))) base)))) 28 false ⟨⟨[]⟩⟩ false (by kernel_rfl) w).mono ?_
          rintro e w' ⟨rfl, hb⟩
          exact ⟨ret_rp_false (by unfold RP lD lS lI lZ lG lC lT; omega), hb⟩
        · refine (rr_of _ (kn_cons (kn_neq 4 0 false (decide_eq_false (h3))) (kn_cons (kn_neq 3 0 false (decide_eq_false (h2))) (kn_cons (kn_neq 2 0 false (decide_eq_false (h1))) (kn_cons (kn_neq 1 0 false (decide_eq_false (h0))) base)))) 28 false ⟨⟨[]⟩⟩ true (by kernel_rfl) w).mono ?_
          rintro e w' ⟨rfl, hb⟩
          exact ⟨ret_rp_true (by unfold RP lD lS lI lZ lG lC lT; omega), hb⟩
theorem rr_28_10 (dst src imm size cond : Int) (b : UInt8) (bs : List UInt8) (w : World) (d1 : 0 ≤ dst) (d2 : dst ≤ 15) (s1 : 0 ≤ src) (s2 : src ≤ 15) (i1 : -2147483648 ≤ imm) (i2 : imm ≤ 2147483647) :
    Calls Try.prog 14 #[.agg #[.int .i64 28, .int .i64 dst, .int .i64 src, .int .i64 imm, .int .i64 size, .bool true, .int .i64 cond, .string ⟨⟨b :: bs⟩⟩]] w fun en w' => RightIs (RP 28 dst src imm size 1 cond 0) en ∧ Below w.heap.size w w' := by
  have base := (kn_cons (kn_lss 0 0 false (decide_eq_false (show ¬ (dst < 0) by omega))) (kn_cons (kn_gtr 0 15 false (decide_eq_false (show ¬ (dst > 15) by omega))) (kn_cons (kn_lss 1 0 false (decide_eq_false (show ¬ (src < 0) by omega))) (kn_cons (kn_gtr 1 15 false (decide_eq_false (show ¬ (src > 15) by omega))) (kn_cons (kn_lss 2 (-2147483648) false (decide_eq_false (show ¬ (imm < (-2147483648)) by omega))) (kn_cons (kn_gtr 2 2147483647 false (decide_eq_false (show ¬ (imm > 2147483647) by omega))) (kn_nil (m5 dst src imm size cond))))))))
  by_cases h0 : src ≠ 0
  · refine (rr_of _ (kn_cons (kn_neq 1 0 true (decide_eq_true (h0))) base) 28 true ⟨⟨b :: bs⟩⟩ false (by kernel_rfl) w).mono ?_
    rintro e w' ⟨rfl, hb⟩
    exact ⟨ret_rp_false (by unfold RP lD lS lI lZ lG lC lT; omega), hb⟩
  · by_cases h1 : imm ≠ 0
    · refine (rr_of _ (kn_cons (kn_neq 2 0 true (decide_eq_true (h1))) (kn_cons (kn_neq 1 0 false (decide_eq_false (h0))) base)) 28 true ⟨⟨b :: bs⟩⟩ false (by kernel_rfl) w).mono ?_
      rintro e w' ⟨rfl, hb⟩
      exact ⟨ret_rp_false (by unfold RP lD lS lI lZ lG lC lT; omega), hb⟩
    · by_cases h2 : size ≠ 0
      · refine (rr_of _ (kn_cons (kn_neq 3 0 true (decide_eq_true (h2))) (kn_cons (kn_neq 2 0 false (decide_eq_false (h1))) (kn_cons (kn_neq 1 0 false (decide_eq_false (h0))) base))) 28 true ⟨⟨b :: bs⟩⟩ false (by kernel_rfl) w).mono ?_
        rintro e w' ⟨rfl, hb⟩
        exact ⟨ret_rp_false (by unfold RP lD lS lI lZ lG lC lT; omega), hb⟩
      · refine (rr_of _ (kn_cons (kn_neq 3 0 false (decide_eq_false (h2))) (kn_cons (kn_neq 2 0 false (decide_eq_false (h1))) (kn_cons (kn_neq 1 0 false (decide_eq_false (h0))) base))) 28 true ⟨⟨b :: bs⟩⟩ false (by kernel_rfl) w).mono ?_
        rintro e w' ⟨rfl, hb⟩
        exact ⟨ret_rp_false (by unfold RP lD lS lI lZ lG lC lT; omega), hb⟩
theorem rr_28_11 (dst src imm size cond : Int) (w : World) (d1 : 0 ≤ dst) (d2 : dst ≤ 15) (s1 : 0 ≤ src) (s2 : src ≤ 15) (i1 : -2147483648 ≤ imm) (i2 : imm ≤ 2147483647) :
    Calls Try.prog 14 #[.agg #[.int .i64 28, .int .i64 dst, .int .i64 src, .int .i64 imm, .int .i64 size, .bool true, .int .i64 cond, .string ⟨⟨[]⟩⟩]] w fun en w' => RightIs (RP 28 dst src imm size 1 cond 1) en ∧ Below w.heap.size w w' := by
  have base := (kn_cons (kn_lss 0 0 false (decide_eq_false (show ¬ (dst < 0) by omega))) (kn_cons (kn_gtr 0 15 false (decide_eq_false (show ¬ (dst > 15) by omega))) (kn_cons (kn_lss 1 0 false (decide_eq_false (show ¬ (src < 0) by omega))) (kn_cons (kn_gtr 1 15 false (decide_eq_false (show ¬ (src > 15) by omega))) (kn_cons (kn_lss 2 (-2147483648) false (decide_eq_false (show ¬ (imm < (-2147483648)) by omega))) (kn_cons (kn_gtr 2 2147483647 false (decide_eq_false (show ¬ (imm > 2147483647) by omega))) (kn_nil (m5 dst src imm size cond))))))))
  by_cases h0 : src ≠ 0
  · refine (rr_of _ (kn_cons (kn_neq 1 0 true (decide_eq_true (h0))) base) 28 true ⟨⟨[]⟩⟩ false (by kernel_rfl) w).mono ?_
    rintro e w' ⟨rfl, hb⟩
    exact ⟨ret_rp_false (by unfold RP lD lS lI lZ lG lC lT; omega), hb⟩
  · by_cases h1 : imm ≠ 0
    · refine (rr_of _ (kn_cons (kn_neq 2 0 true (decide_eq_true (h1))) (kn_cons (kn_neq 1 0 false (decide_eq_false (h0))) base)) 28 true ⟨⟨[]⟩⟩ false (by kernel_rfl) w).mono ?_
      rintro e w' ⟨rfl, hb⟩
      exact ⟨ret_rp_false (by unfold RP lD lS lI lZ lG lC lT; omega), hb⟩
    · by_cases h2 : size ≠ 0
      · refine (rr_of _ (kn_cons (kn_neq 3 0 true (decide_eq_true (h2))) (kn_cons (kn_neq 2 0 false (decide_eq_false (h1))) (kn_cons (kn_neq 1 0 false (decide_eq_false (h0))) base))) 28 true ⟨⟨[]⟩⟩ false (by kernel_rfl) w).mono ?_
        rintro e w' ⟨rfl, hb⟩
        exact ⟨ret_rp_false (by unfold RP lD lS lI lZ lG lC lT; omega), hb⟩
      · refine (rr_of _ (kn_cons (kn_neq 3 0 false (decide_eq_false (h2))) (kn_cons (kn_neq 2 0 false (decide_eq_false (h1))) (kn_cons (kn_neq 1 0 false (decide_eq_false (h0))) base))) 28 true ⟨⟨[]⟩⟩ false (by kernel_rfl) w).mono ?_
        rintro e w' ⟨rfl, hb⟩
        exact ⟨ret_rp_false (by unfold RP lD lS lI lZ lG lC lT; omega), hb⟩
theorem rr_38_00 (dst src imm size cond : Int) (b : UInt8) (bs : List UInt8) (w : World) (d1 : 0 ≤ dst) (d2 : dst ≤ 15) (s1 : 0 ≤ src) (s2 : src ≤ 15) (i1 : -2147483648 ≤ imm) (i2 : imm ≤ 2147483647) :
    Calls Try.prog 14 #[.agg #[.int .i64 38, .int .i64 dst, .int .i64 src, .int .i64 imm, .int .i64 size, .bool false, .int .i64 cond, .string ⟨⟨b :: bs⟩⟩]] w fun en w' => RightIs (RP 38 dst src imm size 0 cond 0) en ∧ Below w.heap.size w w' := by
  have base := (kn_cons (kn_lss 0 0 false (decide_eq_false (show ¬ (dst < 0) by omega))) (kn_cons (kn_gtr 0 15 false (decide_eq_false (show ¬ (dst > 15) by omega))) (kn_cons (kn_lss 1 0 false (decide_eq_false (show ¬ (src < 0) by omega))) (kn_cons (kn_gtr 1 15 false (decide_eq_false (show ¬ (src > 15) by omega))) (kn_cons (kn_lss 2 (-2147483648) false (decide_eq_false (show ¬ (imm < (-2147483648)) by omega))) (kn_cons (kn_gtr 2 2147483647 false (decide_eq_false (show ¬ (imm > 2147483647) by omega))) (kn_nil (m5 dst src imm size cond))))))))
  by_cases h0 : dst ≠ 0
  · refine (rr_of _ (kn_cons (kn_neq 0 0 true (decide_eq_true (h0))) base) 38 false ⟨⟨b :: bs⟩⟩ false (by kernel_rfl) w).mono ?_
    rintro e w' ⟨rfl, hb⟩
    exact ⟨ret_rp_false (by unfold RP lD lS lI lZ lG lC lT; omega), hb⟩
  · by_cases h1 : src ≠ 0
    · refine (rr_of _ (kn_cons (kn_neq 1 0 true (decide_eq_true (h1))) (kn_cons (kn_neq 0 0 false (decide_eq_false (h0))) base)) 38 false ⟨⟨b :: bs⟩⟩ false (by kernel_rfl) w).mono ?_
      rintro e w' ⟨rfl, hb⟩
      exact ⟨ret_rp_false (by unfold RP lD lS lI lZ lG lC lT; omega), hb⟩
    · by_cases h2 : imm ≠ 0
      · refine (rr_of _ (kn_cons (kn_neq 2 0 true (decide_eq_true (h2))) (kn_cons (kn_neq 1 0 false (decide_eq_false (h1))) (kn_cons (kn_neq 0 0 false (decide_eq_false (h0))) base))) 38 false ⟨⟨b :: bs⟩⟩ false (by kernel_rfl) w).mono ?_
        rintro e w' ⟨rfl, hb⟩
        exact ⟨ret_rp_false (by unfold RP lD lS lI lZ lG lC lT; omega), hb⟩
      · by_cases h3 : size ≠ 0
        · refine (rr_of _ (kn_cons (kn_neq 3 0 true (decide_eq_true (h3))) (kn_cons (kn_neq 2 0 false (decide_eq_false (h2))) (kn_cons (kn_neq 1 0 false (decide_eq_false (h1))) (kn_cons (kn_neq 0 0 false (decide_eq_false (h0))) base)))) 38 false ⟨⟨b :: bs⟩⟩ false (by kernel_rfl) w).mono ?_
          rintro e w' ⟨rfl, hb⟩
          exact ⟨ret_rp_false (by unfold RP lD lS lI lZ lG lC lT; omega), hb⟩
        · by_cases h4 : cond ≠ 0
          · refine (rr_of _ (kn_cons (kn_neq 4 0 true (decide_eq_true (h4))) (kn_cons (kn_neq 3 0 false (decide_eq_false (h3))) (kn_cons (kn_neq 2 0 false (decide_eq_false (h2))) (kn_cons (kn_neq 1 0 false (decide_eq_false (h1))) (kn_cons (kn_neq 0 0 false (decide_eq_false (h0))) base))))) 38 false ⟨⟨b :: bs⟩⟩ false (by kernel_rfl) w).mono ?_
            rintro e w' ⟨rfl, hb⟩
            exact ⟨ret_rp_false (by unfold RP lD lS lI lZ lG lC lT; omega), hb⟩
          · refine (rr_of _ (kn_cons (kn_neq 4 0 false (decide_eq_false (h4))) (kn_cons (kn_neq 3 0 false (decide_eq_false (h3))) (kn_cons (kn_neq 2 0 false (decide_eq_false (h2))) (kn_cons (kn_neq 1 0 false (decide_eq_false (h1))) (kn_cons (kn_neq 0 0 false (decide_eq_false (h0))) base))))) 38 false ⟨⟨b :: bs⟩⟩ false (by kernel_rfl) w).mono ?_
            rintro e w' ⟨rfl, hb⟩
            exact ⟨ret_rp_false (by unfold RP lD lS lI lZ lG lC lT; omega), hb⟩
theorem rr_38_01 (dst src imm size cond : Int) (w : World) (d1 : 0 ≤ dst) (d2 : dst ≤ 15) (s1 : 0 ≤ src) (s2 : src ≤ 15) (i1 : -2147483648 ≤ imm) (i2 : imm ≤ 2147483647) :
    Calls Try.prog 14 #[.agg #[.int .i64 38, .int .i64 dst, .int .i64 src, .int .i64 imm, .int .i64 size, .bool false, .int .i64 cond, .string ⟨⟨[]⟩⟩]] w fun en w' => RightIs (RP 38 dst src imm size 0 cond 1) en ∧ Below w.heap.size w w' := by
  have base := (kn_cons (kn_lss 0 0 false (decide_eq_false (show ¬ (dst < 0) by omega))) (kn_cons (kn_gtr 0 15 false (decide_eq_false (show ¬ (dst > 15) by omega))) (kn_cons (kn_lss 1 0 false (decide_eq_false (show ¬ (src < 0) by omega))) (kn_cons (kn_gtr 1 15 false (decide_eq_false (show ¬ (src > 15) by omega))) (kn_cons (kn_lss 2 (-2147483648) false (decide_eq_false (show ¬ (imm < (-2147483648)) by omega))) (kn_cons (kn_gtr 2 2147483647 false (decide_eq_false (show ¬ (imm > 2147483647) by omega))) (kn_nil (m5 dst src imm size cond))))))))
  by_cases h0 : dst ≠ 0
  · refine (rr_of _ (kn_cons (kn_neq 0 0 true (decide_eq_true (h0))) base) 38 false ⟨⟨[]⟩⟩ false (by kernel_rfl) w).mono ?_
    rintro e w' ⟨rfl, hb⟩
    exact ⟨ret_rp_false (by unfold RP lD lS lI lZ lG lC lT; omega), hb⟩
  · by_cases h1 : src ≠ 0
    · refine (rr_of _ (kn_cons (kn_neq 1 0 true (decide_eq_true (h1))) (kn_cons (kn_neq 0 0 false (decide_eq_false (h0))) base)) 38 false ⟨⟨[]⟩⟩ false (by kernel_rfl) w).mono ?_
      rintro e w' ⟨rfl, hb⟩
      exact ⟨ret_rp_false (by unfold RP lD lS lI lZ lG lC lT; omega), hb⟩
    · by_cases h2 : imm ≠ 0
      · refine (rr_of _ (kn_cons (kn_neq 2 0 true (decide_eq_true (h2))) (kn_cons (kn_neq 1 0 false (decide_eq_false (h1))) (kn_cons (kn_neq 0 0 false (decide_eq_false (h0))) base))) 38 false ⟨⟨[]⟩⟩ false (by kernel_rfl) w).mono ?_
        rintro e w' ⟨rfl, hb⟩
        exact ⟨ret_rp_false (by unfold RP lD lS lI lZ lG lC lT; omega), hb⟩
      · by_cases h3 : size ≠ 0
        · refine (rr_of _ (kn_cons (kn_neq 3 0 true (decide_eq_true (h3))) (kn_cons (kn_neq 2 0 false (decide_eq_false (h2))) (kn_cons (kn_neq 1 0 false (decide_eq_false (h1))) (kn_cons (kn_neq 0 0 false (decide_eq_false (h0))) base)))) 38 false ⟨⟨[]⟩⟩ false (by kernel_rfl) w).mono ?_
          rintro e w' ⟨rfl, hb⟩
          exact ⟨ret_rp_false (by unfold RP lD lS lI lZ lG lC lT; omega), hb⟩
        · by_cases h4 : cond ≠ 0
          · refine (rr_of _ (kn_cons (kn_neq 4 0 true (decide_eq_true (h4))) (kn_cons (kn_neq 3 0 false (decide_eq_false (h3))) (kn_cons (kn_neq 2 0 false (decide_eq_false (h2))) (kn_cons (kn_neq 1 0 false (decide_eq_false (h1))) (kn_cons (kn_neq 0 0 false (decide_eq_false (h0))) base))))) 38 false ⟨⟨[]⟩⟩ false (by kernel_rfl) w).mono ?_
            rintro e w' ⟨rfl, hb⟩
            exact ⟨ret_rp_false (by unfold RP lD lS lI lZ lG lC lT; omega), hb⟩
          · refine (rr_of _ (kn_cons (kn_neq 4 0 false (decide_eq_false (h4))) (kn_cons (kn_neq 3 0 false (decide_eq_false (h3))) (kn_cons (kn_neq 2 0 false (decide_eq_false (h2))) (kn_cons (kn_neq 1 0 false (decide_eq_false (h1))) (kn_cons (kn_neq 0 0 false (decide_eq_false (h0))) base))))) 38 false ⟨⟨[]⟩⟩ true (by kernel_rfl) w).mono ?_
            rintro e w' ⟨rfl, hb⟩
            exact ⟨ret_rp_true (by unfold RP lD lS lI lZ lG lC lT; omega), hb⟩
theorem rr_38_10 (dst src imm size cond : Int) (b : UInt8) (bs : List UInt8) (w : World) (d1 : 0 ≤ dst) (d2 : dst ≤ 15) (s1 : 0 ≤ src) (s2 : src ≤ 15) (i1 : -2147483648 ≤ imm) (i2 : imm ≤ 2147483647) :
    Calls Try.prog 14 #[.agg #[.int .i64 38, .int .i64 dst, .int .i64 src, .int .i64 imm, .int .i64 size, .bool true, .int .i64 cond, .string ⟨⟨b :: bs⟩⟩]] w fun en w' => RightIs (RP 38 dst src imm size 1 cond 0) en ∧ Below w.heap.size w w' := by
  have base := (kn_cons (kn_lss 0 0 false (decide_eq_false (show ¬ (dst < 0) by omega))) (kn_cons (kn_gtr 0 15 false (decide_eq_false (show ¬ (dst > 15) by omega))) (kn_cons (kn_lss 1 0 false (decide_eq_false (show ¬ (src < 0) by omega))) (kn_cons (kn_gtr 1 15 false (decide_eq_false (show ¬ (src > 15) by omega))) (kn_cons (kn_lss 2 (-2147483648) false (decide_eq_false (show ¬ (imm < (-2147483648)) by omega))) (kn_cons (kn_gtr 2 2147483647 false (decide_eq_false (show ¬ (imm > 2147483647) by omega))) (kn_nil (m5 dst src imm size cond))))))))
  by_cases h0 : dst ≠ 0
  · refine (rr_of _ (kn_cons (kn_neq 0 0 true (decide_eq_true (h0))) base) 38 true ⟨⟨b :: bs⟩⟩ false (by kernel_rfl) w).mono ?_
    rintro e w' ⟨rfl, hb⟩
    exact ⟨ret_rp_false (by unfold RP lD lS lI lZ lG lC lT; omega), hb⟩
  · by_cases h1 : src ≠ 0
    · refine (rr_of _ (kn_cons (kn_neq 1 0 true (decide_eq_true (h1))) (kn_cons (kn_neq 0 0 false (decide_eq_false (h0))) base)) 38 true ⟨⟨b :: bs⟩⟩ false (by kernel_rfl) w).mono ?_
      rintro e w' ⟨rfl, hb⟩
      exact ⟨ret_rp_false (by unfold RP lD lS lI lZ lG lC lT; omega), hb⟩
    · by_cases h2 : imm ≠ 0
      · refine (rr_of _ (kn_cons (kn_neq 2 0 true (decide_eq_true (h2))) (kn_cons (kn_neq 1 0 false (decide_eq_false (h1))) (kn_cons (kn_neq 0 0 false (decide_eq_false (h0))) base))) 38 true ⟨⟨b :: bs⟩⟩ false (by kernel_rfl) w).mono ?_
        rintro e w' ⟨rfl, hb⟩
        exact ⟨ret_rp_false (by unfold RP lD lS lI lZ lG lC lT; omega), hb⟩
      · by_cases h3 : size ≠ 0
        · refine (rr_of _ (kn_cons (kn_neq 3 0 true (decide_eq_true (h3))) (kn_cons (kn_neq 2 0 false (decide_eq_false (h2))) (kn_cons (kn_neq 1 0 false (decide_eq_false (h1))) (kn_cons (kn_neq 0 0 false (decide_eq_false (h0))) base)))) 38 true ⟨⟨b :: bs⟩⟩ false (by kernel_rfl) w).mono ?_
          rintro e w' ⟨rfl, hb⟩
          exact ⟨ret_rp_false (by unfold RP lD lS lI lZ lG lC lT; omega), hb⟩
        · refine (rr_of _ (kn_cons (kn_neq 3 0 false (decide_eq_false (h3))) (kn_cons (kn_neq 2 0 false (decide_eq_false (h2))) (kn_cons (kn_neq 1 0 false (decide_eq_false (h1))) (kn_cons (kn_neq 0 0 false (decide_eq_false (h0))) base)))) 38 true ⟨⟨b :: bs⟩⟩ false (by kernel_rfl) w).mono ?_
          rintro e w' ⟨rfl, hb⟩
          exact ⟨ret_rp_false (by unfold RP lD lS lI lZ lG lC lT; omega), hb⟩
theorem rr_38_11 (dst src imm size cond : Int) (w : World) (d1 : 0 ≤ dst) (d2 : dst ≤ 15) (s1 : 0 ≤ src) (s2 : src ≤ 15) (i1 : -2147483648 ≤ imm) (i2 : imm ≤ 2147483647) :
    Calls Try.prog 14 #[.agg #[.int .i64 38, .int .i64 dst, .int .i64 src, .int .i64 imm, .int .i64 size, .bool true, .int .i64 cond, .string ⟨⟨[]⟩⟩]] w fun en w' => RightIs (RP 38 dst src imm size 1 cond 1) en ∧ Below w.heap.size w w' := by
  have base := (kn_cons (kn_lss 0 0 false (decide_eq_false (show ¬ (dst < 0) by omega))) (kn_cons (kn_gtr 0 15 false (decide_eq_false (show ¬ (dst > 15) by omega))) (kn_cons (kn_lss 1 0 false (decide_eq_false (show ¬ (src < 0) by omega))) (kn_cons (kn_gtr 1 15 false (decide_eq_false (show ¬ (src > 15) by omega))) (kn_cons (kn_lss 2 (-2147483648) false (decide_eq_false (show ¬ (imm < (-2147483648)) by omega))) (kn_cons (kn_gtr 2 2147483647 false (decide_eq_false (show ¬ (imm > 2147483647) by omega))) (kn_nil (m5 dst src imm size cond))))))))
  by_cases h0 : dst ≠ 0
  · refine (rr_of _ (kn_cons (kn_neq 0 0 true (decide_eq_true (h0))) base) 38 true ⟨⟨[]⟩⟩ false (by kernel_rfl) w).mono ?_
    rintro e w' ⟨rfl, hb⟩
    exact ⟨ret_rp_false (by unfold RP lD lS lI lZ lG lC lT; omega), hb⟩
  · by_cases h1 : src ≠ 0
    · refine (rr_of _ (kn_cons (kn_neq 1 0 true (decide_eq_true (h1))) (kn_cons (kn_neq 0 0 false (decide_eq_false (h0))) base)) 38 true ⟨⟨[]⟩⟩ false (by kernel_rfl) w).mono ?_
      rintro e w' ⟨rfl, hb⟩
      exact ⟨ret_rp_false (by unfold RP lD lS lI lZ lG lC lT; omega), hb⟩
    · by_cases h2 : imm ≠ 0
      · refine (rr_of _ (kn_cons (kn_neq 2 0 true (decide_eq_true (h2))) (kn_cons (kn_neq 1 0 false (decide_eq_false (h1))) (kn_cons (kn_neq 0 0 false (decide_eq_false (h0))) base))) 38 true ⟨⟨[]⟩⟩ false (by kernel_rfl) w).mono ?_
        rintro e w' ⟨rfl, hb⟩
        exact ⟨ret_rp_false (by unfold RP lD lS lI lZ lG lC lT; omega), hb⟩
      · by_cases h3 : size ≠ 0
        · refine (rr_of _ (kn_cons (kn_neq 3 0 true (decide_eq_true (h3))) (kn_cons (kn_neq 2 0 false (decide_eq_false (h2))) (kn_cons (kn_neq 1 0 false (decide_eq_false (h1))) (kn_cons (kn_neq 0 0 false (decide_eq_false (h0))) base)))) 38 true ⟨⟨[]⟩⟩ false (by kernel_rfl) w).mono ?_
          rintro e w' ⟨rfl, hb⟩
          exact ⟨ret_rp_false (by unfold RP lD lS lI lZ lG lC lT; omega), hb⟩
        · refine (rr_of _ (kn_cons (kn_neq 3 0 false (decide_eq_false (h3))) (kn_cons (kn_neq 2 0 false (decide_eq_false (h2))) (kn_cons (kn_neq 1 0 false (decide_eq_false (h1))) (kn_cons (kn_neq 0 0 false (decide_eq_false (h0))) base)))) 38 true ⟨⟨[]⟩⟩ false (by kernel_rfl) w).mono ?_
          rintro e w' ⟨rfl, hb⟩
          exact ⟨ret_rp_false (by unfold RP lD lS lI lZ lG lC lT; omega), hb⟩
end Go.Proofs.Yteeodbjpmofhhaa
