/- The document's Right, run: operations 11, 19, 23, 24, 35. No condition. -/
import Derived.Test.YteeodbjpmofhhaaRr
namespace Go.Proofs.Yteeodbjpmofhhaa
open Go.RowKit
set_option linter.unusedVariables false
theorem rr_11_00 (dst src imm size cond : Int) (b : UInt8) (bs : List UInt8) (w : World) (d1 : 0 ≤ dst) (d2 : dst ≤ 15) (s1 : 0 ≤ src) (s2 : src ≤ 15) (i1 : -2147483648 ≤ imm) (i2 : imm ≤ 2147483647) :
    Calls Try.prog 14 #[.agg #[.int .i64 11, .int .i64 dst, .int .i64 src, .int .i64 imm, .int .i64 size, .bool false, .int .i64 cond, .string ⟨⟨b :: bs⟩⟩]] w fun en w' => RightIs (RP 11 dst src imm size 0 cond 0) en ∧ Below w.heap.size w w' := by
  have base := (kn_cons (kn_lss 0 0 false (decide_eq_false (show ¬ (dst < 0) by omega))) (kn_cons (kn_gtr 0 15 false (decide_eq_false (show ¬ (dst > 15) by omega))) (kn_cons (kn_lss 1 0 false (decide_eq_false (show ¬ (src < 0) by omega))) (kn_cons (kn_gtr 1 15 false (decide_eq_false (show ¬ (src > 15) by omega))) (kn_cons (kn_lss 2 (-2147483648) false (decide_eq_false (show ¬ (imm < (-2147483648)) by omega))) (kn_cons (kn_gtr 2 2147483647 false (decide_eq_false (show ¬ (imm > 2147483647) by omega))) (kn_nil (m5 dst src imm size cond))))))))
  by_cases h0 : imm ≠ 0
  · refine (rr_of _ (kn_cons (kn_neq 2 0 true (decide_eq_true (h0))) base) 11 false ⟨⟨b :: bs⟩⟩ false (by kernel_rfl) w).mono ?_
    rintro e w' ⟨rfl, hb⟩
    exact ⟨ret_rp_false (by unfold RP lD lS lI lZ lG lC lT; omega), hb⟩
  · by_cases h1 : size ≠ 0
    · refine (rr_of _ (kn_cons (kn_neq 3 0 true (decide_eq_true (h1))) (kn_cons (kn_neq 2 0 false (decide_eq_false (h0))) base)) 11 false ⟨⟨b :: bs⟩⟩ false (by kernel_rfl) w).mono ?_
      rintro e w' ⟨rfl, hb⟩
      exact ⟨ret_rp_false (by unfold RP lD lS lI lZ lG lC lT; omega), hb⟩
    · by_cases h2 : cond ≠ 0
      · refine (rr_of _ (kn_cons (kn_neq 4 0 true (decide_eq_true (h2))) (kn_cons (kn_neq 3 0 false (decide_eq_false (h1))) (kn_cons (kn_neq 2 0 false (decide_eq_false (h0))) base))) 11 false ⟨⟨b :: bs⟩⟩ false (by kernel_rfl) w).mono ?_
        rintro e w' ⟨rfl, hb⟩
        exact ⟨ret_rp_false (by unfold RP lD lS lI lZ lG lC lT; omega), hb⟩
      · refine (rr_of _ (kn_cons (kn_neq 4 0 false (decide_eq_false (h2))) (kn_cons (kn_neq 3 0 false (decide_eq_false (h1))) (kn_cons (kn_neq 2 0 false (decide_eq_false (h0))) base))) 11 false ⟨⟨b :: bs⟩⟩ false (by kernel_rfl) w).mono ?_
        rintro e w' ⟨rfl, hb⟩
        exact ⟨ret_rp_false (by unfold RP lD lS lI lZ lG lC lT; omega), hb⟩
theorem rr_11_01 (dst src imm size cond : Int) (w : World) (d1 : 0 ≤ dst) (d2 : dst ≤ 15) (s1 : 0 ≤ src) (s2 : src ≤ 15) (i1 : -2147483648 ≤ imm) (i2 : imm ≤ 2147483647) :
    Calls Try.prog 14 #[.agg #[.int .i64 11, .int .i64 dst, .int .i64 src, .int .i64 imm, .int .i64 size, .bool false, .int .i64 cond, .string ⟨⟨[]⟩⟩]] w fun en w' => RightIs (RP 11 dst src imm size 0 cond 1) en ∧ Below w.heap.size w w' := by
  have base := (kn_cons (kn_lss 0 0 false (decide_eq_false (show ¬ (dst < 0) by omega))) (kn_cons (kn_gtr 0 15 false (decide_eq_false (show ¬ (dst > 15) by omega))) (kn_cons (kn_lss 1 0 false (decide_eq_false (show ¬ (src < 0) by omega))) (kn_cons (kn_gtr 1 15 false (decide_eq_false (show ¬ (src > 15) by omega))) (kn_cons (kn_lss 2 (-2147483648) false (decide_eq_false (show ¬ (imm < (-2147483648)) by omega))) (kn_cons (kn_gtr 2 2147483647 false (decide_eq_false (show ¬ (imm > 2147483647) by omega))) (kn_nil (m5 dst src imm size cond))))))))
  by_cases h0 : imm ≠ 0
  · refine (rr_of _ (kn_cons (kn_neq 2 0 true (decide_eq_true (h0))) base) 11 false ⟨⟨[]⟩⟩ false (by kernel_rfl) w).mono ?_
    rintro e w' ⟨rfl, hb⟩
    exact ⟨ret_rp_false (by unfold RP lD lS lI lZ lG lC lT; omega), hb⟩
  · by_cases h1 : size ≠ 0
    · refine (rr_of _ (kn_cons (kn_neq 3 0 true (decide_eq_true (h1))) (kn_cons (kn_neq 2 0 false (decide_eq_false (h0))) base)) 11 false ⟨⟨[]⟩⟩ false (by kernel_rfl) w).mono ?_
      rintro e w' ⟨rfl, hb⟩
      exact ⟨ret_rp_false (by unfold RP lD lS lI lZ lG lC lT; omega), hb⟩
    · by_cases h2 : cond ≠ 0
      · refine (rr_of _ (kn_cons (kn_neq 4 0 true (decide_eq_true (h2))) (kn_cons (kn_neq 3 0 false (decide_eq_false (h1))) (kn_cons (kn_neq 2 0 false (decide_eq_false (h0))) base))) 11 false ⟨⟨[]⟩⟩ false (by kernel_rfl) w).mono ?_
        rintro e w' ⟨rfl, hb⟩
        exact ⟨ret_rp_false (by unfold RP lD lS lI lZ lG lC lT; omega), hb⟩
      · refine (rr_of _ (kn_cons (kn_neq 4 0 false (decide_eq_false (h2))) (kn_cons (kn_neq 3 0 false (decide_eq_false (h1))) (kn_cons (kn_neq 2 0 false (decide_eq_false (h0))) base))) 11 false ⟨⟨[]⟩⟩ true (by kernel_rfl) w).mono ?_
        rintro e w' ⟨rfl, hb⟩
        exact ⟨ret_rp_true (by unfold RP lD lS lI lZ lG lC lT; omega), hb⟩
theorem rr_11_10 (dst src imm size cond : Int) (b : UInt8) (bs : List UInt8) (w : World) (d1 : 0 ≤ dst) (d2 : dst ≤ 15) (s1 : 0 ≤ src) (s2 : src ≤ 15) (i1 : -2147483648 ≤ imm) (i2 : imm ≤ 2147483647) :
    Calls Try.prog 14 #[.agg #[.int .i64 11, .int .i64 dst, .int .i64 src, .int .i64 imm, .int .i64 size, .bool true, .int .i64 cond, .string ⟨⟨b :: bs⟩⟩]] w fun en w' => RightIs (RP 11 dst src imm size 1 cond 0) en ∧ Below w.heap.size w w' := by
  have base := (kn_cons (kn_lss 0 0 false (decide_eq_false (show ¬ (dst < 0) by omega))) (kn_cons (kn_gtr 0 15 false (decide_eq_false (show ¬ (dst > 15) by omega))) (kn_cons (kn_lss 1 0 false (decide_eq_false (show ¬ (src < 0) by omega))) (kn_cons (kn_gtr 1 15 false (decide_eq_false (show ¬ (src > 15) by omega))) (kn_cons (kn_lss 2 (-2147483648) false (decide_eq_false (show ¬ (imm < (-2147483648)) by omega))) (kn_cons (kn_gtr 2 2147483647 false (decide_eq_false (show ¬ (imm > 2147483647) by omega))) (kn_nil (m5 dst src imm size cond))))))))
  by_cases h0 : imm ≠ 0
  · refine (rr_of _ (kn_cons (kn_neq 2 0 true (decide_eq_true (h0))) base) 11 true ⟨⟨b :: bs⟩⟩ false (by kernel_rfl) w).mono ?_
    rintro e w' ⟨rfl, hb⟩
    exact ⟨ret_rp_false (by unfold RP lD lS lI lZ lG lC lT; omega), hb⟩
  · by_cases h1 : size ≠ 0
    · refine (rr_of _ (kn_cons (kn_neq 3 0 true (decide_eq_true (h1))) (kn_cons (kn_neq 2 0 false (decide_eq_false (h0))) base)) 11 true ⟨⟨b :: bs⟩⟩ false (by kernel_rfl) w).mono ?_
      rintro e w' ⟨rfl, hb⟩
      exact ⟨ret_rp_false (by unfold RP lD lS lI lZ lG lC lT; omega), hb⟩
    · refine (rr_of _ (kn_cons (kn_neq 3 0 false (decide_eq_false (h1))) (kn_cons (kn_neq 2 0 false (decide_eq_false (h0))) base)) 11 true ⟨⟨b :: bs⟩⟩ false (by kernel_rfl) w).mono ?_
      rintro e w' ⟨rfl, hb⟩
      exact ⟨ret_rp_false (by unfold RP lD lS lI lZ lG lC lT; omega), hb⟩
theorem rr_11_11 (dst src imm size cond : Int) (w : World) (d1 : 0 ≤ dst) (d2 : dst ≤ 15) (s1 : 0 ≤ src) (s2 : src ≤ 15) (i1 : -2147483648 ≤ imm) (i2 : imm ≤ 2147483647) :
    Calls Try.prog 14 #[.agg #[.int .i64 11, .int .i64 dst, .int .i64 src, .int .i64 imm, .int .i64 size, .bool true, .int .i64 cond, .string ⟨⟨[]⟩⟩]] w fun en w' => RightIs (RP 11 dst src imm size 1 cond 1) en ∧ Below w.heap.size w w' := by
  have base := (kn_cons (kn_lss 0 0 false (decide_eq_false (show ¬ (dst < 0) by omega))) (kn_cons (kn_gtr 0 15 false (decide_eq_false (show ¬ (dst > 15) by omega))) (kn_cons (kn_lss 1 0 false (decide_eq_false (show ¬ (src < 0) by omega))) (kn_cons (kn_gtr 1 15 false (decide_eq_false (show ¬ (src > 15) by omega))) (kn_cons (kn_lss 2 (-2147483648) false (decide_eq_false (show ¬ (imm < (-2147483648)) by omega))) (kn_cons (kn_gtr 2 2147483647 false (decide_eq_false (show ¬ (imm > 2147483647) by omega))) (kn_nil (m5 dst src imm size cond))))))))
  by_cases h0 : imm ≠ 0
  · refine (rr_of _ (kn_cons (kn_neq 2 0 true (decide_eq_true (h0))) base) 11 true ⟨⟨[]⟩⟩ false (by kernel_rfl) w).mono ?_
    rintro e w' ⟨rfl, hb⟩
    exact ⟨ret_rp_false (by unfold RP lD lS lI lZ lG lC lT; omega), hb⟩
  · by_cases h1 : size ≠ 0
    · refine (rr_of _ (kn_cons (kn_neq 3 0 true (decide_eq_true (h1))) (kn_cons (kn_neq 2 0 false (decide_eq_false (h0))) base)) 11 true ⟨⟨[]⟩⟩ false (by kernel_rfl) w).mono ?_
      rintro e w' ⟨rfl, hb⟩
      exact ⟨ret_rp_false (by unfold RP lD lS lI lZ lG lC lT; omega), hb⟩
    · refine (rr_of _ (kn_cons (kn_neq 3 0 false (decide_eq_false (h1))) (kn_cons (kn_neq 2 0 false (decide_eq_false (h0))) base)) 11 true ⟨⟨[]⟩⟩ false (by kernel_rfl) w).mono ?_
      rintro e w' ⟨rfl, hb⟩
      exact ⟨ret_rp_false (by unfold RP lD lS lI lZ lG lC lT; omega), hb⟩
theorem rr_19_00 (dst src imm size cond : Int) (b : UInt8) (bs : List UInt8) (w : World) (d1 : 0 ≤ dst) (d2 : dst ≤ 15) (s1 : 0 ≤ src) (s2 : src ≤ 15) (i1 : -2147483648 ≤ imm) (i2 : imm ≤ 2147483647) :
    Calls Try.prog 14 #[.agg #[.int .i64 19, .int .i64 dst, .int .i64 src, .int .i64 imm, .int .i64 size, .bool false, .int .i64 cond, .string ⟨⟨b :: bs⟩⟩]] w fun en w' => RightIs (RP 19 dst src imm size 0 cond 0) en ∧ Below w.heap.size w w' := by
  have base := (kn_cons (kn_lss 0 0 false (decide_eq_false (show ¬ (dst < 0) by omega))) (kn_cons (kn_gtr 0 15 false (decide_eq_false (show ¬ (dst > 15) by omega))) (kn_cons (kn_lss 1 0 false (decide_eq_false (show ¬ (src < 0) by omega))) (kn_cons (kn_gtr 1 15 false (decide_eq_false (show ¬ (src > 15) by omega))) (kn_cons (kn_lss 2 (-2147483648) false (decide_eq_false (show ¬ (imm < (-2147483648)) by omega))) (kn_cons (kn_gtr 2 2147483647 false (decide_eq_false (show ¬ (imm > 2147483647) by omega))) (kn_nil (m5 dst src imm size cond))))))))
  by_cases h0 : src ≠ 0
  · refine (rr_of _ (kn_cons (kn_neq 1 0 true (decide_eq_true (h0))) base) 19 false ⟨⟨b :: bs⟩⟩ false (by kernel_rfl) w).mono ?_
    rintro e w' ⟨rfl, hb⟩
    exact ⟨ret_rp_false (by unfold RP lD lS lI lZ lG lC lT; omega), hb⟩
  · by_cases h1 : size ≠ 0
    · refine (rr_of _ (kn_cons (kn_neq 3 0 true (decide_eq_true (h1))) (kn_cons (kn_neq 1 0 false (decide_eq_false (h0))) base)) 19 false ⟨⟨b :: bs⟩⟩ false (by kernel_rfl) w).mono ?_
      rintro e w' ⟨rfl, hb⟩
      exact ⟨ret_rp_false (by unfold RP lD lS lI lZ lG lC lT; omega), hb⟩
    · by_cases h2 : cond ≠ 0
      · refine (rr_of _ (kn_cons (kn_neq 4 0 true (decide_eq_true (h2))) (kn_cons (kn_neq 3 0 false (decide_eq_false (h1))) (kn_cons (kn_neq 1 0 false (decide_eq_false (h0))) base))) 19 false ⟨⟨b :: bs⟩⟩ false (by kernel_rfl) w).mono ?_
        rintro e w' ⟨rfl, hb⟩
        exact ⟨ret_rp_false (by unfold RP lD lS lI lZ lG lC lT; omega), hb⟩
      · refine (rr_of _ (kn_cons (kn_neq 4 0 false (decide_eq_false (h2))) (kn_cons (kn_neq 3 0 false (decide_eq_false (h1))) (kn_cons (kn_neq 1 0 false (decide_eq_false (h0))) base))) 19 false ⟨⟨b :: bs⟩⟩ false (by kernel_rfl) w).mono ?_
        rintro e w' ⟨rfl, hb⟩
        exact ⟨ret_rp_false (by unfold RP lD lS lI lZ lG lC lT; omega), hb⟩
theorem rr_19_01 (dst src imm size cond : Int) (w : World) (d1 : 0 ≤ dst) (d2 : dst ≤ 15) (s1 : 0 ≤ src) (s2 : src ≤ 15) (i1 : -2147483648 ≤ imm) (i2 : imm ≤ 2147483647) :
    Calls Try.prog 14 #[.agg #[.int .i64 19, .int .i64 dst, .int .i64 src, .int .i64 imm, .int .i64 size, .bool false, .int .i64 cond, .string ⟨⟨[]⟩⟩]] w fun en w' => RightIs (RP 19 dst src imm size 0 cond 1) en ∧ Below w.heap.size w w' := by
  have base := (kn_cons (kn_lss 0 0 false (decide_eq_false (show ¬ (dst < 0) by omega))) (kn_cons (kn_gtr 0 15 false (decide_eq_false (show ¬ (dst > 15) by omega))) (kn_cons (kn_lss 1 0 false (decide_eq_false (show ¬ (src < 0) by omega))) (kn_cons (kn_gtr 1 15 false (decide_eq_false (show ¬ (src > 15) by omega))) (kn_cons (kn_lss 2 (-2147483648) false (decide_eq_false (show ¬ (imm < (-2147483648)) by omega))) (kn_cons (kn_gtr 2 2147483647 false (decide_eq_false (show ¬ (imm > 2147483647) by omega))) (kn_nil (m5 dst src imm size cond))))))))
  by_cases h0 : src ≠ 0
  · refine (rr_of _ (kn_cons (kn_neq 1 0 true (decide_eq_true (h0))) base) 19 false ⟨⟨[]⟩⟩ false (by kernel_rfl) w).mono ?_
    rintro e w' ⟨rfl, hb⟩
    exact ⟨ret_rp_false (by unfold RP lD lS lI lZ lG lC lT; omega), hb⟩
  · by_cases h1 : size ≠ 0
    · refine (rr_of _ (kn_cons (kn_neq 3 0 true (decide_eq_true (h1))) (kn_cons (kn_neq 1 0 false (decide_eq_false (h0))) base)) 19 false ⟨⟨[]⟩⟩ false (by kernel_rfl) w).mono ?_
      rintro e w' ⟨rfl, hb⟩
      exact ⟨ret_rp_false (by unfold RP lD lS lI lZ lG lC lT; omega), hb⟩
    · by_cases h2 : cond ≠ 0
      · refine (rr_of _ (kn_cons (kn_neq 4 0 true (decide_eq_true (h2))) (kn_cons (kn_neq 3 0 false (decide_eq_false (h1))) (kn_cons (kn_neq 1 0 false (decide_eq_false (h0))) base))) 19 false ⟨⟨[]⟩⟩ false (by kernel_rfl) w).mono ?_
        rintro e w' ⟨rfl, hb⟩
        exact ⟨ret_rp_false (by unfold RP lD lS lI lZ lG lC lT; omega), hb⟩
      · refine (rr_of _ (kn_cons (kn_neq 4 0 false (decide_eq_false (h2))) (kn_cons (kn_neq 3 0 false (decide_eq_false (h1))) (kn_cons (kn_neq 1 0 false (decide_eq_false (h0))) base))) 19 false ⟨⟨[]⟩⟩ true (by kernel_rfl) w).mono ?_
        rintro e w' ⟨rfl, hb⟩
        exact ⟨ret_rp_true (by unfold RP lD lS lI lZ lG lC lT; omega), hb⟩
theorem rr_19_10 (dst src imm size cond : Int) (b : UInt8) (bs : List UInt8) (w : World) (d1 : 0 ≤ dst) (d2 : dst ≤ 15) (s1 : 0 ≤ src) (s2 : src ≤ 15) (i1 : -2147483648 ≤ imm) (i2 : imm ≤ 2147483647) :
    Calls Try.prog 14 #[.agg #[.int .i64 19, .int .i64 dst, .int .i64 src, .int .i64 imm, .int .i64 size, .bool true, .int .i64 cond, .string ⟨⟨b :: bs⟩⟩]] w fun en w' => RightIs (RP 19 dst src imm size 1 cond 0) en ∧ Below w.heap.size w w' := by
  have base := (kn_cons (kn_lss 0 0 false (decide_eq_false (show ¬ (dst < 0) by omega))) (kn_cons (kn_gtr 0 15 false (decide_eq_false (show ¬ (dst > 15) by omega))) (kn_cons (kn_lss 1 0 false (decide_eq_false (show ¬ (src < 0) by omega))) (kn_cons (kn_gtr 1 15 false (decide_eq_false (show ¬ (src > 15) by omega))) (kn_cons (kn_lss 2 (-2147483648) false (decide_eq_false (show ¬ (imm < (-2147483648)) by omega))) (kn_cons (kn_gtr 2 2147483647 false (decide_eq_false (show ¬ (imm > 2147483647) by omega))) (kn_nil (m5 dst src imm size cond))))))))
  by_cases h0 : src ≠ 0
  · refine (rr_of _ (kn_cons (kn_neq 1 0 true (decide_eq_true (h0))) base) 19 true ⟨⟨b :: bs⟩⟩ false (by kernel_rfl) w).mono ?_
    rintro e w' ⟨rfl, hb⟩
    exact ⟨ret_rp_false (by unfold RP lD lS lI lZ lG lC lT; omega), hb⟩
  · by_cases h1 : size ≠ 0
    · refine (rr_of _ (kn_cons (kn_neq 3 0 true (decide_eq_true (h1))) (kn_cons (kn_neq 1 0 false (decide_eq_false (h0))) base)) 19 true ⟨⟨b :: bs⟩⟩ false (by kernel_rfl) w).mono ?_
      rintro e w' ⟨rfl, hb⟩
      exact ⟨ret_rp_false (by unfold RP lD lS lI lZ lG lC lT; omega), hb⟩
    · refine (rr_of _ (kn_cons (kn_neq 3 0 false (decide_eq_false (h1))) (kn_cons (kn_neq 1 0 false (decide_eq_false (h0))) base)) 19 true ⟨⟨b :: bs⟩⟩ false (by kernel_rfl) w).mono ?_
      rintro e w' ⟨rfl, hb⟩
      exact ⟨ret_rp_false (by unfold RP lD lS lI lZ lG lC lT; omega), hb⟩
theorem rr_19_11 (dst src imm size cond : Int) (w : World) (d1 : 0 ≤ dst) (d2 : dst ≤ 15) (s1 : 0 ≤ src) (s2 : src ≤ 15) (i1 : -2147483648 ≤ imm) (i2 : imm ≤ 2147483647) :
    Calls Try.prog 14 #[.agg #[.int .i64 19, .int .i64 dst, .int .i64 src, .int .i64 imm, .int .i64 size, .bool true, .int .i64 cond, .string ⟨⟨[]⟩⟩]] w fun en w' => RightIs (RP 19 dst src imm size 1 cond 1) en ∧ Below w.heap.size w w' := by
  have base := (kn_cons (kn_lss 0 0 false (decide_eq_false (show ¬ (dst < 0) by omega))) (kn_cons (kn_gtr 0 15 false (decide_eq_false (show ¬ (dst > 15) by omega))) (kn_cons (kn_lss 1 0 false (decide_eq_false (show ¬ (src < 0) by omega))) (kn_cons (kn_gtr 1 15 false (decide_eq_false (show ¬ (src > 15) by omega))) (kn_cons (kn_lss 2 (-2147483648) false (decide_eq_false (show ¬ (imm < (-2147483648)) by omega))) (kn_cons (kn_gtr 2 2147483647 false (decide_eq_false (show ¬ (imm > 2147483647) by omega))) (kn_nil (m5 dst src imm size cond))))))))
  by_cases h0 : src ≠ 0
  · refine (rr_of _ (kn_cons (kn_neq 1 0 true (decide_eq_true (h0))) base) 19 true ⟨⟨[]⟩⟩ false (by kernel_rfl) w).mono ?_
    rintro e w' ⟨rfl, hb⟩
    exact ⟨ret_rp_false (by unfold RP lD lS lI lZ lG lC lT; omega), hb⟩
  · by_cases h1 : size ≠ 0
    · refine (rr_of _ (kn_cons (kn_neq 3 0 true (decide_eq_true (h1))) (kn_cons (kn_neq 1 0 false (decide_eq_false (h0))) base)) 19 true ⟨⟨[]⟩⟩ false (by kernel_rfl) w).mono ?_
      rintro e w' ⟨rfl, hb⟩
      exact ⟨ret_rp_false (by unfold RP lD lS lI lZ lG lC lT; omega), hb⟩
    · refine (rr_of _ (kn_cons (kn_neq 3 0 false (decide_eq_false (h1))) (kn_cons (kn_neq 1 0 false (decide_eq_false (h0))) base)) 19 true ⟨⟨[]⟩⟩ false (by kernel_rfl) w).mono ?_
      rintro e w' ⟨rfl, hb⟩
      exact ⟨ret_rp_false (by unfold RP lD lS lI lZ lG lC lT; omega), hb⟩
theorem rr_23_00 (dst src imm size cond : Int) (b : UInt8) (bs : List UInt8) (w : World) (d1 : 0 ≤ dst) (d2 : dst ≤ 15) (s1 : 0 ≤ src) (s2 : src ≤ 15) (i1 : -2147483648 ≤ imm) (i2 : imm ≤ 2147483647) :
    Calls Try.prog 14 #[.agg #[.int .i64 23, .int .i64 dst, .int .i64 src, .int .i64 imm, .int .i64 size, .bool false, .int .i64 cond, .string ⟨⟨b :: bs⟩⟩]] w fun en w' => RightIs (RP 23 dst src imm size 0 cond 0) en ∧ Below w.heap.size w w' := by
  have base := (kn_cons (kn_lss 0 0 false (decide_eq_false (show ¬ (dst < 0) by omega))) (kn_cons (kn_gtr 0 15 false (decide_eq_false (show ¬ (dst > 15) by omega))) (kn_cons (kn_lss 1 0 false (decide_eq_false (show ¬ (src < 0) by omega))) (kn_cons (kn_gtr 1 15 false (decide_eq_false (show ¬ (src > 15) by omega))) (kn_cons (kn_lss 2 (-2147483648) false (decide_eq_false (show ¬ (imm < (-2147483648)) by omega))) (kn_cons (kn_gtr 2 2147483647 false (decide_eq_false (show ¬ (imm > 2147483647) by omega))) (kn_nil (m5 dst src imm size cond))))))))
  by_cases h0 : src ≠ 0
  · refine (rr_of _ (kn_cons (kn_neq 1 0 true (decide_eq_true (h0))) base) 23 false ⟨⟨b :: bs⟩⟩ false (by kernel_rfl) w).mono ?_
    rintro e w' ⟨rfl, hb⟩
    exact ⟨ret_rp_false (by unfold RP lD lS lI lZ lG lC lT; omega), hb⟩
  · by_cases h1 : imm ≠ 0
    · refine (rr_of _ (kn_cons (kn_neq 2 0 true (decide_eq_true (h1))) (kn_cons (kn_neq 1 0 false (decide_eq_false (h0))) base)) 23 false ⟨⟨b :: bs⟩⟩ false (by kernel_rfl) w).mono ?_
      rintro e w' ⟨rfl, hb⟩
      exact ⟨ret_rp_false (by unfold RP lD lS lI lZ lG lC lT; omega), hb⟩
    · by_cases h2 : size ≠ 0
      · refine (rr_of _ (kn_cons (kn_neq 3 0 true (decide_eq_true (h2))) (kn_cons (kn_neq 2 0 false (decide_eq_false (h1))) (kn_cons (kn_neq 1 0 false (decide_eq_false (h0))) base))) 23 false ⟨⟨b :: bs⟩⟩ false (by kernel_rfl) w).mono ?_
        rintro e w' ⟨rfl, hb⟩
        exact ⟨ret_rp_false (by unfold RP lD lS lI lZ lG lC lT; omega), hb⟩
      · by_cases h3 : cond ≠ 0
        · refine (rr_of _ (kn_cons (kn_neq 4 0 true (decide_eq_true (h3))) (kn_cons (kn_neq 3 0 false (decide_eq_false (h2))) (kn_cons (kn_neq 2 0 false (decide_eq_false (h1))) (kn_cons (kn_neq 1 0 false (decide_eq_false (h0))) base)))) 23 false ⟨⟨b :: bs⟩⟩ false (by kernel_rfl) w).mono ?_
          rintro e w' ⟨rfl, hb⟩
          exact ⟨ret_rp_false (by unfold RP lD lS lI lZ lG lC lT; omega), hb⟩
        · refine (rr_of _ (kn_cons (kn_neq 4 0 false (decide_eq_false (h3))) (kn_cons (kn_neq 3 0 false (decide_eq_false (h2))) (kn_cons (kn_neq 2 0 false (decide_eq_false (h1))) (kn_cons (kn_neq 1 0 false (decide_eq_false (h0))) base)))) 23 false ⟨⟨b :: bs⟩⟩ false (by kernel_rfl) w).mono ?_
          rintro e w' ⟨rfl, hb⟩
          exact ⟨ret_rp_false (by unfold RP lD lS lI lZ lG lC lT; omega), hb⟩
theorem rr_23_01 (dst src imm size cond : Int) (w : World) (d1 : 0 ≤ dst) (d2 : dst ≤ 15) (s1 : 0 ≤ src) (s2 : src ≤ 15) (i1 : -2147483648 ≤ imm) (i2 : imm ≤ 2147483647) :
    Calls Try.prog 14 #[.agg #[.int .i64 23, .int .i64 dst, .int .i64 src, .int .i64 imm, .int .i64 size, .bool false, .int .i64 cond, .string ⟨⟨[]⟩⟩]] w fun en w' => RightIs (RP 23 dst src imm size 0 cond 1) en ∧ Below w.heap.size w w' := by
  have base := (kn_cons (kn_lss 0 0 false (decide_eq_false (show ¬ (dst < 0) by omega))) (kn_cons (kn_gtr 0 15 false (decide_eq_false (show ¬ (dst > 15) by omega))) (kn_cons (kn_lss 1 0 false (decide_eq_false (show ¬ (src < 0) by omega))) (kn_cons (kn_gtr 1 15 false (decide_eq_false (show ¬ (src > 15) by omega))) (kn_cons (kn_lss 2 (-2147483648) false (decide_eq_false (show ¬ (imm < (-2147483648)) by omega))) (kn_cons (kn_gtr 2 2147483647 false (decide_eq_false (show ¬ (imm > 2147483647) by omega))) (kn_nil (m5 dst src imm size cond))))))))
  by_cases h0 : src ≠ 0
  · refine (rr_of _ (kn_cons (kn_neq 1 0 true (decide_eq_true (h0))) base) 23 false ⟨⟨[]⟩⟩ false (by kernel_rfl) w).mono ?_
    rintro e w' ⟨rfl, hb⟩
    exact ⟨ret_rp_false (by unfold RP lD lS lI lZ lG lC lT; omega), hb⟩
  · by_cases h1 : imm ≠ 0
    · refine (rr_of _ (kn_cons (kn_neq 2 0 true (decide_eq_true (h1))) (kn_cons (kn_neq 1 0 false (decide_eq_false (h0))) base)) 23 false ⟨⟨[]⟩⟩ false (by kernel_rfl) w).mono ?_
      rintro e w' ⟨rfl, hb⟩
      exact ⟨ret_rp_false (by unfold RP lD lS lI lZ lG lC lT; omega), hb⟩
    · by_cases h2 : size ≠ 0
      · refine (rr_of _ (kn_cons (kn_neq 3 0 true (decide_eq_true (h2))) (kn_cons (kn_neq 2 0 false (decide_eq_false (h1))) (kn_cons (kn_neq 1 0 false (decide_eq_false (h0))) base))) 23 false ⟨⟨[]⟩⟩ false (by kernel_rfl) w).mono ?_
        rintro e w' ⟨rfl, hb⟩
        exact ⟨ret_rp_false (by unfold RP lD lS lI lZ lG lC lT; omega), hb⟩
      · by_cases h3 : cond ≠ 0
        · refine (rr_of _ (kn_cons (kn_neq 4 0 true (decide_eq_true (h3))) (kn_cons (kn_neq 3 0 false (decide_eq_false (h2))) (kn_cons (kn_neq 2 0 false (decide_eq_false (h1))) (kn_cons (kn_neq 1 0 false (decide_eq_false (h0))) base)))) 23 false ⟨⟨[]⟩⟩ false (by kernel_rfl) w).mono ?_
          rintro e w' ⟨rfl, hb⟩
          exact ⟨ret_rp_false (by unfold RP lD lS lI lZ lG lC lT; omega), hb⟩
        · refine (rr_of _ (kn_cons (kn_neq 4 0 false (decide_eq_false (h3))) (kn_cons (kn_neq 3 0 false (decide_eq_false (h2))) (kn_cons (kn_neq 2 0 false (decide_eq_false (h1))) (kn_cons (kn_neq 1 0 false (decide_eq_false (h0))) base)))) 23 false ⟨⟨[]⟩⟩ true (by kernel_rfl) w).mono ?_
          rintro e w' ⟨rfl, hb⟩
          exact ⟨ret_rp_true (by unfold RP lD lS lI lZ lG lC lT; omega), hb⟩
theorem rr_23_10 (dst src imm size cond : Int) (b : UInt8) (bs : List UInt8) (w : World) (d1 : 0 ≤ dst) (d2 : dst ≤ 15) (s1 : 0 ≤ src) (s2 : src ≤ 15) (i1 : -2147483648 ≤ imm) (i2 : imm ≤ 2147483647) :
    Calls Try.prog 14 #[.agg #[.int .i64 23, .int .i64 dst, .int .i64 src, .int .i64 imm, .int .i64 size, .bool true, .int .i64 cond, .string ⟨⟨b :: bs⟩⟩]] w fun en w' => RightIs (RP 23 dst src imm size 1 cond 0) en ∧ Below w.heap.size w w' := by
  have base := (kn_cons (kn_lss 0 0 false (decide_eq_false (show ¬ (dst < 0) by omega))) (kn_cons (kn_gtr 0 15 false (decide_eq_false (show ¬ (dst > 15) by omega))) (kn_cons (kn_lss 1 0 false (decide_eq_false (show ¬ (src < 0) by omega))) (kn_cons (kn_gtr 1 15 false (decide_eq_false (show ¬ (src > 15) by omega))) (kn_cons (kn_lss 2 (-2147483648) false (decide_eq_false (show ¬ (imm < (-2147483648)) by omega))) (kn_cons (kn_gtr 2 2147483647 false (decide_eq_false (show ¬ (imm > 2147483647) by omega))) (kn_nil (m5 dst src imm size cond))))))))
  by_cases h0 : src ≠ 0
  · refine (rr_of _ (kn_cons (kn_neq 1 0 true (decide_eq_true (h0))) base) 23 true ⟨⟨b :: bs⟩⟩ false (by kernel_rfl) w).mono ?_
    rintro e w' ⟨rfl, hb⟩
    exact ⟨ret_rp_false (by unfold RP lD lS lI lZ lG lC lT; omega), hb⟩
  · by_cases h1 : imm ≠ 0
    · refine (rr_of _ (kn_cons (kn_neq 2 0 true (decide_eq_true (h1))) (kn_cons (kn_neq 1 0 false (decide_eq_false (h0))) base)) 23 true ⟨⟨b :: bs⟩⟩ false (by kernel_rfl) w).mono ?_
      rintro e w' ⟨rfl, hb⟩
      exact ⟨ret_rp_false (by unfold RP lD lS lI lZ lG lC lT; omega), hb⟩
    · by_cases h2 : size ≠ 0
      · refine (rr_of _ (kn_cons (kn_neq 3 0 true (decide_eq_true (h2))) (kn_cons (kn_neq 2 0 false (decide_eq_false (h1))) (kn_cons (kn_neq 1 0 false (decide_eq_false (h0))) base))) 23 true ⟨⟨b :: bs⟩⟩ false (by kernel_rfl) w).mono ?_
        rintro e w' ⟨rfl, hb⟩
        exact ⟨ret_rp_false (by unfold RP lD lS lI lZ lG lC lT; omega), hb⟩
      · refine (rr_of _ (kn_cons (kn_neq 3 0 false (decide_eq_false (h2))) (kn_cons (kn_neq 2 0 false (decide_eq_false (h1))) (kn_cons (kn_neq 1 0 false (decide_eq_false (h0))) base))) 23 true ⟨⟨b :: bs⟩⟩ false (by kernel_rfl) w).mono ?_
        rintro e w' ⟨rfl, hb⟩
        exact ⟨ret_rp_false (by unfold RP lD lS lI lZ lG lC lT; omega), hb⟩
theorem rr_23_11 (dst src imm size cond : Int) (w : World) (d1 : 0 ≤ dst) (d2 : dst ≤ 15) (s1 : 0 ≤ src) (s2 : src ≤ 15) (i1 : -2147483648 ≤ imm) (i2 : imm ≤ 2147483647) :
    Calls Try.prog 14 #[.agg #[.int .i64 23, .int .i64 dst, .int .i64 src, .int .i64 imm, .int .i64 size, .bool true, .int .i64 cond, .string ⟨⟨[]⟩⟩]] w fun en w' => RightIs (RP 23 dst src imm size 1 cond 1) en ∧ Below w.heap.size w w' := by
  have base := (kn_cons (kn_lss 0 0 false (decide_eq_false (show ¬ (dst < 0) by omega))) (kn_cons (kn_gtr 0 15 false (decide_eq_false (show ¬ (dst > 15) by omega))) (kn_cons (kn_lss 1 0 false (decide_eq_false (show ¬ (src < 0) by omega))) (kn_cons (kn_gtr 1 15 false (decide_eq_false (show ¬ (src > 15) by omega))) (kn_cons (kn_lss 2 (-2147483648) false (decide_eq_false (show ¬ (imm < (-2147483648)) by omega))) (kn_cons (kn_gtr 2 2147483647 false (decide_eq_false (show ¬ (imm > 2147483647) by omega))) (kn_nil (m5 dst src imm size cond))))))))
  by_cases h0 : src ≠ 0
  · refine (rr_of _ (kn_cons (kn_neq 1 0 true (decide_eq_true (h0))) base) 23 true ⟨⟨[]⟩⟩ false (by kernel_rfl) w).mono ?_
    rintro e w' ⟨rfl, hb⟩
    exact ⟨ret_rp_false (by unfold RP lD lS lI lZ lG lC lT; omega), hb⟩
  · by_cases h1 : imm ≠ 0
    · refine (rr_of _ (kn_cons (kn_neq 2 0 true (decide_eq_true (h1))) (kn_cons (kn_neq 1 0 false (decide_eq_false (h0))) base)) 23 true ⟨⟨[]⟩⟩ false (by kernel_rfl) w).mono ?_
      rintro e w' ⟨rfl, hb⟩
      exact ⟨ret_rp_false (by unfold RP lD lS lI lZ lG lC lT; omega), hb⟩
    · by_cases h2 : size ≠ 0
      · refine (rr_of _ (kn_cons (kn_neq 3 0 true (decide_eq_true (h2))) (kn_cons (kn_neq 2 0 false (decide_eq_false (h1))) (kn_cons (kn_neq 1 0 false (decide_eq_false (h0))) base))) 23 true ⟨⟨[]⟩⟩ false (by kernel_rfl) w).mono ?_
        rintro e w' ⟨rfl, hb⟩
        exact ⟨ret_rp_false (by unfold RP lD lS lI lZ lG lC lT; omega), hb⟩
      · refine (rr_of _ (kn_cons (kn_neq 3 0 false (decide_eq_false (h2))) (kn_cons (kn_neq 2 0 false (decide_eq_false (h1))) (kn_cons (kn_neq 1 0 false (decide_eq_false (h0))) base))) 23 true ⟨⟨[]⟩⟩ false (by kernel_rfl) w).mono ?_
        rintro e w' ⟨rfl, hb⟩
        exact ⟨ret_rp_false (by unfold RP lD lS lI lZ lG lC lT; omega), hb⟩
theorem rr_24_00 (dst src imm size cond : Int) (b : UInt8) (bs : List UInt8) (w : World) (d1 : 0 ≤ dst) (d2 : dst ≤ 15) (s1 : 0 ≤ src) (s2 : src ≤ 15) (i1 : -2147483648 ≤ imm) (i2 : imm ≤ 2147483647) :
    Calls Try.prog 14 #[.agg #[.int .i64 24, .int .i64 dst, .int .i64 src, .int .i64 imm, .int .i64 size, .bool false, .int .i64 cond, .string ⟨⟨b :: bs⟩⟩]] w fun en w' => RightIs (RP 24 dst src imm size 0 cond 0) en ∧ Below w.heap.size w w' := by
  have base := (kn_cons (kn_lss 0 0 false (decide_eq_false (show ¬ (dst < 0) by omega))) (kn_cons (kn_gtr 0 15 false (decide_eq_false (show ¬ (dst > 15) by omega))) (kn_cons (kn_lss 1 0 false (decide_eq_false (show ¬ (src < 0) by omega))) (kn_cons (kn_gtr 1 15 false (decide_eq_false (show ¬ (src > 15) by omega))) (kn_cons (kn_lss 2 (-2147483648) false (decide_eq_false (show ¬ (imm < (-2147483648)) by omega))) (kn_cons (kn_gtr 2 2147483647 false (decide_eq_false (show ¬ (imm > 2147483647) by omega))) (kn_nil (m5 dst src imm size cond))))))))
  by_cases h0 : src ≠ 0
  · refine (rr_of _ (kn_cons (kn_neq 1 0 true (decide_eq_true (h0))) base) 24 false ⟨⟨b :: bs⟩⟩ false (by kernel_rfl) w).mono ?_
    rintro e w' ⟨rfl, hb⟩
    exact ⟨ret_rp_false (by unfold RP lD lS lI lZ lG lC lT; omega), hb⟩
  · by_cases h1 : size ≠ 0
    · refine (rr_of _ (kn_cons (kn_neq 3 0 true (decide_eq_true (h1))) (kn_cons (kn_neq 1 0 false (decide_eq_false (h0))) base)) 24 false ⟨⟨b :: bs⟩⟩ false (by kernel_rfl) w).mono ?_
      rintro e w' ⟨rfl, hb⟩
      exact ⟨ret_rp_false (by unfold RP lD lS lI lZ lG lC lT; omega), hb⟩
    · by_cases h2 : cond ≠ 0
      · refine (rr_of _ (kn_cons (kn_neq 4 0 true (decide_eq_true (h2))) (kn_cons (kn_neq 3 0 false (decide_eq_false (h1))) (kn_cons (kn_neq 1 0 false (decide_eq_false (h0))) base))) 24 false ⟨⟨b :: bs⟩⟩ false (by kernel_rfl) w).mono ?_
        rintro e w' ⟨rfl, hb⟩
        exact ⟨ret_rp_false (by unfold RP lD lS lI lZ lG lC lT; omega), hb⟩
      · refine (rr_of _ (kn_cons (kn_neq 4 0 false (decide_eq_false (h2))) (kn_cons (kn_neq 3 0 false (decide_eq_false (h1))) (kn_cons (kn_neq 1 0 false (decide_eq_false (h0))) base))) 24 false ⟨⟨b :: bs⟩⟩ false (by kernel_rfl) w).mono ?_
        rintro e w' ⟨rfl, hb⟩
        exact ⟨ret_rp_false (by unfold RP lD lS lI lZ lG lC lT; omega), hb⟩
theorem rr_24_01 (dst src imm size cond : Int) (w : World) (d1 : 0 ≤ dst) (d2 : dst ≤ 15) (s1 : 0 ≤ src) (s2 : src ≤ 15) (i1 : -2147483648 ≤ imm) (i2 : imm ≤ 2147483647) :
    Calls Try.prog 14 #[.agg #[.int .i64 24, .int .i64 dst, .int .i64 src, .int .i64 imm, .int .i64 size, .bool false, .int .i64 cond, .string ⟨⟨[]⟩⟩]] w fun en w' => RightIs (RP 24 dst src imm size 0 cond 1) en ∧ Below w.heap.size w w' := by
  have base := (kn_cons (kn_lss 0 0 false (decide_eq_false (show ¬ (dst < 0) by omega))) (kn_cons (kn_gtr 0 15 false (decide_eq_false (show ¬ (dst > 15) by omega))) (kn_cons (kn_lss 1 0 false (decide_eq_false (show ¬ (src < 0) by omega))) (kn_cons (kn_gtr 1 15 false (decide_eq_false (show ¬ (src > 15) by omega))) (kn_cons (kn_lss 2 (-2147483648) false (decide_eq_false (show ¬ (imm < (-2147483648)) by omega))) (kn_cons (kn_gtr 2 2147483647 false (decide_eq_false (show ¬ (imm > 2147483647) by omega))) (kn_nil (m5 dst src imm size cond))))))))
  by_cases h0 : src ≠ 0
  · refine (rr_of _ (kn_cons (kn_neq 1 0 true (decide_eq_true (h0))) base) 24 false ⟨⟨[]⟩⟩ false (by kernel_rfl) w).mono ?_
    rintro e w' ⟨rfl, hb⟩
    exact ⟨ret_rp_false (by unfold RP lD lS lI lZ lG lC lT; omega), hb⟩
  · by_cases h1 : size ≠ 0
    · refine (rr_of _ (kn_cons (kn_neq 3 0 true (decide_eq_true (h1))) (kn_cons (kn_neq 1 0 false (decide_eq_false (h0))) base)) 24 false ⟨⟨[]⟩⟩ false (by kernel_rfl) w).mono ?_
      rintro e w' ⟨rfl, hb⟩
      exact ⟨ret_rp_false (by unfold RP lD lS lI lZ lG lC lT; omega), hb⟩
    · by_cases h2 : cond ≠ 0
      · refine (rr_of _ (kn_cons (kn_neq 4 0 true (decide_eq_true (h2))) (kn_cons (kn_neq 3 0 false (decide_eq_false (h1))) (kn_cons (kn_neq 1 0 false (decide_eq_false (h0))) base))) 24 false ⟨⟨[]⟩⟩ false (by kernel_rfl) w).mono ?_
        rintro e w' ⟨rfl, hb⟩
        exact ⟨ret_rp_false (by unfold RP lD lS lI lZ lG lC lT; omega), hb⟩
      · by_cases h3 : imm ≥ 0
        · by_cases h4 : imm ≤ 63
          · refine (rr_of _ (kn_cons (kn_leq 2 63 true (decide_eq_true (h4))) (kn_cons (kn_geq 2 0 true (decide_eq_true (h3))) (kn_cons (kn_neq 4 0 false (decide_eq_false (h2))) (kn_cons (kn_neq 3 0 false (decide_eq_false (h1))) (kn_cons (kn_neq 1 0 false (decide_eq_false (h0))) base))))) 24 false ⟨⟨[]⟩⟩ true (by kernel_rfl) w).mono ?_
            rintro e w' ⟨rfl, hb⟩
            exact ⟨ret_rp_true (by unfold RP lD lS lI lZ lG lC lT; omega), hb⟩
          · refine (rr_of _ (kn_cons (kn_leq 2 63 false (decide_eq_false (h4))) (kn_cons (kn_geq 2 0 true (decide_eq_true (h3))) (kn_cons (kn_neq 4 0 false (decide_eq_false (h2))) (kn_cons (kn_neq 3 0 false (decide_eq_false (h1))) (kn_cons (kn_neq 1 0 false (decide_eq_false (h0))) base))))) 24 false ⟨⟨[]⟩⟩ false (by kernel_rfl) w).mono ?_
            rintro e w' ⟨rfl, hb⟩
            exact ⟨ret_rp_false (by unfold RP lD lS lI lZ lG lC lT; omega), hb⟩
        · refine (rr_of _ (kn_cons (kn_geq 2 0 false (decide_eq_false (h3))) (kn_cons (kn_neq 4 0 false (decide_eq_false (h2))) (kn_cons (kn_neq 3 0 false (decide_eq_false (h1))) (kn_cons (kn_neq 1 0 false (decide_eq_false (h0))) base)))) 24 false ⟨⟨[]⟩⟩ false (by kernel_rfl) w).mono ?_
          rintro e w' ⟨rfl, hb⟩
          exact ⟨ret_rp_false (by unfold RP lD lS lI lZ lG lC lT; omega), hb⟩
theorem rr_24_10 (dst src imm size cond : Int) (b : UInt8) (bs : List UInt8) (w : World) (d1 : 0 ≤ dst) (d2 : dst ≤ 15) (s1 : 0 ≤ src) (s2 : src ≤ 15) (i1 : -2147483648 ≤ imm) (i2 : imm ≤ 2147483647) :
    Calls Try.prog 14 #[.agg #[.int .i64 24, .int .i64 dst, .int .i64 src, .int .i64 imm, .int .i64 size, .bool true, .int .i64 cond, .string ⟨⟨b :: bs⟩⟩]] w fun en w' => RightIs (RP 24 dst src imm size 1 cond 0) en ∧ Below w.heap.size w w' := by
  have base := (kn_cons (kn_lss 0 0 false (decide_eq_false (show ¬ (dst < 0) by omega))) (kn_cons (kn_gtr 0 15 false (decide_eq_false (show ¬ (dst > 15) by omega))) (kn_cons (kn_lss 1 0 false (decide_eq_false (show ¬ (src < 0) by omega))) (kn_cons (kn_gtr 1 15 false (decide_eq_false (show ¬ (src > 15) by omega))) (kn_cons (kn_lss 2 (-2147483648) false (decide_eq_false (show ¬ (imm < (-2147483648)) by omega))) (kn_cons (kn_gtr 2 2147483647 false (decide_eq_false (show ¬ (imm > 2147483647) by omega))) (kn_nil (m5 dst src imm size cond))))))))
  by_cases h0 : src ≠ 0
  · refine (rr_of _ (kn_cons (kn_neq 1 0 true (decide_eq_true (h0))) base) 24 true ⟨⟨b :: bs⟩⟩ false (by kernel_rfl) w).mono ?_
    rintro e w' ⟨rfl, hb⟩
    exact ⟨ret_rp_false (by unfold RP lD lS lI lZ lG lC lT; omega), hb⟩
  · by_cases h1 : size ≠ 0
    · refine (rr_of _ (kn_cons (kn_neq 3 0 true (decide_eq_true (h1))) (kn_cons (kn_neq 1 0 false (decide_eq_false (h0))) base)) 24 true ⟨⟨b :: bs⟩⟩ false (by kernel_rfl) w).mono ?_
      rintro e w' ⟨rfl, hb⟩
      exact ⟨ret_rp_false (by unfold RP lD lS lI lZ lG lC lT; omega), hb⟩
    · refine (rr_of _ (kn_cons (kn_neq 3 0 false (decide_eq_false (h1))) (kn_cons (kn_neq 1 0 false (decide_eq_false (h0))) base)) 24 true ⟨⟨b :: bs⟩⟩ false (by kernel_rfl) w).mono ?_
      rintro e w' ⟨rfl, hb⟩
      exact ⟨ret_rp_false (by unfold RP lD lS lI lZ lG lC lT; omega), hb⟩
theorem rr_24_11 (dst src imm size cond : Int) (w : World) (d1 : 0 ≤ dst) (d2 : dst ≤ 15) (s1 : 0 ≤ src) (s2 : src ≤ 15) (i1 : -2147483648 ≤ imm) (i2 : imm ≤ 2147483647) :
    Calls Try.prog 14 #[.agg #[.int .i64 24, .int .i64 dst, .int .i64 src, .int .i64 imm, .int .i64 size, .bool true, .int .i64 cond, .string ⟨⟨[]⟩⟩]] w fun en w' => RightIs (RP 24 dst src imm size 1 cond 1) en ∧ Below w.heap.size w w' := by
  have base := (kn_cons (kn_lss 0 0 false (decide_eq_false (show ¬ (dst < 0) by omega))) (kn_cons (kn_gtr 0 15 false (decide_eq_false (show ¬ (dst > 15) by omega))) (kn_cons (kn_lss 1 0 false (decide_eq_false (show ¬ (src < 0) by omega))) (kn_cons (kn_gtr 1 15 false (decide_eq_false (show ¬ (src > 15) by omega))) (kn_cons (kn_lss 2 (-2147483648) false (decide_eq_false (show ¬ (imm < (-2147483648)) by omega))) (kn_cons (kn_gtr 2 2147483647 false (decide_eq_false (show ¬ (imm > 2147483647) by omega))) (kn_nil (m5 dst src imm size cond))))))))
  by_cases h0 : src ≠ 0
  · refine (rr_of _ (kn_cons (kn_neq 1 0 true (decide_eq_true (h0))) base) 24 true ⟨⟨[]⟩⟩ false (by kernel_rfl) w).mono ?_
    rintro e w' ⟨rfl, hb⟩
    exact ⟨ret_rp_false (by unfold RP lD lS lI lZ lG lC lT; omega), hb⟩
  · by_cases h1 : size ≠ 0
    · refine (rr_of _ (kn_cons (kn_neq 3 0 true (decide_eq_true (h1))) (kn_cons (kn_neq 1 0 false (decide_eq_false (h0))) base)) 24 true ⟨⟨[]⟩⟩ false (by kernel_rfl) w).mono ?_
      rintro e w' ⟨rfl, hb⟩
      exact ⟨ret_rp_false (by unfold RP lD lS lI lZ lG lC lT; omega), hb⟩
    · refine (rr_of _ (kn_cons (kn_neq 3 0 false (decide_eq_false (h1))) (kn_cons (kn_neq 1 0 false (decide_eq_false (h0))) base)) 24 true ⟨⟨[]⟩⟩ false (by kernel_rfl) w).mono ?_
      rintro e w' ⟨rfl, hb⟩
      exact ⟨ret_rp_false (by unfold RP lD lS lI lZ lG lC lT; omega), hb⟩
theorem rr_35_00 (dst src imm size cond : Int) (b : UInt8) (bs : List UInt8) (w : World) (d1 : 0 ≤ dst) (d2 : dst ≤ 15) (s1 : 0 ≤ src) (s2 : src ≤ 15) (i1 : -2147483648 ≤ imm) (i2 : imm ≤ 2147483647) :
    Calls Try.prog 14 #[.agg #[.int .i64 35, .int .i64 dst, .int .i64 src, .int .i64 imm, .int .i64 size, .bool false, .int .i64 cond, .string ⟨⟨b :: bs⟩⟩]] w fun en w' => RightIs (RP 35 dst src imm size 0 cond 0) en ∧ Below w.heap.size w w' := by
  have base := (kn_cons (kn_lss 0 0 false (decide_eq_false (show ¬ (dst < 0) by omega))) (kn_cons (kn_gtr 0 15 false (decide_eq_false (show ¬ (dst > 15) by omega))) (kn_cons (kn_lss 1 0 false (decide_eq_false (show ¬ (src < 0) by omega))) (kn_cons (kn_gtr 1 15 false (decide_eq_false (show ¬ (src > 15) by omega))) (kn_cons (kn_lss 2 (-2147483648) false (decide_eq_false (show ¬ (imm < (-2147483648)) by omega))) (kn_cons (kn_gtr 2 2147483647 false (decide_eq_false (show ¬ (imm > 2147483647) by omega))) (kn_nil (m5 dst src imm size cond))))))))
  by_cases h0 : dst ≠ 0
  · refine (rr_of _ (kn_cons (kn_neq 0 0 true (decide_eq_true (h0))) base) 35 false ⟨⟨b :: bs⟩⟩ false (by kernel_rfl) w).mono ?_
    rintro e w' ⟨rfl, hb⟩
    exact ⟨ret_rp_false (by unfold RP lD lS lI lZ lG lC lT; omega), hb⟩
  · by_cases h1 : src ≠ 0
    · refine (rr_of _ (kn_cons (kn_neq 1 0 true (decide_eq_true (h1))) (kn_cons (kn_neq 0 0 false (decide_eq_false (h0))) base)) 35 false ⟨⟨b :: bs⟩⟩ false (by kernel_rfl) w).mono ?_
      rintro e w' ⟨rfl, hb⟩
      exact ⟨ret_rp_false (by unfold RP lD lS lI lZ lG lC lT; omega), hb⟩
    · by_cases h2 : imm ≠ 0
      · refine (rr_of _ (kn_cons (kn_neq 2 0 true (decide_eq_true (h2))) (kn_cons (kn_neq 1 0 false (decide_eq_false (h1))) (kn_cons (kn_neq 0 0 false (decide_eq_false (h0))) base))) 35 false ⟨⟨b :: bs⟩⟩ false (by kernel_rfl) w).mono ?_
        rintro e w' ⟨rfl, hb⟩
        exact ⟨ret_rp_false (by unfold RP lD lS lI lZ lG lC lT; omega), hb⟩
      · by_cases h3 : size ≠ 0
        · refine (rr_of _ (kn_cons (kn_neq 3 0 true (decide_eq_true (h3))) (kn_cons (kn_neq 2 0 false (decide_eq_false (h2))) (kn_cons (kn_neq 1 0 false (decide_eq_false (h1))) (kn_cons (kn_neq 0 0 false (decide_eq_false (h0))) base)))) 35 false ⟨⟨b :: bs⟩⟩ false (by kernel_rfl) w).mono ?_
          rintro e w' ⟨rfl, hb⟩
          exact ⟨ret_rp_false (by unfold RP lD lS lI lZ lG lC lT; omega), hb⟩
        · by_cases h4 : cond ≠ 0
          · refine (rr_of _ (kn_cons (kn_neq 4 0 true (decide_eq_true (h4))) (kn_cons (kn_neq 3 0 false (decide_eq_false (h3))) (kn_cons (kn_neq 2 0 false (decide_eq_false (h2))) (kn_cons (kn_neq 1 0 false (decide_eq_false (h1))) (kn_cons (kn_neq 0 0 false (decide_eq_false (h0))) base))))) 35 false ⟨⟨b :: bs⟩⟩ false (by kernel_rfl) w).mono ?_
            rintro e w' ⟨rfl, hb⟩
            exact ⟨ret_rp_false (by unfold RP lD lS lI lZ lG lC lT; omega), hb⟩
          · refine (rr_of _ (kn_cons (kn_neq 4 0 false (decide_eq_false (h4))) (kn_cons (kn_neq 3 0 false (decide_eq_false (h3))) (kn_cons (kn_neq 2 0 false (decide_eq_false (h2))) (kn_cons (kn_neq 1 0 false (decide_eq_false (h1))) (kn_cons (kn_neq 0 0 false (decide_eq_false (h0))) base))))) 35 false ⟨⟨b :: bs⟩⟩ true (by kernel_rfl) w).mono ?_
            rintro e w' ⟨rfl, hb⟩
            exact ⟨ret_rp_true (by unfold RP lD lS lI lZ lG lC lT; omega), hb⟩
theorem rr_35_01 (dst src imm size cond : Int) (w : World) (d1 : 0 ≤ dst) (d2 : dst ≤ 15) (s1 : 0 ≤ src) (s2 : src ≤ 15) (i1 : -2147483648 ≤ imm) (i2 : imm ≤ 2147483647) :
    Calls Try.prog 14 #[.agg #[.int .i64 35, .int .i64 dst, .int .i64 src, .int .i64 imm, .int .i64 size, .bool false, .int .i64 cond, .string ⟨⟨[]⟩⟩]] w fun en w' => RightIs (RP 35 dst src imm size 0 cond 1) en ∧ Below w.heap.size w w' := by
  have base := (kn_cons (kn_lss 0 0 false (decide_eq_false (show ¬ (dst < 0) by omega))) (kn_cons (kn_gtr 0 15 false (decide_eq_false (show ¬ (dst > 15) by omega))) (kn_cons (kn_lss 1 0 false (decide_eq_false (show ¬ (src < 0) by omega))) (kn_cons (kn_gtr 1 15 false (decide_eq_false (show ¬ (src > 15) by omega))) (kn_cons (kn_lss 2 (-2147483648) false (decide_eq_false (show ¬ (imm < (-2147483648)) by omega))) (kn_cons (kn_gtr 2 2147483647 false (decide_eq_false (show ¬ (imm > 2147483647) by omega))) (kn_nil (m5 dst src imm size cond))))))))
  by_cases h0 : dst ≠ 0
  · refine (rr_of _ (kn_cons (kn_neq 0 0 true (decide_eq_true (h0))) base) 35 false ⟨⟨[]⟩⟩ false (by kernel_rfl) w).mono ?_
    rintro e w' ⟨rfl, hb⟩
    exact ⟨ret_rp_false (by unfold RP lD lS lI lZ lG lC lT; omega), hb⟩
  · by_cases h1 : src ≠ 0
    · refine (rr_of _ (kn_cons (kn_neq 1 0 true (decide_eq_true (h1))) (kn_cons (kn_neq 0 0 false (decide_eq_false (h0))) base)) 35 false ⟨⟨[]⟩⟩ false (by kernel_rfl) w).mono ?_
      rintro e w' ⟨rfl, hb⟩
      exact ⟨ret_rp_false (by unfold RP lD lS lI lZ lG lC lT; omega), hb⟩
    · by_cases h2 : imm ≠ 0
      · refine (rr_of _ (kn_cons (kn_neq 2 0 true (decide_eq_true (h2))) (kn_cons (kn_neq 1 0 false (decide_eq_false (h1))) (kn_cons (kn_neq 0 0 false (decide_eq_false (h0))) base))) 35 false ⟨⟨[]⟩⟩ false (by kernel_rfl) w).mono ?_
        rintro e w' ⟨rfl, hb⟩
        exact ⟨ret_rp_false (by unfold RP lD lS lI lZ lG lC lT; omega), hb⟩
      · by_cases h3 : size ≠ 0
        · refine (rr_of _ (kn_cons (kn_neq 3 0 true (decide_eq_true (h3))) (kn_cons (kn_neq 2 0 false (decide_eq_false (h2))) (kn_cons (kn_neq 1 0 false (decide_eq_false (h1))) (kn_cons (kn_neq 0 0 false (decide_eq_false (h0))) base)))) 35 false ⟨⟨[]⟩⟩ false (by kernel_rfl) w).mono ?_
          rintro e w' ⟨rfl, hb⟩
          exact ⟨ret_rp_false (by unfold RP lD lS lI lZ lG lC lT; omega), hb⟩
        · by_cases h4 : cond ≠ 0
          · refine (rr_of _ (kn_cons (kn_neq 4 0 true (decide_eq_true (h4))) (kn_cons (kn_neq 3 0 false (decide_eq_false (h3))) (kn_cons (kn_neq 2 0 false (decide_eq_false (h2))) (kn_cons (kn_neq 1 0 false (decide_eq_false (h1))) (kn_cons (kn_neq 0 0 false (decide_eq_false (h0))) base))))) 35 false ⟨⟨[]⟩⟩ false (by kernel_rfl) w).mono ?_
            rintro e w' ⟨rfl, hb⟩
            exact ⟨ret_rp_false (by unfold RP lD lS lI lZ lG lC lT; omega), hb⟩
          · refine (rr_of _ (kn_cons (kn_neq 4 0 false (decide_eq_false (h4))) (kn_cons (kn_neq 3 0 false (decide_eq_false (h3))) (kn_cons (kn_neq 2 0 false (decide_eq_false (h2))) (kn_cons (kn_neq 1 0 false (decide_eq_false (h1))) (kn_cons (kn_neq 0 0 false (decide_eq_false (h0))) base))))) 35 false ⟨⟨[]⟩⟩ true (by kernel_rfl) w).mono ?_
            rintro e w' ⟨rfl, hb⟩
            exact ⟨ret_rp_true (by unfold RP lD lS lI lZ lG lC lT; omega), hb⟩
theorem rr_35_10 (dst src imm size cond : Int) (b : UInt8) (bs : List UInt8) (w : World) (d1 : 0 ≤ dst) (d2 : dst ≤ 15) (s1 : 0 ≤ src) (s2 : src ≤ 15) (i1 : -2147483648 ≤ imm) (i2 : imm ≤ 2147483647) :
    Calls Try.prog 14 #[.agg #[.int .i64 35, .int .i64 dst, .int .i64 src, .int .i64 imm, .int .i64 size, .bool true, .int .i64 cond, .string ⟨⟨b :: bs⟩⟩]] w fun en w' => RightIs (RP 35 dst src imm size 1 cond 0) en ∧ Below w.heap.size w w' := by
  have base := (kn_cons (kn_lss 0 0 false (decide_eq_false (show ¬ (dst < 0) by omega))) (kn_cons (kn_gtr 0 15 false (decide_eq_false (show ¬ (dst > 15) by omega))) (kn_cons (kn_lss 1 0 false (decide_eq_false (show ¬ (src < 0) by omega))) (kn_cons (kn_gtr 1 15 false (decide_eq_false (show ¬ (src > 15) by omega))) (kn_cons (kn_lss 2 (-2147483648) false (decide_eq_false (show ¬ (imm < (-2147483648)) by omega))) (kn_cons (kn_gtr 2 2147483647 false (decide_eq_false (show ¬ (imm > 2147483647) by omega))) (kn_nil (m5 dst src imm size cond))))))))
  by_cases h0 : dst ≠ 0
  · refine (rr_of _ (kn_cons (kn_neq 0 0 true (decide_eq_true (h0))) base) 35 true ⟨⟨b :: bs⟩⟩ false (by kernel_rfl) w).mono ?_
    rintro e w' ⟨rfl, hb⟩
    exact ⟨ret_rp_false (by unfold RP lD lS lI lZ lG lC lT; omega), hb⟩
  · by_cases h1 : src ≠ 0
    · refine (rr_of _ (kn_cons (kn_neq 1 0 true (decide_eq_true (h1))) (kn_cons (kn_neq 0 0 false (decide_eq_false (h0))) base)) 35 true ⟨⟨b :: bs⟩⟩ false (by kernel_rfl) w).mono ?_
      rintro e w' ⟨rfl, hb⟩
      exact ⟨ret_rp_false (by unfold RP lD lS lI lZ lG lC lT; omega), hb⟩
    · by_cases h2 : imm ≠ 0
      · refine (rr_of _ (kn_cons (kn_neq 2 0 true (decide_eq_true (h2))) (kn_cons (kn_neq 1 0 false (decide_eq_false (h1))) (kn_cons (kn_neq 0 0 false (decide_eq_false (h0))) base))) 35 true ⟨⟨b :: bs⟩⟩ false (by kernel_rfl) w).mono ?_
        rintro e w' ⟨rfl, hb⟩
        exact ⟨ret_rp_false (by unfold RP lD lS lI lZ lG lC lT; omega), hb⟩
      · by_cases h3 : size ≠ 0
        · refine (rr_of _ (kn_cons (kn_neq 3 0 true (decide_eq_true (h3))) (kn_cons (kn_neq 2 0 false (decide_eq_false (h2))) (kn_cons (kn_neq 1 0 false (decide_eq_false (h1))) (kn_cons (kn_neq 0 0 false (decide_eq_false (h0))) base)))) 35 true ⟨⟨b :: bs⟩⟩ false (by kernel_rfl) w).mono ?_
          rintro e w' ⟨rfl, hb⟩
          exact ⟨ret_rp_false (by unfold RP lD lS lI lZ lG lC lT; omega), hb⟩
        · refine (rr_of _ (kn_cons (kn_neq 3 0 false (decide_eq_false (h3))) (kn_cons (kn_neq 2 0 false (decide_eq_false (h2))) (kn_cons (kn_neq 1 0 false (decide_eq_false (h1))) (kn_cons (kn_neq 0 0 false (decide_eq_false (h0))) base)))) 35 true ⟨⟨b :: bs⟩⟩ false (by kernel_rfl) w).mono ?_
          rintro e w' ⟨rfl, hb⟩
          exact ⟨ret_rp_false (by unfold RP lD lS lI lZ lG lC lT; omega), hb⟩
theorem rr_35_11 (dst src imm size cond : Int) (w : World) (d1 : 0 ≤ dst) (d2 : dst ≤ 15) (s1 : 0 ≤ src) (s2 : src ≤ 15) (i1 : -2147483648 ≤ imm) (i2 : imm ≤ 2147483647) :
    Calls Try.prog 14 #[.agg #[.int .i64 35, .int .i64 dst, .int .i64 src, .int .i64 imm, .int .i64 size, .bool true, .int .i64 cond, .string ⟨⟨[]⟩⟩]] w fun en w' => RightIs (RP 35 dst src imm size 1 cond 1) en ∧ Below w.heap.size w w' := by
  have base := (kn_cons (kn_lss 0 0 false (decide_eq_false (show ¬ (dst < 0) by omega))) (kn_cons (kn_gtr 0 15 false (decide_eq_false (show ¬ (dst > 15) by omega))) (kn_cons (kn_lss 1 0 false (decide_eq_false (show ¬ (src < 0) by omega))) (kn_cons (kn_gtr 1 15 false (decide_eq_false (show ¬ (src > 15) by omega))) (kn_cons (kn_lss 2 (-2147483648) false (decide_eq_false (show ¬ (imm < (-2147483648)) by omega))) (kn_cons (kn_gtr 2 2147483647 false (decide_eq_false (show ¬ (imm > 2147483647) by omega))) (kn_nil (m5 dst src imm size cond))))))))
  by_cases h0 : dst ≠ 0
  · refine (rr_of _ (kn_cons (kn_neq 0 0 true (decide_eq_true (h0))) base) 35 true ⟨⟨[]⟩⟩ false (by kernel_rfl) w).mono ?_
    rintro e w' ⟨rfl, hb⟩
    exact ⟨ret_rp_false (by unfold RP lD lS lI lZ lG lC lT; omega), hb⟩
  · by_cases h1 : src ≠ 0
    · refine (rr_of _ (kn_cons (kn_neq 1 0 true (decide_eq_true (h1))) (kn_cons (kn_neq 0 0 false (decide_eq_false (h0))) base)) 35 true ⟨⟨[]⟩⟩ false (by kernel_rfl) w).mono ?_
      rintro e w' ⟨rfl, hb⟩
      exact ⟨ret_rp_false (by unfold RP lD lS lI lZ lG lC lT; omega), hb⟩
    · by_cases h2 : imm ≠ 0
      · refine (rr_of _ (kn_cons (kn_neq 2 0 true (decide_eq_true (h2))) (kn_cons (kn_neq 1 0 false (decide_eq_false (h1))) (kn_cons (kn_neq 0 0 false (decide_eq_false (h0))) base))) 35 true ⟨⟨[]⟩⟩ false (by kernel_rfl) w).mono ?_
        rintro e w' ⟨rfl, hb⟩
        exact ⟨ret_rp_false (by unfold RP lD lS lI lZ lG lC lT; omega), hb⟩
      · by_cases h3 : size ≠ 0
        · refine (rr_of _ (kn_cons (kn_neq 3 0 true (decide_eq_true (h3))) (kn_cons (kn_neq 2 0 false (decide_eq_false (h2))) (kn_cons (kn_neq 1 0 false (decide_eq_false (h1))) (kn_cons (kn_neq 0 0 false (decide_eq_false (h0))) base)))) 35 true ⟨⟨[]⟩⟩ false (by kernel_rfl) w).mono ?_
          rintro e w' ⟨rfl, hb⟩
          exact ⟨ret_rp_false (by unfold RP lD lS lI lZ lG lC lT; omega), hb⟩
        · refine (rr_of _ (kn_cons (kn_neq 3 0 false (decide_eq_false (h3))) (kn_cons (kn_neq 2 0 false (decide_eq_false (h2))) (kn_cons (kn_neq 1 0 false (decide_eq_false (h1))) (kn_cons (kn_neq 0 0 false (decide_eq_false (h0))) base)))) 35 true ⟨⟨[]⟩⟩ false (by kernel_rfl) w).mono ?_
          rintro e w' ⟨rfl, hb⟩
          exact ⟨ret_rp_false (by unfold RP lD lS lI lZ lG lC lT; omega), hb⟩
end Go.Proofs.Yteeodbjpmofhhaa
