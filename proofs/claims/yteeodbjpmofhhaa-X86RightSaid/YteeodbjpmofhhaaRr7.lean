/- The document's Right, run: operations 6, 8, 16, 30, 37. No condition. -/
import Derived.Test.YteeodbjpmofhhaaRr
namespace Go.Proofs.Yteeodbjpmofhhaa
open Go.RowKit
set_option linter.unusedVariables false
theorem rr_6_00 (dst src imm size cond : Int) (b : UInt8) (bs : List UInt8) (w : World) (d1 : 0 ≤ dst) (d2 : dst ≤ 15) (s1 : 0 ≤ src) (s2 : src ≤ 15) (i1 : -2147483648 ≤ imm) (i2 : imm ≤ 2147483647) :
    Calls Try.prog 14 #[.agg #[.int .i64 6, .int .i64 dst, .int .i64 src, .int .i64 imm, .int .i64 size, .bool false, .int .i64 cond, .string ⟨⟨b :: bs⟩⟩]] w fun en w' => RightIs (RP 6 dst src imm size 0 cond 0) en ∧ Below w.heap.size w w' := by
  have base := (kn_cons (kn_lss 0 0 false (decide_eq_false (show ¬ (dst < 0) by omega))) (kn_cons (kn_gtr 0 15 false (decide_eq_false (show ¬ (dst > 15) by omega))) (kn_cons (kn_lss 1 0 false (decide_eq_false (show ¬ (src < 0) by omega))) (kn_cons (kn_gtr 1 15 false (decide_eq_false (show ¬ (src > 15) by omega))) (kn_cons (kn_lss 2 (-2147483648) false (decide_eq_false (show ¬ (imm < (-2147483648)) by omega))) (kn_cons (kn_gtr 2 2147483647 false (decide_eq_false (show ¬ (imm > 2147483647) by omega))) (kn_nil (m5 dst src imm size cond))))))))
  by_cases h0 : src ≠ 0
  · refine (rr_of _ (kn_cons (kn_neq 1 0 true (decide_eq_true (h0))) base) 6 false ⟨⟨b :: bs⟩⟩ false (by kernel_rfl) w).mono ?_
    rintro e w' ⟨rfl, hb⟩
    exact ⟨ret_rp_false (by unfold RP lD lS lI lZ lG lC lT; omega), hb⟩
  · by_cases h1 : imm ≠ 0
    · refine (rr_of _ (kn_cons (kn_neq 2 0 true (decide_eq_true (h1))) (kn_cons (kn_neq 1 0 false (decide_eq_false (h0))) base)) 6 false ⟨⟨b :: bs⟩⟩ false (by kernel_rfl) w).mono ?_
      rintro e w' ⟨rfl, hb⟩
      exact ⟨ret_rp_false (by unfold RP lD lS lI lZ lG lC lT; omega), hb⟩
    · by_cases h2 : size ≠ 0
      · refine (rr_of _ (kn_cons (kn_neq 3 0 true (decide_eq_true (h2))) (kn_cons (kn_neq 2 0 false (decide_eq_false (h1))) (kn_cons (kn_neq 1 0 false (decide_eq_false (h0))) base))) 6 false ⟨⟨b :: bs⟩⟩ false (by kernel_rfl) w).mono ?_
        rintro e w' ⟨rfl, hb⟩
        exact ⟨ret_rp_false (by unfold RP lD lS lI lZ lG lC lT; omega), hb⟩
      · by_cases h3 : cond ≠ 0
        · refine (rr_of _ (kn_cons (kn_neq 4 0 true (decide_eq_true (h3))) (kn_cons (kn_neq 3 0 false (decide_eq_false (h2))) (kn_cons (kn_neq 2 0 false (decide_eq_false (h1))) (kn_cons (kn_neq 1 0 false (decide_eq_false (h0))) base)))) 6 false ⟨⟨b :: bs⟩⟩ false (by kernel_rfl) w).mono ?_
          rintro e w' ⟨rfl, hb⟩
          exact ⟨ret_rp_false (by unfold RP lD lS lI lZ lG lC lT; omega), hb⟩
        · refine (rr_of _ (kn_cons (kn_neq 4 0 false (decide_eq_false (h3))) (kn_cons (kn_neq 3 0 false (decide_eq_false (h2))) (kn_cons (kn_neq 2 0 false (decide_eq_false (h1))) (kn_cons (kn_neq 1 0 false (decide_eq_false (h0))) base)))) 6 false ⟨⟨b :: bs⟩⟩ true (by kernel_rfl) w).mono ?_
          rintro e w' ⟨rfl, hb⟩
          exact ⟨ret_rp_true (by unfold RP lD lS lI lZ lG lC lT; omega), hb⟩
theorem rr_6_01 (dst src imm size cond : Int) (w : World) (d1 : 0 ≤ dst) (d2 : dst ≤ 15) (s1 : 0 ≤ src) (s2 : src ≤ 15) (i1 : -2147483648 ≤ imm) (i2 : imm ≤ 2147483647) :
    Calls Try.prog 14 #[.agg #[.int .i64 6, .int .i64 dst, .int .i64 src, .int .i64 imm, .int .i64 size, .bool false, .int .i64 cond, .string ⟨⟨[]⟩⟩]] w fun en w' => RightIs (RP 6 dst src imm size 0 cond 1) en ∧ Below w.heap.size w w' := by
  have base := (kn_cons (kn_lss 0 0 false (decide_eq_false (show ¬ (dst < 0) by omega))) (kn_cons (kn_gtr 0 15 false (decide_eq_false (show ¬ (dst > 15) by omega))) (kn_cons (kn_lss 1 0 false (decide_eq_false (show ¬ (src < 0) by omega))) (kn_cons (kn_gtr 1 15 false (decide_eq_false (show ¬ (src > 15) by omega))) (kn_cons (kn_lss 2 (-2147483648) false (decide_eq_false (show ¬ (imm < (-2147483648)) by omega))) (kn_cons (kn_gtr 2 2147483647 false (decide_eq_false (show ¬ (imm > 2147483647) by omega))) (kn_nil (m5 dst src imm size cond))))))))
  by_cases h0 : src ≠ 0
  · refine (rr_of _ (kn_cons (kn_neq 1 0 true (decide_eq_true (h0))) base) 6 false ⟨⟨[]⟩⟩ false (by kernel_rfl) w).mono ?_
    rintro e w' ⟨rfl, hb⟩
    exact ⟨ret_rp_false (by unfold RP lD lS lI lZ lG lC lT; omega), hb⟩
  · by_cases h1 : imm ≠ 0
    · refine (rr_of _ (kn_cons (kn_neq 2 0 true (decide_eq_true (h1))) (kn_cons (kn_neq 1 0 false (decide_eq_false (h0))) base)) 6 false ⟨⟨[]⟩⟩ false (by kernel_rfl) w).mono ?_
      rintro e w' ⟨rfl, hb⟩
      exact ⟨ret_rp_false (by unfold RP lD lS lI lZ lG lC lT; omega), hb⟩
    · by_cases h2 : size ≠ 0
      · refine (rr_of _ (kn_cons (kn_neq 3 0 true (decide_eq_true (h2))) (kn_cons (kn_neq 2 0 false (decide_eq_false (h1))) (kn_cons (kn_neq 1 0 false (decide_eq_false (h0))) base))) 6 false ⟨⟨[]⟩⟩ false (by kernel_rfl) w).mono ?_
        rintro e w' ⟨rfl, hb⟩
        exact ⟨ret_rp_false (by unfold RP lD lS lI lZ lG lC lT; omega), hb⟩
      · by_cases h3 : cond ≠ 0
        · refine (rr_of _ (kn_cons (kn_neq 4 0 true (decide_eq_true (h3))) (kn_cons (kn_neq 3 0 false (decide_eq_false (h2))) (kn_cons (kn_neq 2 0 false (decide_eq_false (h1))) (kn_cons (kn_neq 1 0 false (decide_eq_false (h0))) base)))) 6 false ⟨⟨[]⟩⟩ false (by kernel_rfl) w).mono ?_
          rintro e w' ⟨rfl, hb⟩
          exact ⟨ret_rp_false (by unfold RP lD lS lI lZ lG lC lT; omega), hb⟩
        · refine (rr_of _ (kn_cons (kn_neq 4 0 false (decide_eq_false (h3))) (kn_cons (kn_neq 3 0 false (decide_eq_false (h2))) (kn_cons (kn_neq 2 0 false (decide_eq_false (h1))) (kn_cons (kn_neq 1 0 false (decide_eq_false (h0))) base)))) 6 false ⟨⟨[]⟩⟩ true (by kernel_rfl) w).mono ?_
          rintro e w' ⟨rfl, hb⟩
          exact ⟨ret_rp_true (by unfold RP lD lS lI lZ lG lC lT; omega), hb⟩
theorem rr_6_10 (dst src imm size cond : Int) (b : UInt8) (bs : List UInt8) (w : World) (d1 : 0 ≤ dst) (d2 : dst ≤ 15) (s1 : 0 ≤ src) (s2 : src ≤ 15) (i1 : -2147483648 ≤ imm) (i2 : imm ≤ 2147483647) :
    Calls Try.prog 14 #[.agg #[.int .i64 6, .int .i64 dst, .int .i64 src, .int .i64 imm, .int .i64 size, .bool true, .int .i64 cond, .string ⟨⟨b :: bs⟩⟩]] w fun en w' => RightIs (RP 6 dst src imm size 1 cond 0) en ∧ Below w.heap.size w w' := by
  have base := (kn_cons (kn_lss 0 0 false (decide_eq_false (show ¬ (dst < 0) by omega))) (kn_cons (kn_gtr 0 15 false (decide_eq_false (show ¬ (dst > 15) by omega))) (kn_cons (kn_lss 1 0 false (decide_eq_false (show ¬ (src < 0) by omega))) (kn_cons (kn_gtr 1 15 false (decide_eq_false (show ¬ (src > 15) by omega))) (kn_cons (kn_lss 2 (-2147483648) false (decide_eq_false (show ¬ (imm < (-2147483648)) by omega))) (kn_cons (kn_gtr 2 2147483647 false (decide_eq_false (show ¬ (imm > 2147483647) by omega))) (kn_nil (m5 dst src imm size cond))))))))
  by_cases h0 : src ≠ 0
  · refine (rr_of _ (kn_cons (kn_neq 1 0 true (decide_eq_true (h0))) base) 6 true ⟨⟨b :: bs⟩⟩ false (by kernel_rfl) w).mono ?_
    rintro e w' ⟨rfl, hb⟩
    exact ⟨ret_rp_false (by unfold RP lD lS lI lZ lG lC lT; omega), hb⟩
  · by_cases h1 : imm ≠ 0
    · refine (rr_of _ (kn_cons (kn_neq 2 0 true (decide_eq_true (h1))) (kn_cons (kn_neq 1 0 false (decide_eq_false (h0))) base)) 6 true ⟨⟨b :: bs⟩⟩ false (by kernel_rfl) w).mono ?_
      rintro e w' ⟨rfl, hb⟩
      exact ⟨ret_rp_false (by unfold RP lD lS lI lZ lG lC lT; omega), hb⟩
    · by_cases h2 : size ≠ 0
      · refine (rr_of _ (kn_cons (kn_neq 3 0 true (decide_eq_true (h2))) (kn_cons (kn_neq 2 0 false (decide_eq_false (h1))) (kn_cons (kn_neq 1 0 false (decide_eq_false (h0))) base))) 6 true ⟨⟨b :: bs⟩⟩ false (by kernel_rfl) w).mono ?_
        rintro e w' ⟨rfl, hb⟩
        exact ⟨ret_rp_false (by unfold RP lD lS lI lZ lG lC lT; omega), hb⟩
      · refine (rr_of _ (kn_cons (kn_neq 3 0 false (decide_eq_false (h2))) (kn_cons (kn_neq 2 0 false (decide_eq_false (h1))) (kn_cons (kn_neq 1 0 false (decide_eq_false (h0))) base))) 6 true ⟨⟨b :: bs⟩⟩ false (by kernel_rfl) w).mono ?_
        rintro e w' ⟨rfl, hb⟩
        exact ⟨ret_rp_false (by unfold RP lD lS lI lZ lG lC lT; omega), hb⟩
theorem rr_6_11 (dst src imm size cond : Int) (w : World) (d1 : 0 ≤ dst) (d2 : dst ≤ 15) (s1 : 0 ≤ src) (s2 : src ≤ 15) (i1 : -2147483648 ≤ imm) (i2 : imm ≤ 2147483647) :
    Calls Try.prog 14 #[.agg #[.int .i64 6, .int .i64 dst, .int .i64 src, .int .i64 imm, .int .i64 size, .bool true, .int .i64 cond, .string ⟨⟨[]⟩⟩]] w fun en w' => RightIs (RP 6 dst src imm size 1 cond 1) en ∧ Below w.heap.size w w' := by
  have base := (kn_cons (kn_lss 0 0 false (decide_eq_false (show ¬ (dst < 0) by omega))) (kn_cons (kn_gtr 0 15 false (decide_eq_false (show ¬ (dst > 15) by omega))) (kn_cons (kn_lss 1 0 false (decide_eq_false (show ¬ (src < 0) by omega))) (kn_cons (kn_gtr 1 15 false (decide_eq_false (show ¬ (src > 15) by omega))) (kn_cons (kn_lss 2 (-2147483648) false (decide_eq_false (show ¬ (imm < (-2147483648)) by omega))) (kn_cons (kn_gtr 2 2147483647 false (decide_eq_false (show ¬ (imm > 2147483647) by omega))) (kn_nil (m5 dst src imm size cond))))))))
  by_cases h0 : src ≠ 0
  · refine (rr_of _ (kn_cons (kn_neq 1 0 true (decide_eq_true (h0))) base) 6 true ⟨⟨[]⟩⟩ false (by kernel_rfl) w).mono ?_
    rintro e w' ⟨rfl, hb⟩
    exact ⟨ret_rp_false (by unfold RP lD lS lI lZ lG lC lT; omega), hb⟩
  · by_cases h1 : imm ≠ 0
    · refine (rr_of _ (kn_cons (kn_neq 2 0 true (decide_eq_true (h1))) (kn_cons (kn_neq 1 0 false (decide_eq_false (h0))) base)) 6 true ⟨⟨[]⟩⟩ false (by kernel_rfl) w).mono ?_
      rintro e w' ⟨rfl, hb⟩
      exact ⟨ret_rp_false (by unfold RP lD lS lI lZ lG lC lT; omega), hb⟩
    · by_cases h2 : size ≠ 0
      · refine (rr_of _ (kn_cons (kn_neq 3 0 true (decide_eq_true (h2))) (kn_cons (kn_neq 2 0 false (decide_eq_false (h1))) (kn_cons (kn_neq 1 0 false (decide_eq_false (h0))) base))) 6 true ⟨⟨[]⟩⟩ false (by kernel_rfl) w).mono ?_
        rintro e w' ⟨rfl, hb⟩
        exact ⟨ret_rp_false (by unfold RP lD lS lI lZ lG lC lT; omega), hb⟩
      · refine (rr_of _ (kn_cons (kn_neq 3 0 false (decide_eq_false (h2))) (kn_cons (kn_neq 2 0 false (decide_eq_false (h1))) (kn_cons (kn_neq 1 0 false (decide_eq_false (h0))) base))) 6 true ⟨⟨[]⟩⟩ false (by kernel_rfl) w).mono ?_
        rintro e w' ⟨rfl, hb⟩
        exact ⟨ret_rp_false (by unfold RP lD lS lI lZ lG lC lT; omega), hb⟩
theorem rr_8_00 (dst src imm size cond : Int) (b : UInt8) (bs : List UInt8) (w : World) (d1 : 0 ≤ dst) (d2 : dst ≤ 15) (s1 : 0 ≤ src) (s2 : src ≤ 15) (i1 : -2147483648 ≤ imm) (i2 : imm ≤ 2147483647) :
    Calls Try.prog 14 #[.agg #[.int .i64 8, .int .i64 dst, .int .i64 src, .int .i64 imm, .int .i64 size, .bool false, .int .i64 cond, .string ⟨⟨b :: bs⟩⟩]] w fun en w' => RightIs (RP 8 dst src imm size 0 cond 0) en ∧ Below w.heap.size w w' := by
  have base := (kn_cons (kn_lss 0 0 false (decide_eq_false (show ¬ (dst < 0) by omega))) (kn_cons (kn_gtr 0 15 false (decide_eq_false (show ¬ (dst > 15) by omega))) (kn_cons (kn_lss 1 0 false (decide_eq_false (show ¬ (src < 0) by omega))) (kn_cons (kn_gtr 1 15 false (decide_eq_false (show ¬ (src > 15) by omega))) (kn_cons (kn_lss 2 (-2147483648) false (decide_eq_false (show ¬ (imm < (-2147483648)) by omega))) (kn_cons (kn_gtr 2 2147483647 false (decide_eq_false (show ¬ (imm > 2147483647) by omega))) (kn_nil (m5 dst src imm size cond))))))))
  by_cases h0 : imm ≠ 0
  · refine (rr_of _ (kn_cons (kn_neq 2 0 true (decide_eq_true (h0))) base) 8 false ⟨⟨b :: bs⟩⟩ false (by kernel_rfl) w).mono ?_
    rintro e w' ⟨rfl, hb⟩
    exact ⟨ret_rp_false (by unfold RP lD lS lI lZ lG lC lT; omega), hb⟩
  · by_cases h1 : size ≠ 0
    · refine (rr_of _ (kn_cons (kn_neq 3 0 true (decide_eq_true (h1))) (kn_cons (kn_neq 2 0 false (decide_eq_false (h0))) base)) 8 false ⟨⟨b :: bs⟩⟩ false (by kernel_rfl) w).mono ?_
      rintro e w' ⟨rfl, hb⟩
      exact ⟨ret_rp_false (by unfold RP lD lS lI lZ lG lC lT; omega), hb⟩
    · by_cases h2 : cond ≠ 0
      · refine (rr_of _ (kn_cons (kn_neq 4 0 true (decide_eq_true (h2))) (kn_cons (kn_neq 3 0 false (decide_eq_false (h1))) (kn_cons (kn_neq 2 0 false (decide_eq_false (h0))) base))) 8 false ⟨⟨b :: bs⟩⟩ false (by kernel_rfl) w).mono ?_
        rintro e w' ⟨rfl, hb⟩
        exact ⟨ret_rp_false (by unfold RP lD lS lI lZ lG lC lT; omega), hb⟩
      · refine (rr_of _ (kn_cons (kn_neq 4 0 false (decide_eq_false (h2))) (kn_cons (kn_neq 3 0 false (decide_eq_false (h1))) (kn_cons (kn_neq 2 0 false (decide_eq_false (h0))) base))) 8 false ⟨⟨b :: bs⟩⟩ false (by kernel_rfl) w).mono ?_
        rintro e w' ⟨rfl, hb⟩
        exact ⟨ret_rp_false (by unfold RP lD lS lI lZ lG lC lT; omega), hb⟩
theorem rr_8_01 (dst src imm size cond : Int) (w : World) (d1 : 0 ≤ dst) (d2 : dst ≤ 15) (s1 : 0 ≤ src) (s2 : src ≤ 15) (i1 : -2147483648 ≤ imm) (i2 : imm ≤ 2147483647) :
    Calls Try.prog 14 #[.agg #[.int .i64 8, .int .i64 dst, .int .i64 src, .int .i64 imm, .int .i64 size, .bool false, .int .i64 cond, .string ⟨⟨[]⟩⟩]] w fun en w' => RightIs (RP 8 dst src imm size 0 cond 1) en ∧ Below w.heap.size w w' := by
  have base := (kn_cons (kn_lss 0 0 false (decide_eq_false (show ¬ (dst < 0) by omega))) (kn_cons (kn_gtr 0 15 false (decide_eq_false (show ¬ (dst > 15) by omega))) (kn_cons (kn_lss 1 0 false (decide_eq_false (show ¬ (src < 0) by omega))) (kn_cons (kn_gtr 1 15 false (decide_eq_false (show ¬ (src > 15) by omega))) (kn_cons (kn_lss 2 (-2147483648) false (decide_eq_false (show ¬ (imm < (-2147483648)) by omega))) (kn_cons (kn_gtr 2 2147483647 false (decide_eq_false (show ¬ (imm > 2147483647) by omega))) (kn_nil (m5 dst src imm size cond))))))))
  by_cases h0 : imm ≠ 0
  · refine (rr_of _ (kn_cons (kn_neq 2 0 true (decide_eq_true (h0))) base) 8 false ⟨⟨[]⟩⟩ false (by kernel_rfl) w).mono ?_
    rintro e w' ⟨rfl, hb⟩
    exact ⟨ret_rp_false (by unfold RP lD lS lI lZ lG lC lT; omega), hb⟩
  · by_cases h1 : size ≠ 0
    · refine (rr_of _ (kn_cons (kn_neq 3 0 true (decide_eq_true (h1))) (kn_cons (kn_neq 2 0 false (decide_eq_false (h0))) base)) 8 false ⟨⟨[]⟩⟩ false (by kernel_rfl) w).mono ?_
      rintro e w' ⟨rfl, hb⟩
      exact ⟨ret_rp_false (by unfold RP lD lS lI lZ lG lC lT; omega), hb⟩
    · by_cases h2 : cond ≠ 0
      · refine (rr_of _ (kn_cons (kn_neq 4 0 true (decide_eq_true (h2))) (kn_cons (kn_neq 3 0 false (decide_eq_false (h1))) (kn_cons (kn_neq 2 0 false (decide_eq_false (h0))) base))) 8 false ⟨⟨[]⟩⟩ false (by kernel_rfl) w).mono ?_
        rintro e w' ⟨rfl, hb⟩
        exact ⟨ret_rp_false (by unfold RP lD lS lI lZ lG lC lT; omega), hb⟩
      · refine (rr_of _ (kn_cons (kn_neq 4 0 false (decide_eq_false (h2))) (kn_cons (kn_neq 3 0 false (decide_eq_false (h1))) (kn_cons (kn_neq 2 0 false (decide_eq_false (h0))) base))) 8 false ⟨⟨[]⟩⟩ true (by kernel_rfl) w).mono ?_
        rintro e w' ⟨rfl, hb⟩
        exact ⟨ret_rp_true (by unfold RP lD lS lI lZ lG lC lT; omega), hb⟩
theorem rr_8_10 (dst src imm size cond : Int) (b : UInt8) (bs : List UInt8) (w : World) (d1 : 0 ≤ dst) (d2 : dst ≤ 15) (s1 : 0 ≤ src) (s2 : src ≤ 15) (i1 : -2147483648 ≤ imm) (i2 : imm ≤ 2147483647) :
    Calls Try.prog 14 #[.agg #[.int .i64 8, .int .i64 dst, .int .i64 src, .int .i64 imm, .int .i64 size, .bool true, .int .i64 cond, .string ⟨⟨b :: bs⟩⟩]] w fun en w' => RightIs (RP 8 dst src imm size 1 cond 0) en ∧ Below w.heap.size w w' := by
  have base := (kn_cons (kn_lss 0 0 false (decide_eq_false (show ¬ (dst < 0) by omega))) (kn_cons (kn_gtr 0 15 false (decide_eq_false (show ¬ (dst > 15) by omega))) (kn_cons (kn_lss 1 0 false (decide_eq_false (show ¬ (src < 0) by omega))) (kn_cons (kn_gtr 1 15 false (decide_eq_false (show ¬ (src > 15) by omega))) (kn_cons (kn_lss 2 (-2147483648) false (decide_eq_false (show ¬ (imm < (-2147483648)) by omega))) (kn_cons (kn_gtr 2 2147483647 false (decide_eq_false (show ¬ (imm > 2147483647) by omega))) (kn_nil (m5 dst src imm size cond))))))))
  by_cases h0 : imm ≠ 0
  · refine (rr_of _ (kn_cons (kn_neq 2 0 true (decide_eq_true (h0))) base) 8 true ⟨⟨b :: bs⟩⟩ false (by kernel_rfl) w).mono ?_
    rintro e w' ⟨rfl, hb⟩
    exact ⟨ret_rp_false (by unfold RP lD lS lI lZ lG lC lT; omega), hb⟩
  · by_cases h1 : size ≠ 0
    · refine (rr_of _ (kn_cons (kn_neq 3 0 true (decide_eq_true (h1))) (kn_cons (kn_neq 2 0 false (decide_eq_false (h0))) base)) 8 true ⟨⟨b :: bs⟩⟩ false (by kernel_rfl) w).mono ?_
      rintro e w' ⟨rfl, hb⟩
      exact ⟨ret_rp_false (by unfold RP lD lS lI lZ lG lC lT; omega), hb⟩
    · refine (rr_of _ (kn_cons (kn_neq 3 0 false (decide_eq_false (h1))) (kn_cons (kn_neq 2 0 false (decide_eq_false (h0))) base)) 8 true ⟨⟨b :: bs⟩⟩ false (by kernel_rfl) w).mono ?_
      rintro e w' ⟨rfl, hb⟩
      exact ⟨ret_rp_false (by unfold RP lD lS lI lZ lG lC lT; omega), hb⟩
theorem rr_8_11 (dst src imm size cond : Int) (w : World) (d1 : 0 ≤ dst) (d2 : dst ≤ 15) (s1 : 0 ≤ src) (s2 : src ≤ 15) (i1 : -2147483648 ≤ imm) (i2 : imm ≤ 2147483647) :
    Calls Try.prog 14 #[.agg #[.int .i64 8, .int .i64 dst, .int .i64 src, .int .i64 imm, .int .i64 size, .bool true, .int .i64 cond, .string ⟨⟨[]⟩⟩]] w fun en w' => RightIs (RP 8 dst src imm size 1 cond 1) en ∧ Below w.heap.size w w' := by
  have base := (kn_cons (kn_lss 0 0 false (decide_eq_false (show ¬ (dst < 0) by omega))) (kn_cons (kn_gtr 0 15 false (decide_eq_false (show ¬ (dst > 15) by omega))) (kn_cons (kn_lss 1 0 false (decide_eq_false (show ¬ (src < 0) by omega))) (kn_cons (kn_gtr 1 15 false (decide_eq_false (show ¬ (src > 15) by omega))) (kn_cons (kn_lss 2 (-2147483648) false (decide_eq_false (show ¬ (imm < (-2147483648)) by omega))) (kn_cons (kn_gtr 2 2147483647 false (decide_eq_false (show ¬ (imm > 2147483647) by omega))) (kn_nil (m5 dst src imm size cond))))))))
  by_cases h0 : imm ≠ 0
  · refine (rr_of _ (kn_cons (kn_neq 2 0 true (decide_eq_true (h0))) base) 8 true ⟨⟨[]⟩⟩ false (by kernel_rfl) w).mono ?_
    rintro e w' ⟨rfl, hb⟩
    exact ⟨ret_rp_false (by unfold RP lD lS lI lZ lG lC lT; omega), hb⟩
  · by_cases h1 : size ≠ 0
    · refine (rr_of _ (kn_cons (kn_neq 3 0 true (decide_eq_true (h1))) (kn_cons (kn_neq 2 0 false (decide_eq_false (h0))) base)) 8 true ⟨⟨[]⟩⟩ false (by kernel_rfl) w).mono ?_
      rintro e w' ⟨rfl, hb⟩
      exact ⟨ret_rp_false (by unfold RP lD lS lI lZ lG lC lT; omega), hb⟩
    · refine (rr_of _ (kn_cons (kn_neq 3 0 false (decide_eq_false (h1))) (kn_cons (kn_neq 2 0 false (decide_eq_false (h0))) base)) 8 true ⟨⟨[]⟩⟩ false (by kernel_rfl) w).mono ?_
      rintro e w' ⟨rfl, hb⟩
      exact ⟨ret_rp_false (by unfold RP lD lS lI lZ lG lC lT; omega), hb⟩
theorem rr_16_00 (dst src imm size cond : Int) (b : UInt8) (bs : List UInt8) (w : World) (d1 : 0 ≤ dst) (d2 : dst ≤ 15) (s1 : 0 ≤ src) (s2 : src ≤ 15) (i1 : -2147483648 ≤ imm) (i2 : imm ≤ 2147483647) :
    Calls Try.prog 14 #[.agg #[.int .i64 16, .int .i64 dst, .int .i64 src, .int .i64 imm, .int .i64 size, .bool false, .int .i64 cond, .string ⟨⟨b :: bs⟩⟩]] w fun en w' => RightIs (RP 16 dst src imm size 0 cond 0) en ∧ Below w.heap.size w w' := by
  have base := (kn_cons (kn_lss 0 0 false (decide_eq_false (show ¬ (dst < 0) by omega))) (kn_cons (kn_gtr 0 15 false (decide_eq_false (show ¬ (dst > 15) by omega))) (kn_cons (kn_lss 1 0 false (decide_eq_false (show ¬ (src < 0) by omega))) (kn_cons (kn_gtr 1 15 false (decide_eq_false (show ¬ (src > 15) by omega))) (kn_cons (kn_lss 2 (-2147483648) false (decide_eq_false (show ¬ (imm < (-2147483648)) by omega))) (kn_cons (kn_gtr 2 2147483647 false (decide_eq_false (show ¬ (imm > 2147483647) by omega))) (kn_nil (m5 dst src imm size cond))))))))
  by_cases h0 : src ≠ 0
  · refine (rr_of _ (kn_cons (kn_neq 1 0 true (decide_eq_true (h0))) base) 16 false ⟨⟨b :: bs⟩⟩ false (by kernel_rfl) w).mono ?_
    rintro e w' ⟨rfl, hb⟩
    exact ⟨ret_rp_false (by unfold RP lD lS lI lZ lG lC lT; omega), hb⟩
  · by_cases h1 : size ≠ 0
    · refine (rr_of _ (kn_cons (kn_neq 3 0 true (decide_eq_true (h1))) (kn_cons (kn_neq 1 0 false (decide_eq_false (h0))) base)) 16 false ⟨⟨b :: bs⟩⟩ false (by kernel_rfl) w).mono ?_
      rintro e w' ⟨rfl, hb⟩
      exact ⟨ret_rp_false (by unfold RP lD lS lI lZ lG lC lT; omega), hb⟩
    · by_cases h2 : cond ≠ 0
      · refine (rr_of _ (kn_cons (kn_neq 4 0 true (decide_eq_true (h2))) (kn_cons (kn_neq 3 0 false (decide_eq_false (h1))) (kn_cons (kn_neq 1 0 false (decide_eq_false (h0))) base))) 16 false ⟨⟨b :: bs⟩⟩ false (by kernel_rfl) w).mono ?_
        rintro e w' ⟨rfl, hb⟩
        exact ⟨ret_rp_false (by unfold RP lD lS lI lZ lG lC lT; omega), hb⟩
      · refine (rr_of _ (kn_cons (kn_neq 4 0 false (decide_eq_false (h2))) (kn_cons (kn_neq 3 0 false (decide_eq_false (h1))) (kn_cons (kn_neq 1 0 false (decide_eq_false (h0))) base))) 16 false ⟨⟨b :: bs⟩⟩ false (by kernel_rfl) w).mono ?_
        rintro e w' ⟨rfl, hb⟩
        exact ⟨ret_rp_false (by unfold RP lD lS lI lZ lG lC lT; omega), hb⟩
theorem rr_16_01 (dst src imm size cond : Int) (w : World) (d1 : 0 ≤ dst) (d2 : dst ≤ 15) (s1 : 0 ≤ src) (s2 : src ≤ 15) (i1 : -2147483648 ≤ imm) (i2 : imm ≤ 2147483647) :
    Calls Try.prog 14 #[.agg #[.int .i64 16, .int .i64 dst, .int .i64 src, .int .i64 imm, .int .i64 size, .bool false, .int .i64 cond, .string ⟨⟨[]⟩⟩]] w fun en w' => RightIs (RP 16 dst src imm size 0 cond 1) en ∧ Below w.heap.size w w' := by
  have base := (kn_cons (kn_lss 0 0 false (decide_eq_false (show ¬ (dst < 0) by omega))) (kn_cons (kn_gtr 0 15 false (decide_eq_false (show ¬ (dst > 15) by omega))) (kn_cons (kn_lss 1 0 false (decide_eq_false (show ¬ (src < 0) by omega))) (kn_cons (kn_gtr 1 15 false (decide_eq_false (show ¬ (src > 15) by omega))) (kn_cons (kn_lss 2 (-2147483648) false (decide_eq_false (show ¬ (imm < (-2147483648)) by omega))) (kn_cons (kn_gtr 2 2147483647 false (decide_eq_false (show ¬ (imm > 2147483647) by omega))) (kn_nil (m5 dst src imm size cond))))))))
  by_cases h0 : src ≠ 0
  · refine (rr_of _ (kn_cons (kn_neq 1 0 true (decide_eq_true (h0))) base) 16 false ⟨⟨[]⟩⟩ false (by kernel_rfl) w).mono ?_
    rintro e w' ⟨rfl, hb⟩
    exact ⟨ret_rp_false (by unfold RP lD lS lI lZ lG lC lT; omega), hb⟩
  · by_cases h1 : size ≠ 0
    · refine (rr_of _ (kn_cons (kn_neq 3 0 true (decide_eq_true (h1))) (kn_cons (kn_neq 1 0 false (decide_eq_false (h0))) base)) 16 false ⟨⟨[]⟩⟩ false (by kernel_rfl) w).mono ?_
      rintro e w' ⟨rfl, hb⟩
      exact ⟨ret_rp_false (by unfold RP lD lS lI lZ lG lC lT; omega), hb⟩
    · by_cases h2 : cond ≠ 0
      · refine (rr_of _ (kn_cons (kn_neq 4 0 true (decide_eq_true (h2))) (kn_cons (kn_neq 3 0 false (decide_eq_false (h1))) (kn_cons (kn_neq 1 0 false (decide_eq_false (h0))) base))) 16 false ⟨⟨[]⟩⟩ false (by kernel_rfl) w).mono ?_
        rintro e w' ⟨rfl, hb⟩
        exact ⟨ret_rp_false (by unfold RP lD lS lI lZ lG lC lT; omega), hb⟩
      · refine (rr_of _ (kn_cons (kn_neq 4 0 false (decide_eq_false (h2))) (kn_cons (kn_neq 3 0 false (decide_eq_false (h1))) (kn_cons (kn_neq 1 0 false (decide_eq_false (h0))) base))) 16 false ⟨⟨[]⟩⟩ true (by kernel_rfl) w).mono ?_
        rintro e w' ⟨rfl, hb⟩
        exact ⟨ret_rp_true (by unfold RP lD lS lI lZ lG lC lT; omega), hb⟩
theorem rr_16_10 (dst src imm size cond : Int) (b : UInt8) (bs : List UInt8) (w : World) (d1 : 0 ≤ dst) (d2 : dst ≤ 15) (s1 : 0 ≤ src) (s2 : src ≤ 15) (i1 : -2147483648 ≤ imm) (i2 : imm ≤ 2147483647) :
    Calls Try.prog 14 #[.agg #[.int .i64 16, .int .i64 dst, .int .i64 src, .int .i64 imm, .int .i64 size, .bool true, .int .i64 cond, .string ⟨⟨b :: bs⟩⟩]] w fun en w' => RightIs (RP 16 dst src imm size 1 cond 0) en ∧ Below w.heap.size w w' := by
  have base := (kn_cons (kn_lss 0 0 false (decide_eq_false (show ¬ (dst < 0) by omega))) (kn_cons (kn_gtr 0 15 false (decide_eq_false (show ¬ (dst > 15) by omega))) (kn_cons (kn_lss 1 0 false (decide_eq_false (show ¬ (src < 0) by omega))) (kn_cons (kn_gtr 1 15 false (decide_eq_false (show ¬ (src > 15) by omega))) (kn_cons (kn_lss 2 (-2147483648) false (decide_eq_false (show ¬ (imm < (-2147483648)) by omega))) (kn_cons (kn_gtr 2 2147483647 false (decide_eq_false (show ¬ (imm > 2147483647) by omega))) (kn_nil (m5 dst src imm size cond))))))))
  by_cases h0 : src ≠ 0
  · refine (rr_of _ (kn_cons (kn_neq 1 0 true (decide_eq_true (h0))) base) 16 true ⟨⟨b :: bs⟩⟩ false (by kernel_rfl) w).mono ?_
    rintro e w' ⟨rfl, hb⟩
    exact ⟨ret_rp_false (by unfold RP lD lS lI lZ lG lC lT; omega), hb⟩
  · by_cases h1 : size ≠ 0
    · refine (rr_of _ (kn_cons (kn_neq 3 0 true (decide_eq_true (h1))) (kn_cons (kn_neq 1 0 false (decide_eq_false (h0))) base)) 16 true ⟨⟨b :: bs⟩⟩ false (by kernel_rfl) w).mono ?_
      rintro e w' ⟨rfl, hb⟩
      exact ⟨ret_rp_false (by unfold RP lD lS lI lZ lG lC lT; omega), hb⟩
    · refine (rr_of _ (kn_cons (kn_neq 3 0 false (decide_eq_false (h1))) (kn_cons (kn_neq 1 0 false (decide_eq_false (h0))) base)) 16 true ⟨⟨b :: bs⟩⟩ false (by kernel_rfl) w).mono ?_
      rintro e w' ⟨rfl, hb⟩
      exact ⟨ret_rp_false (by unfold RP lD lS lI lZ lG lC lT; omega), hb⟩
theorem rr_16_11 (dst src imm size cond : Int) (w : World) (d1 : 0 ≤ dst) (d2 : dst ≤ 15) (s1 : 0 ≤ src) (s2 : src ≤ 15) (i1 : -2147483648 ≤ imm) (i2 : imm ≤ 2147483647) :
    Calls Try.prog 14 #[.agg #[.int .i64 16, .int .i64 dst, .int .i64 src, .int .i64 imm, .int .i64 size, .bool true, .int .i64 cond, .string ⟨⟨[]⟩⟩]] w fun en w' => RightIs (RP 16 dst src imm size 1 cond 1) en ∧ Below w.heap.size w w' := by
  have base := (kn_cons (kn_lss 0 0 false (decide_eq_false (show ¬ (dst < 0) by omega))) (kn_cons (kn_gtr 0 15 false (decide_eq_false (show ¬ (dst > 15) by omega))) (kn_cons (kn_lss 1 0 false (decide_eq_false (show ¬ (src < 0) by omega))) (kn_cons (kn_gtr 1 15 false (decide_eq_false (show ¬ (src > 15) by omega))) (kn_cons (kn_lss 2 (-2147483648) false (decide_eq_false (show ¬ (imm < (-2147483648)) by omega))) (kn_cons (kn_gtr 2 2147483647 false (decide_eq_false (show ¬ (imm > 2147483647) by omega))) (kn_nil (m5 dst src imm size cond))))))))
  by_cases h0 : src ≠ 0
  · refine (rr_of _ (kn_cons (kn_neq 1 0 true (decide_eq_true (h0))) base) 16 true ⟨⟨[]⟩⟩ false (by kernel_rfl) w).mono ?_
    rintro e w' ⟨rfl, hb⟩
    exact ⟨ret_rp_false (by unfold RP lD lS lI lZ lG lC lT; omega), hb⟩
  · by_cases h1 : size ≠ 0
    · refine (rr_of _ (kn_cons (kn_neq 3 0 true (decide_eq_true (h1))) (kn_cons (kn_neq 1 0 false (decide_eq_false (h0))) base)) 16 true ⟨⟨[]⟩⟩ false (by kernel_rfl) w).mono ?_
      rintro e w' ⟨rfl, hb⟩
      exact ⟨ret_rp_false (by unfold RP lD lS lI lZ lG lC lT; omega), hb⟩
    · refine (rr_of _ (kn_cons (kn_neq 3 0 false (decide_eq_false (h1))) (kn_cons (kn_neq 1 0 false (decide_eq_false (h0))) base)) 16 true ⟨⟨[]⟩⟩ false (by kernel_rfl) w).mono ?_
      rintro e w' ⟨rfl, hb⟩
      exact ⟨ret_rp_false (by unfold RP lD lS lI lZ lG lC lT; omega), hb⟩
theorem rr_30_00 (dst src imm size cond : Int) (b : UInt8) (bs : List UInt8) (w : World) (d1 : 0 ≤ dst) (d2 : dst ≤ 15) (s1 : 0 ≤ src) (s2 : src ≤ 15) (i1 : -2147483648 ≤ imm) (i2 : imm ≤ 2147483647) :
    Calls Try.prog 14 #[.agg #[.int .i64 30, .int .i64 dst, .int .i64 src, .int .i64 imm, .int .i64 size, .bool false, .int .i64 cond, .string ⟨⟨b :: bs⟩⟩]] w fun en w' => RightIs (RP 30 dst src imm size 0 cond 0) en ∧ Below w.heap.size w w' := by
  have base := (kn_cons (kn_lss 0 0 false (decide_eq_false (show ¬ (dst < 0) by omega))) (kn_cons (kn_gtr 0 15 false (decide_eq_false (show ¬ (dst > 15) by omega))) (kn_cons (kn_lss 1 0 false (decide_eq_false (show ¬ (src < 0) by omega))) (kn_cons (kn_gtr 1 15 false (decide_eq_false (show ¬ (src > 15) by omega))) (kn_cons (kn_lss 2 (-2147483648) false (decide_eq_false (show ¬ (imm < (-2147483648)) by omega))) (kn_cons (kn_gtr 2 2147483647 false (decide_eq_false (show ¬ (imm > 2147483647) by omega))) (kn_nil (m5 dst src imm size cond))))))))
  by_cases h0 : imm ≠ 0
  · refine (rr_of _ (kn_cons (kn_neq 2 0 true (decide_eq_true (h0))) base) 30 false ⟨⟨b :: bs⟩⟩ false (by kernel_rfl) w).mono ?_
    rintro e w' ⟨rfl, hb⟩
    exact ⟨ret_rp_false (by unfold RP lD lS lI lZ lG lC lT; omega), hb⟩
  · by_cases h1 : cond ≠ 0
    · refine (rr_of _ (kn_cons (kn_neq 4 0 true (decide_eq_true (h1))) (kn_cons (kn_neq 2 0 false (decide_eq_false (h0))) base)) 30 false ⟨⟨b :: bs⟩⟩ false (by kernel_rfl) w).mono ?_
      rintro e w' ⟨rfl, hb⟩
      exact ⟨ret_rp_false (by unfold RP lD lS lI lZ lG lC lT; omega), hb⟩
    · refine (rr_of _ (kn_cons (kn_neq 4 0 false (decide_eq_false (h1))) (kn_cons (kn_neq 2 0 false (decide_eq_false (h0))) base)) 30 false ⟨⟨b :: bs⟩⟩ false (by kernel_rfl) w).mono ?_
      rintro e w' ⟨rfl, hb⟩
      exact ⟨ret_rp_false (by unfold RP lD lS lI lZ lG lC lT; omega), hb⟩
theorem rr_30_01 (dst src imm size cond : Int) (w : World) (d1 : 0 ≤ dst) (d2 : dst ≤ 15) (s1 : 0 ≤ src) (s2 : src ≤ 15) (i1 : -2147483648 ≤ imm) (i2 : imm ≤ 2147483647) :
    Calls Try.prog 14 #[.agg #[.int .i64 30, .int .i64 dst, .int .i64 src, .int .i64 imm, .int .i64 size, .bool false, .int .i64 cond, .string ⟨⟨[]⟩⟩]] w fun en w' => RightIs (RP 30 dst src imm size 0 cond 1) en ∧ Below w.heap.size w w' := by
  have base := (kn_cons (kn_lss 0 0 false (decide_eq_false (show ¬ (dst < 0) by omega))) (kn_cons (kn_gtr 0 15 false (decide_eq_false (show ¬ (dst > 15) by omega))) (kn_cons (kn_lss 1 0 false (decide_eq_false (show ¬ (src < 0) by omega))) (kn_cons (kn_gtr 1 15 false (decide_eq_false (show ¬ (src > 15) by omega))) (kn_cons (kn_lss 2 (-2147483648) false (decide_eq_false (show ¬ (imm < (-2147483648)) by omega))) (kn_cons (kn_gtr 2 2147483647 false (decide_eq_false (show ¬ (imm > 2147483647) by omega))) (kn_nil (m5 dst src imm size cond))))))))
  by_cases h0 : imm ≠ 0
  · refine (rr_of _ (kn_cons (kn_neq 2 0 true (decide_eq_true (h0))) base) 30 false ⟨⟨[]⟩⟩ false (by kernel_rfl) w).mono ?_
    rintro e w' ⟨rfl, hb⟩
    exact ⟨ret_rp_false (by unfold RP lD lS lI lZ lG lC lT; omega), hb⟩
  · by_cases h1 : cond ≠ 0
    · refine (rr_of _ (kn_cons (kn_neq 4 0 true (decide_eq_true (h1))) (kn_cons (kn_neq 2 0 false (decide_eq_false (h0))) base)) 30 false ⟨⟨[]⟩⟩ false (by kernel_rfl) w).mono ?_
      rintro e w' ⟨rfl, hb⟩
      exact ⟨ret_rp_false (by unfold RP lD lS lI lZ lG lC lT; omega), hb⟩
    · by_cases h2 : size ≠ 1
      · by_cases h3 : size ≠ 2
        · by_cases h4 : size ≠ 4
          · by_cases h5 : size ≠ 8
            · refine (rr_of _ (kn_cons (kn_neq 3 8 true (decide_eq_true (h5))) (kn_cons (kn_neq 3 4 true (decide_eq_true (h4))) (kn_cons (kn_neq 3 2 true (decide_eq_true (h3))) (kn_cons (kn_neq 3 1 true (decide_eq_true (h2))) (kn_cons (kn_neq 4 0 false (decide_eq_false (h1))) (kn_cons (kn_neq 2 0 false (decide_eq_false (h0))) base)))))) 30 false ⟨⟨[]⟩⟩ false (by kernel_rfl) w).mono ?_
              rintro e w' ⟨rfl, hb⟩
              exact ⟨ret_rp_false (by unfold RP lD lS lI lZ lG lC lT; omega), hb⟩
            · refine (rr_of _ (kn_cons (kn_neq 3 8 false (decide_eq_false (h5))) (kn_cons (kn_neq 3 4 true (decide_eq_true (h4))) (kn_cons (kn_neq 3 2 true (decide_eq_true (h3))) (kn_cons (kn_neq 3 1 true (decide_eq_true (h2))) (kn_cons (kn_neq 4 0 false (decide_eq_false (h1))) (kn_cons (kn_neq 2 0 false (decide_eq_false (h0))) base)))))) 30 false ⟨⟨[]⟩⟩ false (by kernel_rfl) w).mono ?_
              rintro e w' ⟨rfl, hb⟩
              exact ⟨ret_rp_false (by unfold RP lD lS lI lZ lG lC lT; omega), hb⟩
          · refine (rr_of _ (kn_cons (kn_neq 3 4 false (decide_eq_false (h4))) (kn_cons (kn_neq 3 2 true (decide_eq_true (h3))) (kn_cons (kn_neq 3 1 true (decide_eq_true (h2))) (kn_cons (kn_neq 4 0 false (decide_eq_false (h1))) (kn_cons (kn_neq 2 0 false (decide_eq_false (h0))) base))))) 30 false ⟨⟨[]⟩⟩ true (by kernel_rfl) w).mono ?_
            rintro e w' ⟨rfl, hb⟩
            exact ⟨ret_rp_true (by unfold RP lD lS lI lZ lG lC lT; omega), hb⟩
        · refine (rr_of _ (kn_cons (kn_neq 3 2 false (decide_eq_false (h3))) (kn_cons (kn_neq 3 1 true (decide_eq_true (h2))) (kn_cons (kn_neq 4 0 false (decide_eq_false (h1))) (kn_cons (kn_neq 2 0 false (decide_eq_false (h0))) base)))) 30 false ⟨⟨[]⟩⟩ true (by kernel_rfl) w).mono ?_
          rintro e w' ⟨rfl, hb⟩
          exact ⟨ret_rp_true (by unfold RP lD lS lI lZ lG lC lT; omega), hb⟩
      · refine (rr_of _ (kn_cons (kn_neq 3 1 false (decide_eq_false (h2))) (kn_cons (kn_neq 4 0 false (decide_eq_false (h1))) (kn_cons (kn_neq 2 0 false (decide_eq_false (h0))) base))) 30 false ⟨⟨[]⟩⟩ true (by kernel_rfl) w).mono ?_
        rintro e w' ⟨rfl, hb⟩
        exact ⟨ret_rp_true (by unfold RP lD lS lI lZ lG lC lT; omega), hb⟩
theorem rr_30_10 (dst src imm size cond : Int) (b : UInt8) (bs : List UInt8) (w : World) (d1 : 0 ≤ dst) (d2 : dst ≤ 15) (s1 : 0 ≤ src) (s2 : src ≤ 15) (i1 : -2147483648 ≤ imm) (i2 : imm ≤ 2147483647) :
    Calls Try.prog 14 #[.agg #[.int .i64 30, .int .i64 dst, .int .i64 src, .int .i64 imm, .int .i64 size, .bool true, .int .i64 cond, .string ⟨⟨b :: bs⟩⟩]] w fun en w' => RightIs (RP 30 dst src imm size 1 cond 0) en ∧ Below w.heap.size w w' := by
  have base := (kn_cons (kn_lss 0 0 false (decide_eq_false (show ¬ (dst < 0) by omega))) (kn_cons (kn_gtr 0 15 false (decide_eq_false (show ¬ (dst > 15) by omega))) (kn_cons (kn_lss 1 0 false (decide_eq_false (show ¬ (src < 0) by omega))) (kn_cons (kn_gtr 1 15 false (decide_eq_false (show ¬ (src > 15) by omega))) (kn_cons (kn_lss 2 (-2147483648) false (decide_eq_false (show ¬ (imm < (-2147483648)) by omega))) (kn_cons (kn_gtr 2 2147483647 false (decide_eq_false (show ¬ (imm > 2147483647) by omega))) (kn_nil (m5 dst src imm size cond))))))))
  by_cases h0 : imm ≠ 0
  · refine (rr_of _ (kn_cons (kn_neq 2 0 true (decide_eq_true (h0))) base) 30 true ⟨⟨b :: bs⟩⟩ false (by kernel_rfl) w).mono ?_
    rintro e w' ⟨rfl, hb⟩
    exact ⟨ret_rp_false (by unfold RP lD lS lI lZ lG lC lT; omega), hb⟩
  · by_cases h1 : cond ≠ 0
    · refine (rr_of _ (kn_cons (kn_neq 4 0 true (decide_eq_true (h1))) (kn_cons (kn_neq 2 0 false (decide_eq_false (h0))) base)) 30 true ⟨⟨b :: bs⟩⟩ false (by kernel_rfl) w).mono ?_
      rintro e w' ⟨rfl, hb⟩
      exact ⟨ret_rp_false (by unfold RP lD lS lI lZ lG lC lT; omega), hb⟩
    · refine (rr_of _ (kn_cons (kn_neq 4 0 false (decide_eq_false (h1))) (kn_cons (kn_neq 2 0 false (decide_eq_false (h0))) base)) 30 true ⟨⟨b :: bs⟩⟩ false (by kernel_rfl) w).mono ?_
      rintro e w' ⟨rfl, hb⟩
      exact ⟨ret_rp_false (by unfold RP lD lS lI lZ lG lC lT; omega), hb⟩
theorem rr_30_11 (dst src imm size cond : Int) (w : World) (d1 : 0 ≤ dst) (d2 : dst ≤ 15) (s1 : 0 ≤ src) (s2 : src ≤ 15) (i1 : -2147483648 ≤ imm) (i2 : imm ≤ 2147483647) :
    Calls Try.prog 14 #[.agg #[.int .i64 30, .int .i64 dst, .int .i64 src, .int .i64 imm, .int .i64 size, .bool true, .int .i64 cond, .string ⟨⟨[]⟩⟩]] w fun en w' => RightIs (RP 30 dst src imm size 1 cond 1) en ∧ Below w.heap.size w w' := by
  have base := (kn_cons (kn_lss 0 0 false (decide_eq_false (show ¬ (dst < 0) by omega))) (kn_cons (kn_gtr 0 15 false (decide_eq_false (show ¬ (dst > 15) by omega))) (kn_cons (kn_lss 1 0 false (decide_eq_false (show ¬ (src < 0) by omega))) (kn_cons (kn_gtr 1 15 false (decide_eq_false (show ¬ (src > 15) by omega))) (kn_cons (kn_lss 2 (-2147483648) false (decide_eq_false (show ¬ (imm < (-2147483648)) by omega))) (kn_cons (kn_gtr 2 2147483647 false (decide_eq_false (show ¬ (imm > 2147483647) by omega))) (kn_nil (m5 dst src imm size cond))))))))
  by_cases h0 : imm ≠ 0
  · refine (rr_of _ (kn_cons (kn_neq 2 0 true (decide_eq_true (h0))) base) 30 true ⟨⟨[]⟩⟩ false (by kernel_rfl) w).mono ?_
    rintro e w' ⟨rfl, hb⟩
    exact ⟨ret_rp_false (by unfold RP lD lS lI lZ lG lC lT; omega), hb⟩
  · by_cases h1 : cond ≠ 0
    · refine (rr_of _ (kn_cons (kn_neq 4 0 true (decide_eq_true (h1))) (kn_cons (kn_neq 2 0 false (decide_eq_false (h0))) base)) 30 true ⟨⟨[]⟩⟩ false (by kernel_rfl) w).mono ?_
      rintro e w' ⟨rfl, hb⟩
      exact ⟨ret_rp_false (by unfold RP lD lS lI lZ lG lC lT; omega), hb⟩
    · by_cases h2 : size ≠ 1
      · by_cases h3 : size ≠ 2
        · by_cases h4 : size ≠ 4
          · by_cases h5 : size ≠ 8
            · refine (rr_of _ (kn_cons (kn_neq 3 8 true (decide_eq_true (h5))) (kn_cons (kn_neq 3 4 true (decide_eq_true (h4))) (kn_cons (kn_neq 3 2 true (decide_eq_true (h3))) (kn_cons (kn_neq 3 1 true (decide_eq_true (h2))) (kn_cons (kn_neq 4 0 false (decide_eq_false (h1))) (kn_cons (kn_neq 2 0 false (decide_eq_false (h0))) base)))))) 30 true ⟨⟨[]⟩⟩ false (by kernel_rfl) w).mono ?_
              rintro e w' ⟨rfl, hb⟩
              exact ⟨ret_rp_false (by unfold RP lD lS lI lZ lG lC lT; omega), hb⟩
            · refine (rr_of _ (kn_cons (kn_neq 3 8 false (decide_eq_false (h5))) (kn_cons (kn_neq 3 4 true (decide_eq_true (h4))) (kn_cons (kn_neq 3 2 true (decide_eq_true (h3))) (kn_cons (kn_neq 3 1 true (decide_eq_true (h2))) (kn_cons (kn_neq 4 0 false (decide_eq_false (h1))) (kn_cons (kn_neq 2 0 false (decide_eq_false (h0))) base)))))) 30 true ⟨⟨[]⟩⟩ false (by kernel_rfl) w).mono ?_
              rintro e w' ⟨rfl, hb⟩
              exact ⟨ret_rp_false (by unfold RP lD lS lI lZ lG lC lT; omega), hb⟩
          · refine (rr_of _ (kn_cons (kn_eql 3 8 false (decide_eq_false (show ¬ (size = 8) by omega))) (kn_cons (kn_neq 3 4 false (decide_eq_false (h4))) (kn_cons (kn_neq 3 2 true (decide_eq_true (h3))) (kn_cons (kn_neq 3 1 true (decide_eq_true (h2))) (kn_cons (kn_neq 4 0 false (decide_eq_false (h1))) (kn_cons (kn_neq 2 0 false (decide_eq_false (h0))) base)))))) 30 true ⟨⟨[]⟩⟩ true (by kernel_rfl) w).mono ?_
            rintro e w' ⟨rfl, hb⟩
            exact ⟨ret_rp_true (by unfold RP lD lS lI lZ lG lC lT; omega), hb⟩
        · refine (rr_of _ (kn_cons (kn_eql 3 8 false (decide_eq_false (show ¬ (size = 8) by omega))) (kn_cons (kn_neq 3 2 false (decide_eq_false (h3))) (kn_cons (kn_neq 3 1 true (decide_eq_true (h2))) (kn_cons (kn_neq 4 0 false (decide_eq_false (h1))) (kn_cons (kn_neq 2 0 false (decide_eq_false (h0))) base))))) 30 true ⟨⟨[]⟩⟩ true (by kernel_rfl) w).mono ?_
          rintro e w' ⟨rfl, hb⟩
          exact ⟨ret_rp_true (by unfold RP lD lS lI lZ lG lC lT; omega), hb⟩
      · refine (rr_of _ (kn_cons (kn_eql 3 8 false (decide_eq_false (show ¬ (size = 8) by omega))) (kn_cons (kn_neq 3 1 false (decide_eq_false (h2))) (kn_cons (kn_neq 4 0 false (decide_eq_false (h1))) (kn_cons (kn_neq 2 0 false (decide_eq_false (h0))) base)))) 30 true ⟨⟨[]⟩⟩ true (by kernel_rfl) w).mono ?_
        rintro e w' ⟨rfl, hb⟩
        exact ⟨ret_rp_true (by unfold RP lD lS lI lZ lG lC lT; omega), hb⟩
theorem rr_37_00 (dst src imm size cond : Int) (b : UInt8) (bs : List UInt8) (w : World) (d1 : 0 ≤ dst) (d2 : dst ≤ 15) (s1 : 0 ≤ src) (s2 : src ≤ 15) (i1 : -2147483648 ≤ imm) (i2 : imm ≤ 2147483647) :
    Calls Try.prog 14 #[.agg #[.int .i64 37, .int .i64 dst, .int .i64 src, .int .i64 imm, .int .i64 size, .bool false, .int .i64 cond, .string ⟨⟨b :: bs⟩⟩]] w fun en w' => RightIs (RP 37 dst src imm size 0 cond 0) en ∧ Below w.heap.size w w' := by
  have base := (kn_cons (kn_lss 0 0 false (decide_eq_false (show ¬ (dst < 0) by omega))) (kn_cons (kn_gtr 0 15 false (decide_eq_false (show ¬ (dst > 15) by omega))) (kn_cons (kn_lss 1 0 false (decide_eq_false (show ¬ (src < 0) by omega))) (kn_cons (kn_gtr 1 15 false (decide_eq_false (show ¬ (src > 15) by omega))) (kn_cons (kn_lss 2 (-2147483648) false (decide_eq_false (show ¬ (imm < (-2147483648)) by omega))) (kn_cons (kn_gtr 2 2147483647 false (decide_eq_false (show ¬ (imm > 2147483647) by omega))) (kn_nil (m5 dst src imm size cond))))))))
  by_cases h0 : src ≠ 0
  · refine (rr_of _ (kn_cons (kn_neq 1 0 true (decide_eq_true (h0))) base) 37 false ⟨⟨b :: bs⟩⟩ false (by kernel_rfl) w).mono ?_
    rintro e w' ⟨rfl, hb⟩
    exact ⟨ret_rp_false (by unfold RP lD lS lI lZ lG lC lT; omega), hb⟩
  · by_cases h1 : imm ≠ 0
    · refine (rr_of _ (kn_cons (kn_neq 2 0 true (decide_eq_true (h1))) (kn_cons (kn_neq 1 0 false (decide_eq_false (h0))) base)) 37 false ⟨⟨b :: bs⟩⟩ false (by kernel_rfl) w).mono ?_
      rintro e w' ⟨rfl, hb⟩
      exact ⟨ret_rp_false (by unfold RP lD lS lI lZ lG lC lT; omega), hb⟩
    · by_cases h2 : size ≠ 0
      · refine (rr_of _ (kn_cons (kn_neq 3 0 true (decide_eq_true (h2))) (kn_cons (kn_neq 2 0 false (decide_eq_false (h1))) (kn_cons (kn_neq 1 0 false (decide_eq_false (h0))) base))) 37 false ⟨⟨b :: bs⟩⟩ false (by kernel_rfl) w).mono ?_
        rintro e w' ⟨rfl, hb⟩
        exact ⟨ret_rp_false (by unfold RP lD lS lI lZ lG lC lT; omega), hb⟩
      · by_cases h3 : cond ≠ 0
        · refine (rr_of _ (kn_cons (kn_neq 4 0 true (decide_eq_true (h3))) (kn_cons (kn_neq 3 0 false (decide_eq_false (h2))) (kn_cons (kn_neq 2 0 false (decide_eq_false (h1))) (kn_cons (kn_neq 1 0 false (decide_eq_false (h0))) base)))) 37 false ⟨⟨b :: bs⟩⟩ false (by kernel_rfl) w).mono ?_
          rintro e w' ⟨rfl, hb⟩
          exact ⟨ret_rp_false (by unfold RP lD lS lI lZ lG lC lT; omega), hb⟩
        · refine (rr_of _ (kn_cons (kn_neq 4 0 false (decide_eq_false (h3))) (kn_cons (kn_neq 3 0 false (decide_eq_false (h2))) (kn_cons (kn_neq 2 0 false (decide_eq_false (h1))) (kn_cons (kn_neq 1 0 false (decide_eq_false (h0))) base)))) 37 false ⟨⟨b :: bs⟩⟩ false (by kernel_rfl) w).mono ?_
          rintro e w' ⟨rfl, hb⟩
          exact ⟨ret_rp_false (by unfold RP lD lS lI lZ lG lC lT; omega), hb⟩
theorem rr_37_01 (dst src imm size cond : Int) (w : World) (d1 : 0 ≤ dst) (d2 : dst ≤ 15) (s1 : 0 ≤ src) (s2 : src ≤ 15) (i1 : -2147483648 ≤ imm) (i2 : imm ≤ 2147483647) :
    Calls Try.prog 14 #[.agg #[.int .i64 37, .int .i64 dst, .int .i64 src, .int .i64 imm, .int .i64 size, .bool false, .int .i64 cond, .string ⟨⟨[]⟩⟩]] w fun en w' => RightIs (RP 37 dst src imm size 0 cond 1) en ∧ Below w.heap.size w w' := by
  have base := (kn_cons (kn_lss 0 0 false (decide_eq_false (show ¬ (dst < 0) by omega))) (kn_cons (kn_gtr 0 15 false (decide_eq_false (show ¬ (dst > 15) by omega))) (kn_cons (kn_lss 1 0 false (decide_eq_false (show ¬ (src < 0) by omega))) (kn_cons (kn_gtr 1 15 false (decide_eq_false (show ¬ (src > 15) by omega))) (kn_cons (kn_lss 2 (-2147483648) false (decide_eq_false (show ¬ (imm < (-2147483648)) by omega))) (kn_cons (kn_gtr 2 2147483647 false (decide_eq_false (show ¬ (imm > 2147483647) by omega))) (kn_nil (m5 dst src imm size cond))))))))
  by_cases h0 : src ≠ 0
  · refine (rr_of _ (kn_cons (kn_neq 1 0 true (decide_eq_true (h0))) base) 37 false ⟨⟨[]⟩⟩ false (by kernel_rfl) w).mono ?_
    rintro e w' ⟨rfl, hb⟩
    exact ⟨ret_rp_false (by unfold RP lD lS lI lZ lG lC lT; omega), hb⟩
  · by_cases h1 : imm ≠ 0
    · refine (rr_of _ (kn_cons (kn_neq 2 0 true (decide_eq_true (h1))) (kn_cons (kn_neq 1 0 false (decide_eq_false (h0))) base)) 37 false ⟨⟨[]⟩⟩ false (by kernel_rfl) w).mono ?_
      rintro e w' ⟨rfl, hb⟩
      exact ⟨ret_rp_false (by unfold RP lD lS lI lZ lG lC lT; omega), hb⟩
    · by_cases h2 : size ≠ 0
      · refine (rr_of _ (kn_cons (kn_neq 3 0 true (decide_eq_true (h2))) (kn_cons (kn_neq 2 0 false (decide_eq_false (h1))) (kn_cons (kn_neq 1 0 false (decide_eq_false (h0))) base))) 37 false ⟨⟨[]⟩⟩ false (by kernel_rfl) w).mono ?_
        rintro e w' ⟨rfl, hb⟩
        exact ⟨ret_rp_false (by unfold RP lD lS lI lZ lG lC lT; omega), hb⟩
      · by_cases h3 : cond ≠ 0
        · refine (rr_of _ (kn_cons (kn_neq 4 0 true (decide_eq_true (h3))) (kn_cons (kn_neq 3 0 false (decide_eq_false (h2))) (kn_cons (kn_neq 2 0 false (decide_eq_false (h1))) (kn_cons (kn_neq 1 0 false (decide_eq_false (h0))) base)))) 37 false ⟨⟨[]⟩⟩ false (by kernel_rfl) w).mono ?_
          rintro e w' ⟨rfl, hb⟩
          exact ⟨ret_rp_false (by unfold RP lD lS lI lZ lG lC lT; omega), hb⟩
        · refine (rr_of _ (kn_cons (kn_neq 4 0 false (decide_eq_false (h3))) (kn_cons (kn_neq 3 0 false (decide_eq_false (h2))) (kn_cons (kn_neq 2 0 false (decide_eq_false (h1))) (kn_cons (kn_neq 1 0 false (decide_eq_false (h0))) base)))) 37 false ⟨⟨[]⟩⟩ true (by kernel_rfl) w).mono ?_
          rintro e w' ⟨rfl, hb⟩
          exact ⟨ret_rp_true (by unfold RP lD lS lI lZ lG lC lT; omega), hb⟩
theorem rr_37_10 (dst src imm size cond : Int) (b : UInt8) (bs : List UInt8) (w : World) (d1 : 0 ≤ dst) (d2 : dst ≤ 15) (s1 : 0 ≤ src) (s2 : src ≤ 15) (i1 : -2147483648 ≤ imm) (i2 : imm ≤ 2147483647) :
    Calls Try.prog 14 #[.agg #[.int .i64 37, .int .i64 dst, .int .i64 src, .int .i64 imm, .int .i64 size, .bool true, .int .i64 cond, .string ⟨⟨b :: bs⟩⟩]] w fun en w' => RightIs (RP 37 dst src imm size 1 cond 0) en ∧ Below w.heap.size w w' := by
  have base := (kn_cons (kn_lss 0 0 false (decide_eq_false (show ¬ (dst < 0) by omega))) (kn_cons (kn_gtr 0 15 false (decide_eq_false (show ¬ (dst > 15) by omega))) (kn_cons (kn_lss 1 0 false (decide_eq_false (show ¬ (src < 0) by omega))) (kn_cons (kn_gtr 1 15 false (decide_eq_false (show ¬ (src > 15) by omega))) (kn_cons (kn_lss 2 (-2147483648) false (decide_eq_false (show ¬ (imm < (-2147483648)) by omega))) (kn_cons (kn_gtr 2 2147483647 false (decide_eq_false (show ¬ (imm > 2147483647) by omega))) (kn_nil (m5 dst src imm size cond))))))))
  by_cases h0 : src ≠ 0
  · refine (rr_of _ (kn_cons (kn_neq 1 0 true (decide_eq_true (h0))) base) 37 true ⟨⟨b :: bs⟩⟩ false (by kernel_rfl) w).mono ?_
    rintro e w' ⟨rfl, hb⟩
    exact ⟨ret_rp_false (by unfold RP lD lS lI lZ lG lC lT; omega), hb⟩
  · by_cases h1 : imm ≠ 0
    · refine (rr_of _ (kn_cons (kn_neq 2 0 true (decide_eq_true (h1))) (kn_cons (kn_neq 1 0 false (decide_eq_false (h0))) base)) 37 true ⟨⟨b :: bs⟩⟩ false (by kernel_rfl) w).mono ?_
      rintro e w' ⟨rfl, hb⟩
      exact ⟨ret_rp_false (by unfold RP lD lS lI lZ lG lC lT; omega), hb⟩
    · by_cases h2 : size ≠ 0
      · refine (rr_of _ (kn_cons (kn_neq 3 0 true (decide_eq_true (h2))) (kn_cons (kn_neq 2 0 false (decide_eq_false (h1))) (kn_cons (kn_neq 1 0 false (decide_eq_false (h0))) base))) 37 true ⟨⟨b :: bs⟩⟩ false (by kernel_rfl) w).mono ?_
        rintro e w' ⟨rfl, hb⟩
        exact ⟨ret_rp_false (by unfold RP lD lS lI lZ lG lC lT; omega), hb⟩
      · refine (rr_of _ (kn_cons (kn_neq 3 0 false (decide_eq_false (h2))) (kn_cons (kn_neq 2 0 false (decide_eq_false (h1))) (kn_cons (kn_neq 1 0 false (decide_eq_false (h0))) base))) 37 true ⟨⟨b :: bs⟩⟩ false (by kernel_rfl) w).mono ?_
        rintro e w' ⟨rfl, hb⟩
        exact ⟨ret_rp_false (by unfold RP lD lS lI lZ lG lC lT; omega), hb⟩
theorem rr_37_11 (dst src imm size cond : Int) (w : World) (d1 : 0 ≤ dst) (d2 : dst ≤ 15) (s1 : 0 ≤ src) (s2 : src ≤ 15) (i1 : -2147483648 ≤ imm) (i2 : imm ≤ 2147483647) :
    Calls Try.prog 14 #[.agg #[.int .i64 37, .int .i64 dst, .int .i64 src, .int .i64 imm, .int .i64 size, .bool true, .int .i64 cond, .string ⟨⟨[]⟩⟩]] w fun en w' => RightIs (RP 37 dst src imm size 1 cond 1) en ∧ Below w.heap.size w w' := by
  have base := (kn_cons (kn_lss 0 0 false (decide_eq_false (show ¬ (dst < 0) by omega))) (kn_cons (kn_gtr 0 15 false (decide_eq_false (show ¬ (dst > 15) by omega))) (kn_cons (kn_lss 1 0 false (decide_eq_false (show ¬ (src < 0) by omega))) (kn_cons (kn_gtr 1 15 false (decide_eq_false (show ¬ (src > 15) by omega))) (kn_cons (kn_lss 2 (-2147483648) false (decide_eq_false (show ¬ (imm < (-2147483648)) by omega))) (kn_cons (kn_gtr 2 2147483647 false (decide_eq_false (show ¬ (imm > 2147483647) by omega))) (kn_nil (m5 dst src imm size cond))))))))
  by_cases h0 : src ≠ 0
  · refine (rr_of _ (kn_cons (kn_neq 1 0 true (decide_eq_true (h0))) base) 37 true ⟨⟨[]⟩⟩ false (by kernel_rfl) w).mono ?_
    rintro e w' ⟨rfl, hb⟩
    exact ⟨ret_rp_false (by unfold RP lD lS lI lZ lG lC lT; omega), hb⟩
  · by_cases h1 : imm ≠ 0
    · refine (rr_of _ (kn_cons (kn_neq 2 0 true (decide_eq_true (h1))) (kn_cons (kn_neq 1 0 false (decide_eq_false (h0))) base)) 37 true ⟨⟨[]⟩⟩ false (by kernel_rfl) w).mono ?_
      rintro e w' ⟨rfl, hb⟩
      exact ⟨ret_rp_false (by unfold RP lD lS lI lZ lG lC lT; omega), hb⟩
    · by_cases h2 : size ≠ 0
      · refine (rr_of _ (kn_cons (kn_neq 3 0 true (decide_eq_true (h2))) (kn_cons (kn_neq 2 0 false (decide_eq_false (h1))) (kn_cons (kn_neq 1 0 false (decide_eq_false (h0))) base))) 37 true ⟨⟨[]⟩⟩ false (by kernel_rfl) w).mono ?_
        rintro e w' ⟨rfl, hb⟩
        exact ⟨ret_rp_false (by unfold RP lD lS lI lZ lG lC lT; omega), hb⟩
      · refine (rr_of _ (kn_cons (kn_neq 3 0 false (decide_eq_false (h2))) (kn_cons (kn_neq 2 0 false (decide_eq_false (h1))) (kn_cons (kn_neq 1 0 false (decide_eq_false (h0))) base))) 37 true ⟨⟨[]⟩⟩ false (by kernel_rfl) w).mono ?_
        rintro e w' ⟨rfl, hb⟩
        exact ⟨ret_rp_false (by unfold RP lD lS lI lZ lG lC lT; omega), hb⟩
end Go.Proofs.Yteeodbjpmofhhaa
