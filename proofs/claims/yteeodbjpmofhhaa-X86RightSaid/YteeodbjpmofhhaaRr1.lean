/- The document's Right, run: operations 4, 5, 14, 21, 27, 40. No condition. -/
import Derived.Test.YteeodbjpmofhhaaRr
namespace Go.Proofs.Yteeodbjpmofhhaa
open Go.RowKit
set_option linter.unusedVariables false
theorem rr_4_00 (dst src imm size cond : Int) (b : UInt8) (bs : List UInt8) (w : World) (d1 : 0 ≤ dst) (d2 : dst ≤ 15) (s1 : 0 ≤ src) (s2 : src ≤ 15) (i1 : -2147483648 ≤ imm) (i2 : imm ≤ 2147483647) :
    Calls Try.prog 14 #[.agg #[.int .i64 4, .int .i64 dst, .int .i64 src, .int .i64 imm, .int .i64 size, .bool false, .int .i64 cond, .string ⟨⟨b :: bs⟩⟩]] w fun en w' => RightIs (RP 4 dst src imm size 0 cond 0) en ∧ Below w.heap.size w w' := by
  have base := (kn_cons (kn_lss 0 0 false (decide_eq_false (show ¬ (dst < 0) by omega))) (kn_cons (kn_gtr 0 15 false (decide_eq_false (show ¬ (dst > 15) by omega))) (kn_cons (kn_lss 1 0 false (decide_eq_false (show ¬ (src < 0) by omega))) (kn_cons (kn_gtr 1 15 false (decide_eq_false (show ¬ (src > 15) by omega))) (kn_cons (kn_lss 2 (-2147483648) false (decide_eq_false (show ¬ (imm < (-2147483648)) by omega))) (kn_cons (kn_gtr 2 2147483647 false (decide_eq_false (show ¬ (imm > 2147483647) by omega))) (kn_nil (m5 dst src imm size cond))))))))
  by_cases h0 : cond ≠ 0
  · refine (rr_of _ (kn_cons (kn_neq 4 0 true (decide_eq_true (h0))) base) 4 false ⟨⟨b :: bs⟩⟩ false (by kernel_rfl) w).mono ?_
    rintro e w' ⟨rfl, hb⟩
    exact ⟨ret_rp_false (by unfold RP lD lS lI lZ lG lC lT; omega), hb⟩
  · refine (rr_of _ (kn_cons (kn_neq 4 0 false (decide_eq_false (h0))) base) 4 false ⟨⟨b :: bs⟩⟩ false (by kernel_rfl) w).mono ?_
    rintro e w' ⟨rfl, hb⟩
    exact ⟨ret_rp_false (by unfold RP lD lS lI lZ lG lC lT; omega), hb⟩
theorem rr_4_01 (dst src imm size cond : Int) (w : World) (d1 : 0 ≤ dst) (d2 : dst ≤ 15) (s1 : 0 ≤ src) (s2 : src ≤ 15) (i1 : -2147483648 ≤ imm) (i2 : imm ≤ 2147483647) :
    Calls Try.prog 14 #[.agg #[.int .i64 4, .int .i64 dst, .int .i64 src, .int .i64 imm, .int .i64 size, .bool false, .int .i64 cond, .string ⟨⟨[]⟩⟩]] w fun en w' => RightIs (RP 4 dst src imm size 0 cond 1) en ∧ Below w.heap.size w w' := by
  have base := (kn_cons (kn_lss 0 0 false (decide_eq_false (show ¬ (dst < 0) by omega))) (kn_cons (kn_gtr 0 15 false (decide_eq_false (show ¬ (dst > 15) by omega))) (kn_cons (kn_lss 1 0 false (decide_eq_false (show ¬ (src < 0) by omega))) (kn_cons (kn_gtr 1 15 false (decide_eq_false (show ¬ (src > 15) by omega))) (kn_cons (kn_lss 2 (-2147483648) false (decide_eq_false (show ¬ (imm < (-2147483648)) by omega))) (kn_cons (kn_gtr 2 2147483647 false (decide_eq_false (show ¬ (imm > 2147483647) by omega))) (kn_nil (m5 dst src imm size cond))))))))
  by_cases h0 : cond ≠ 0
  · refine (rr_of _ (kn_cons (kn_neq 4 0 true (decide_eq_true (h0))) base) 4 false ⟨⟨[]⟩⟩ false (by kernel_rfl) w).mono ?_
    rintro e w' ⟨rfl, hb⟩
    exact ⟨ret_rp_false (by unfold RP lD lS lI lZ lG lC lT; omega), hb⟩
  · by_cases h1 : size ≠ 1
    · by_cases h2 : size ≠ 2
      · by_cases h3 : size ≠ 4
        · by_cases h4 : size ≠ 8
          · refine (rr_of _ (kn_cons (kn_neq 3 8 true (decide_eq_true (h4))) (kn_cons (kn_neq 3 4 true (decide_eq_true (h3))) (kn_cons (kn_neq 3 2 true (decide_eq_true (h2))) (kn_cons (kn_neq 3 1 true (decide_eq_true (h1))) (kn_cons (kn_neq 4 0 false (decide_eq_false (h0))) base))))) 4 false ⟨⟨[]⟩⟩ false (by kernel_rfl) w).mono ?_
            rintro e w' ⟨rfl, hb⟩
            exact ⟨ret_rp_false (by unfold RP lD lS lI lZ lG lC lT; omega), hb⟩
          · refine (rr_of _ (kn_cons (kn_neq 3 8 false (decide_eq_false (h4))) (kn_cons (kn_neq 3 4 true (decide_eq_true (h3))) (kn_cons (kn_neq 3 2 true (decide_eq_true (h2))) (kn_cons (kn_neq 3 1 true (decide_eq_true (h1))) (kn_cons (kn_neq 4 0 false (decide_eq_false (h0))) base))))) 4 false ⟨⟨[]⟩⟩ true (by kernel_rfl) w).mono ?_
            rintro e w' ⟨rfl, hb⟩
            exact ⟨ret_rp_true (by unfold RP lD lS lI lZ lG lC lT; omega), hb⟩
        · refine (rr_of _ (kn_cons (kn_neq 3 4 false (decide_eq_false (h3))) (kn_cons (kn_neq 3 2 true (decide_eq_true (h2))) (kn_cons (kn_neq 3 1 true (decide_eq_true (h1))) (kn_cons (kn_neq 4 0 false (decide_eq_false (h0))) base)))) 4 false ⟨⟨[]⟩⟩ true (by kernel_rfl) w).mono ?_
          rintro e w' ⟨rfl, hb⟩
          exact ⟨ret_rp_true (by unfold RP lD lS lI lZ lG lC lT; omega), hb⟩
      · refine (rr_of _ (kn_cons (kn_neq 3 2 false (decide_eq_false (h2))) (kn_cons (kn_neq 3 1 true (decide_eq_true (h1))) (kn_cons (kn_neq 4 0 false (decide_eq_false (h0))) base))) 4 false ⟨⟨[]⟩⟩ true (by kernel_rfl) w).mono ?_
        rintro e w' ⟨rfl, hb⟩
        exact ⟨ret_rp_true (by unfold RP lD lS lI lZ lG lC lT; omega), hb⟩
    · refine (rr_of _ (kn_cons (kn_neq 3 1 false (decide_eq_false (h1))) (kn_cons (kn_neq 4 0 false (decide_eq_false (h0))) base)) 4 false ⟨⟨[]⟩⟩ true (by kernel_rfl) w).mono ?_
      rintro e w' ⟨rfl, hb⟩
      exact ⟨ret_rp_true (by unfold RP lD lS lI lZ lG lC lT; omega), hb⟩
theorem rr_4_10 (dst src imm size cond : Int) (b : UInt8) (bs : List UInt8) (w : World) (d1 : 0 ≤ dst) (d2 : dst ≤ 15) (s1 : 0 ≤ src) (s2 : src ≤ 15) (i1 : -2147483648 ≤ imm) (i2 : imm ≤ 2147483647) :
    Calls Try.prog 14 #[.agg #[.int .i64 4, .int .i64 dst, .int .i64 src, .int .i64 imm, .int .i64 size, .bool true, .int .i64 cond, .string ⟨⟨b :: bs⟩⟩]] w fun en w' => RightIs (RP 4 dst src imm size 1 cond 0) en ∧ Below w.heap.size w w' := by
  have base := (kn_cons (kn_lss 0 0 false (decide_eq_false (show ¬ (dst < 0) by omega))) (kn_cons (kn_gtr 0 15 false (decide_eq_false (show ¬ (dst > 15) by omega))) (kn_cons (kn_lss 1 0 false (decide_eq_false (show ¬ (src < 0) by omega))) (kn_cons (kn_gtr 1 15 false (decide_eq_false (show ¬ (src > 15) by omega))) (kn_cons (kn_lss 2 (-2147483648) false (decide_eq_false (show ¬ (imm < (-2147483648)) by omega))) (kn_cons (kn_gtr 2 2147483647 false (decide_eq_false (show ¬ (imm > 2147483647) by omega))) (kn_nil (m5 dst src imm size cond))))))))
  refine (rr_of _ base 4 true ⟨⟨b :: bs⟩⟩ false (by kernel_rfl) w).mono ?_
  rintro e w' ⟨rfl, hb⟩
  exact ⟨ret_rp_false (by unfold RP lD lS lI lZ lG lC lT; omega), hb⟩
theorem rr_4_11 (dst src imm size cond : Int) (w : World) (d1 : 0 ≤ dst) (d2 : dst ≤ 15) (s1 : 0 ≤ src) (s2 : src ≤ 15) (i1 : -2147483648 ≤ imm) (i2 : imm ≤ 2147483647) :
    Calls Try.prog 14 #[.agg #[.int .i64 4, .int .i64 dst, .int .i64 src, .int .i64 imm, .int .i64 size, .bool true, .int .i64 cond, .string ⟨⟨[]⟩⟩]] w fun en w' => RightIs (RP 4 dst src imm size 1 cond 1) en ∧ Below w.heap.size w w' := by
  have base := (kn_cons (kn_lss 0 0 false (decide_eq_false (show ¬ (dst < 0) by omega))) (kn_cons (kn_gtr 0 15 false (decide_eq_false (show ¬ (dst > 15) by omega))) (kn_cons (kn_lss 1 0 false (decide_eq_false (show ¬ (src < 0) by omega))) (kn_cons (kn_gtr 1 15 false (decide_eq_false (show ¬ (src > 15) by omega))) (kn_cons (kn_lss 2 (-2147483648) false (decide_eq_false (show ¬ (imm < (-2147483648)) by omega))) (kn_cons (kn_gtr 2 2147483647 false (decide_eq_false (show ¬ (imm > 2147483647) by omega))) (kn_nil (m5 dst src imm size cond))))))))
  refine (rr_of _ base 4 true ⟨⟨[]⟩⟩ false (by kernel_rfl) w).mono ?_
  rintro e w' ⟨rfl, hb⟩
  exact ⟨ret_rp_false (by unfold RP lD lS lI lZ lG lC lT; omega), hb⟩
theorem rr_5_00 (dst src imm size cond : Int) (b : UInt8) (bs : List UInt8) (w : World) (d1 : 0 ≤ dst) (d2 : dst ≤ 15) (s1 : 0 ≤ src) (s2 : src ≤ 15) (i1 : -2147483648 ≤ imm) (i2 : imm ≤ 2147483647) :
    Calls Try.prog 14 #[.agg #[.int .i64 5, .int .i64 dst, .int .i64 src, .int .i64 imm, .int .i64 size, .bool false, .int .i64 cond, .string ⟨⟨b :: bs⟩⟩]] w fun en w' => RightIs (RP 5 dst src imm size 0 cond 0) en ∧ Below w.heap.size w w' := by
  have base := (kn_cons (kn_lss 0 0 false (decide_eq_false (show ¬ (dst < 0) by omega))) (kn_cons (kn_gtr 0 15 false (decide_eq_false (show ¬ (dst > 15) by omega))) (kn_cons (kn_lss 1 0 false (decide_eq_false (show ¬ (src < 0) by omega))) (kn_cons (kn_gtr 1 15 false (decide_eq_false (show ¬ (src > 15) by omega))) (kn_cons (kn_lss 2 (-2147483648) false (decide_eq_false (show ¬ (imm < (-2147483648)) by omega))) (kn_cons (kn_gtr 2 2147483647 false (decide_eq_false (show ¬ (imm > 2147483647) by omega))) (kn_nil (m5 dst src imm size cond))))))))
  by_cases h0 : size ≠ 0
  · refine (rr_of _ (kn_cons (kn_neq 3 0 true (decide_eq_true (h0))) base) 5 false ⟨⟨b :: bs⟩⟩ false (by kernel_rfl) w).mono ?_
    rintro e w' ⟨rfl, hb⟩
    exact ⟨ret_rp_false (by unfold RP lD lS lI lZ lG lC lT; omega), hb⟩
  · by_cases h1 : cond ≠ 0
    · refine (rr_of _ (kn_cons (kn_neq 4 0 true (decide_eq_true (h1))) (kn_cons (kn_neq 3 0 false (decide_eq_false (h0))) base)) 5 false ⟨⟨b :: bs⟩⟩ false (by kernel_rfl) w).mono ?_
      rintro e w' ⟨rfl, hb⟩
      exact ⟨ret_rp_false (by unfold RP lD lS lI lZ lG lC lT; omega), hb⟩
    · refine (rr_of _ (kn_cons (kn_neq 4 0 false (decide_eq_false (h1))) (kn_cons (kn_neq 3 0 false (decide_eq_false (h0))) base)) 5 false ⟨⟨b :: bs⟩⟩ false (by kernel_rfl) w).mono ?_
      rintro e w' ⟨rfl, hb⟩
      exact ⟨ret_rp_false (by unfold RP lD lS lI lZ lG lC lT; omega), hb⟩
theorem rr_5_01 (dst src imm size cond : Int) (w : World) (d1 : 0 ≤ dst) (d2 : dst ≤ 15) (s1 : 0 ≤ src) (s2 : src ≤ 15) (i1 : -2147483648 ≤ imm) (i2 : imm ≤ 2147483647) :
    Calls Try.prog 14 #[.agg #[.int .i64 5, .int .i64 dst, .int .i64 src, .int .i64 imm, .int .i64 size, .bool false, .int .i64 cond, .string ⟨⟨[]⟩⟩]] w fun en w' => RightIs (RP 5 dst src imm size 0 cond 1) en ∧ Below w.heap.size w w' := by
  have base := (kn_cons (kn_lss 0 0 false (decide_eq_false (show ¬ (dst < 0) by omega))) (kn_cons (kn_gtr 0 15 false (decide_eq_false (show ¬ (dst > 15) by omega))) (kn_cons (kn_lss 1 0 false (decide_eq_false (show ¬ (src < 0) by omega))) (kn_cons (kn_gtr 1 15 false (decide_eq_false (show ¬ (src > 15) by omega))) (kn_cons (kn_lss 2 (-2147483648) false (decide_eq_false (show ¬ (imm < (-2147483648)) by omega))) (kn_cons (kn_gtr 2 2147483647 false (decide_eq_false (show ¬ (imm > 2147483647) by omega))) (kn_nil (m5 dst src imm size cond))))))))
  by_cases h0 : size ≠ 0
  · refine (rr_of _ (kn_cons (kn_neq 3 0 true (decide_eq_true (h0))) base) 5 false ⟨⟨[]⟩⟩ false (by kernel_rfl) w).mono ?_
    rintro e w' ⟨rfl, hb⟩
    exact ⟨ret_rp_false (by unfold RP lD lS lI lZ lG lC lT; omega), hb⟩
  · by_cases h1 : cond ≠ 0
    · refine (rr_of _ (kn_cons (kn_neq 4 0 true (decide_eq_true (h1))) (kn_cons (kn_neq 3 0 false (decide_eq_false (h0))) base)) 5 false ⟨⟨[]⟩⟩ false (by kernel_rfl) w).mono ?_
      rintro e w' ⟨rfl, hb⟩
      exact ⟨ret_rp_false (by unfold RP lD lS lI lZ lG lC lT; omega), hb⟩
    · refine (rr_of _ (kn_cons (kn_neq 4 0 false (decide_eq_false (h1))) (kn_cons (kn_neq 3 0 false (decide_eq_false (h0))) base)) 5 false ⟨⟨[]⟩⟩ true (by kernel_rfl) w).mono ?_
      rintro e w' ⟨rfl, hb⟩
      exact ⟨ret_rp_true (by unfold RP lD lS lI lZ lG lC lT; omega), hb⟩
theorem rr_5_10 (dst src imm size cond : Int) (b : UInt8) (bs : List UInt8) (w : World) (d1 : 0 ≤ dst) (d2 : dst ≤ 15) (s1 : 0 ≤ src) (s2 : src ≤ 15) (i1 : -2147483648 ≤ imm) (i2 : imm ≤ 2147483647) :
    Calls Try.prog 14 #[.agg #[.int .i64 5, .int .i64 dst, .int .i64 src, .int .i64 imm, .int .i64 size, .bool true, .int .i64 cond, .string ⟨⟨b :: bs⟩⟩]] w fun en w' => RightIs (RP 5 dst src imm size 1 cond 0) en ∧ Below w.heap.size w w' := by
  have base := (kn_cons (kn_lss 0 0 false (decide_eq_false (show ¬ (dst < 0) by omega))) (kn_cons (kn_gtr 0 15 false (decide_eq_false (show ¬ (dst > 15) by omega))) (kn_cons (kn_lss 1 0 false (decide_eq_false (show ¬ (src < 0) by omega))) (kn_cons (kn_gtr 1 15 false (decide_eq_false (show ¬ (src > 15) by omega))) (kn_cons (kn_lss 2 (-2147483648) false (decide_eq_false (show ¬ (imm < (-2147483648)) by omega))) (kn_cons (kn_gtr 2 2147483647 false (decide_eq_false (show ¬ (imm > 2147483647) by omega))) (kn_nil (m5 dst src imm size cond))))))))
  by_cases h0 : size ≠ 0
  · refine (rr_of _ (kn_cons (kn_neq 3 0 true (decide_eq_true (h0))) base) 5 true ⟨⟨b :: bs⟩⟩ false (by kernel_rfl) w).mono ?_
    rintro e w' ⟨rfl, hb⟩
    exact ⟨ret_rp_false (by unfold RP lD lS lI lZ lG lC lT; omega), hb⟩
  · refine (rr_of _ (kn_cons (kn_neq 3 0 false (decide_eq_false (h0))) base) 5 true ⟨⟨b :: bs⟩⟩ false (by kernel_rfl) w).mono ?_
    rintro e w' ⟨rfl, hb⟩
    exact ⟨ret_rp_false (by unfold RP lD lS lI lZ lG lC lT; omega), hb⟩
theorem rr_5_11 (dst src imm size cond : Int) (w : World) (d1 : 0 ≤ dst) (d2 : dst ≤ 15) (s1 : 0 ≤ src) (s2 : src ≤ 15) (i1 : -2147483648 ≤ imm) (i2 : imm ≤ 2147483647) :
    Calls Try.prog 14 #[.agg #[.int .i64 5, .int .i64 dst, .int .i64 src, .int .i64 imm, .int .i64 size, .bool true, .int .i64 cond, .string ⟨⟨[]⟩⟩]] w fun en w' => RightIs (RP 5 dst src imm size 1 cond 1) en ∧ Below w.heap.size w w' := by
  have base := (kn_cons (kn_lss 0 0 false (decide_eq_false (show ¬ (dst < 0) by omega))) (kn_cons (kn_gtr 0 15 false (decide_eq_false (show ¬ (dst > 15) by omega))) (kn_cons (kn_lss 1 0 false (decide_eq_false (show ¬ (src < 0) by omega))) (kn_cons (kn_gtr 1 15 false (decide_eq_false (show ¬ (src > 15) by omega))) (kn_cons (kn_lss 2 (-2147483648) false (decide_eq_false (show ¬ (imm < (-2147483648)) by omega))) (kn_cons (kn_gtr 2 2147483647 false (decide_eq_false (show ¬ (imm > 2147483647) by omega))) (kn_nil (m5 dst src imm size cond))))))))
  by_cases h0 : size ≠ 0
  · refine (rr_of _ (kn_cons (kn_neq 3 0 true (decide_eq_true (h0))) base) 5 true ⟨⟨[]⟩⟩ false (by kernel_rfl) w).mono ?_
    rintro e w' ⟨rfl, hb⟩
    exact ⟨ret_rp_false (by unfold RP lD lS lI lZ lG lC lT; omega), hb⟩
  · refine (rr_of _ (kn_cons (kn_neq 3 0 false (decide_eq_false (h0))) base) 5 true ⟨⟨[]⟩⟩ false (by kernel_rfl) w).mono ?_
    rintro e w' ⟨rfl, hb⟩
    exact ⟨ret_rp_false (by unfold RP lD lS lI lZ lG lC lT; omega), hb⟩
theorem rr_14_00 (dst src imm size cond : Int) (b : UInt8) (bs : List UInt8) (w : World) (d1 : 0 ≤ dst) (d2 : dst ≤ 15) (s1 : 0 ≤ src) (s2 : src ≤ 15) (i1 : -2147483648 ≤ imm) (i2 : imm ≤ 2147483647) :
    Calls Try.prog 14 #[.agg #[.int .i64 14, .int .i64 dst, .int .i64 src, .int .i64 imm, .int .i64 size, .bool false, .int .i64 cond, .string ⟨⟨b :: bs⟩⟩]] w fun en w' => RightIs (RP 14 dst src imm size 0 cond 0) en ∧ Below w.heap.size w w' := by
  have base := (kn_cons (kn_lss 0 0 false (decide_eq_false (show ¬ (dst < 0) by omega))) (kn_cons (kn_gtr 0 15 false (decide_eq_false (show ¬ (dst > 15) by omega))) (kn_cons (kn_lss 1 0 false (decide_eq_false (show ¬ (src < 0) by omega))) (kn_cons (kn_gtr 1 15 false (decide_eq_false (show ¬ (src > 15) by omega))) (kn_cons (kn_lss 2 (-2147483648) false (decide_eq_false (show ¬ (imm < (-2147483648)) by omega))) (kn_cons (kn_gtr 2 2147483647 false (decide_eq_false (show ¬ (imm > 2147483647) by omega))) (kn_nil (m5 dst src imm size cond))))))))
  by_cases h0 : src ≠ 0
  · refine (rr_of _ (kn_cons (kn_neq 1 0 true (decide_eq_true (h0))) base) 14 false ⟨⟨b :: bs⟩⟩ false (by kernel_rfl) w).mono ?_
    rintro e w' ⟨rfl, hb⟩
    exact ⟨ret_rp_false (by unfold RP lD lS lI lZ lG lC lT; omega), hb⟩
  · by_cases h1 : size ≠ 0
    · refine (rr_of _ (kn_cons (kn_neq 3 0 true (decide_eq_true (h1))) (kn_cons (kn_neq 1 0 false (decide_eq_false (h0))) base)) 14 false ⟨⟨b :: bs⟩⟩ false (by kernel_rfl) w).mono ?_
      rintro e w' ⟨rfl, hb⟩
      exact ⟨ret_rp_false (by unfold RP lD lS lI lZ lG lC lT; omega), hb⟩
    · by_cases h2 : cond ≠ 0
      · refine (rr_of _ (kn_cons (kn_neq 4 0 true (decide_eq_true (h2))) (kn_cons (kn_neq 3 0 false (decide_eq_false (h1))) (kn_cons (kn_neq 1 0 false (decide_eq_false (h0))) base))) 14 false ⟨⟨b :: bs⟩⟩ false (by kernel_rfl) w).mono ?_
        rintro e w' ⟨rfl, hb⟩
        exact ⟨ret_rp_false (by unfold RP lD lS lI lZ lG lC lT; omega), hb⟩
      · refine (rr_of _ (kn_cons (kn_neq 4 0 false (decide_eq_false (h2))) (kn_cons (kn_neq 3 0 false (decide_eq_false (h1))) (kn_cons (kn_neq 1 0 false (decide_eq_false (h0))) base))) 14 false ⟨⟨b :: bs⟩⟩ false (by kernel_rfl) w).mono ?_
        rintro e w' ⟨rfl, hb⟩
        exact ⟨ret_rp_false (by unfold RP lD lS lI lZ lG lC lT; omega), hb⟩
theorem rr_14_01 (dst src imm size cond : Int) (w : World) (d1 : 0 ≤ dst) (d2 : dst ≤ 15) (s1 : 0 ≤ src) (s2 : src ≤ 15) (i1 : -2147483648 ≤ imm) (i2 : imm ≤ 2147483647) :
    Calls Try.prog 14 #[.agg #[.int .i64 14, .int .i64 dst, .int .i64 src, .int .i64 imm, .int .i64 size, .bool false, .int .i64 cond, .string ⟨⟨[]⟩⟩]] w fun en w' => RightIs (RP 14 dst src imm size 0 cond 1) en ∧ Below w.heap.size w w' := by
  have base := (kn_cons (kn_lss 0 0 false (decide_eq_false (show ¬ (dst < 0) by omega))) (kn_cons (kn_gtr 0 15 false (decide_eq_false (show ¬ (dst > 15) by omega))) (kn_cons (kn_lss 1 0 false (decide_eq_false (show ¬ (src < 0) by omega))) (kn_cons (kn_gtr 1 15 false (decide_eq_false (show ¬ (src > 15) by omega))) (kn_cons (kn_lss 2 (-2147483648) false (decide_eq_false (show ¬ (imm < (-2147483648)) by omega))) (kn_cons (kn_gtr 2 2147483647 false (decide_eq_false (show ¬ (imm > 2147483647) by omega))) (kn_nil (m5 dst src imm size cond))))))))
  by_cases h0 : src ≠ 0
  · refine (rr_of _ (kn_cons (kn_neq 1 0 true (decide_eq_true (h0))) base) 14 false ⟨⟨[]⟩⟩ false (by kernel_rfl) w).mono ?_
    rintro e w' ⟨rfl, hb⟩
    exact ⟨ret_rp_false (by unfold RP lD lS lI lZ lG lC lT; omega), hb⟩
  · by_cases h1 : size ≠ 0
    · refine (rr_of _ (kn_cons (kn_neq 3 0 true (decide_eq_true (h1))) (kn_cons (kn_neq 1 0 false (decide_eq_false (h0))) base)) 14 false ⟨⟨[]⟩⟩ false (by kernel_rfl) w).mono ?_
      rintro e w' ⟨rfl, hb⟩
      exact ⟨ret_rp_false (by unfold RP lD lS lI lZ lG lC lT; omega), hb⟩
    · by_cases h2 : cond ≠ 0
      · refine (rr_of _ (kn_cons (kn_neq 4 0 true (decide_eq_true (h2))) (kn_cons (kn_neq 3 0 false (decide_eq_false (h1))) (kn_cons (kn_neq 1 0 false (decide_eq_false (h0))) base))) 14 false ⟨⟨[]⟩⟩ false (by kernel_rfl) w).mono ?_
        rintro e w' ⟨rfl, hb⟩
        exact ⟨ret_rp_false (by unfold RP lD lS lI lZ lG lC lT; omega), hb⟩
      · refine (rr_of _ (kn_cons (kn_neq 4 0 false (decide_eq_false (h2))) (kn_cons (kn_neq 3 0 false (decide_eq_false (h1))) (kn_cons (kn_neq 1 0 false (decide_eq_false (h0))) base))) 14 false ⟨⟨[]⟩⟩ true (by kernel_rfl) w).mono ?_
        rintro e w' ⟨rfl, hb⟩
        exact ⟨ret_rp_true (by unfold RP lD lS lI lZ lG lC lT; omega), hb⟩
theorem rr_14_10 (dst src imm size cond : Int) (b : UInt8) (bs : List UInt8) (w : World) (d1 : 0 ≤ dst) (d2 : dst ≤ 15) (s1 : 0 ≤ src) (s2 : src ≤ 15) (i1 : -2147483648 ≤ imm) (i2 : imm ≤ 2147483647) :
    Calls Try.prog 14 #[.agg #[.int .i64 14, .int .i64 dst, .int .i64 src, .int .i64 imm, .int .i64 size, .bool true, .int .i64 cond, .string ⟨⟨b :: bs⟩⟩]] w fun en w' => RightIs (RP 14 dst src imm size 1 cond 0) en ∧ Below w.heap.size w w' := by
  have base := (kn_cons (kn_lss 0 0 false (decide_eq_false (show ¬ (dst < 0) by omega))) (kn_cons (kn_gtr 0 15 false (decide_eq_false (show ¬ (dst > 15) by omega))) (kn_cons (kn_lss 1 0 false (decide_eq_false (show ¬ (src < 0) by omega))) (kn_cons (kn_gtr 1 15 false (decide_eq_false (show ¬ (src > 15) by omega))) (kn_cons (kn_lss 2 (-2147483648) false (decide_eq_false (show ¬ (imm < (-2147483648)) by omega))) (kn_cons (kn_gtr 2 2147483647 false (decide_eq_false (show ¬ (imm > 2147483647) by omega))) (kn_nil (m5 dst src imm size cond))))))))
  by_cases h0 : src ≠ 0
  · refine (rr_of _ (kn_cons (kn_neq 1 0 true (decide_eq_true (h0))) base) 14 true ⟨⟨b :: bs⟩⟩ false (by kernel_rfl) w).mono ?_
    rintro e w' ⟨rfl, hb⟩
    exact ⟨ret_rp_false (by unfold RP lD lS lI lZ lG lC lT; omega), hb⟩
  · by_cases h1 : size ≠ 0
    · refine (rr_of _ (kn_cons (kn_neq 3 0 true (decide_eq_true (h1))) (kn_cons (kn_neq 1 0 false (decide_eq_false (h0))) base)) 14 true ⟨⟨b :: bs⟩⟩ false (by kernel_rfl) w).mono ?_
      rintro e w' ⟨rfl, hb⟩
      exact ⟨ret_rp_false (by unfold RP lD lS lI lZ lG lC lT; omega), hb⟩
    · refine (rr_of _ (kn_cons (kn_neq 3 0 false (decide_eq_false (h1))) (kn_cons (kn_neq 1 0 false (decide_eq_false (h0))) base)) 14 true ⟨⟨b :: bs⟩⟩ false (by kernel_rfl) w).mono ?_
      rintro e w' ⟨rfl, hb⟩
      exact ⟨ret_rp_false (by unfold RP lD lS lI lZ lG lC lT; omega), hb⟩
theorem rr_14_11 (dst src imm size cond : Int) (w : World) (d1 : 0 ≤ dst) (d2 : dst ≤ 15) (s1 : 0 ≤ src) (s2 : src ≤ 15) (i1 : -2147483648 ≤ imm) (i2 : imm ≤ 2147483647) :
    Calls Try.prog 14 #[.agg #[.int .i64 14, .int .i64 dst, .int .i64 src, .int .i64 imm, .int .i64 size, .bool true, .int .i64 cond, .string ⟨⟨[]⟩⟩]] w fun en w' => RightIs (RP 14 dst src imm size 1 cond 1) en ∧ Below w.heap.size w w' := by
  have base := (kn_cons (kn_lss 0 0 false (decide_eq_false (show ¬ (dst < 0) by omega))) (kn_cons (kn_gtr 0 15 false (decide_eq_false (show ¬ (dst > 15) by omega))) (kn_cons (kn_lss 1 0 false (decide_eq_false (show ¬ (src < 0) by omega))) (kn_cons (kn_gtr 1 15 false (decide_eq_false (show ¬ (src > 15) by omega))) (kn_cons (kn_lss 2 (-2147483648) false (decide_eq_false (show ¬ (imm < (-2147483648)) by omega))) (kn_cons (kn_gtr 2 2147483647 false (decide_eq_false (show ¬ (imm > 2147483647) by omega))) (kn_nil (m5 dst src imm size cond))))))))
  by_cases h0 : src ≠ 0
  · refine (rr_of _ (kn_cons (kn_neq 1 0 true (decide_eq_true (h0))) base) 14 true ⟨⟨[]⟩⟩ false (by kernel_rfl) w).mono ?_
    rintro e w' ⟨rfl, hb⟩
    exact ⟨ret_rp_false (by unfold RP lD lS lI lZ lG lC lT; omega), hb⟩
  · by_cases h1 : size ≠ 0
    · refine (rr_of _ (kn_cons (kn_neq 3 0 true (decide_eq_true (h1))) (kn_cons (kn_neq 1 0 false (decide_eq_false (h0))) base)) 14 true ⟨⟨[]⟩⟩ false (by kernel_rfl) w).mono ?_
      rintro e w' ⟨rfl, hb⟩
      exact ⟨ret_rp_false (by unfold RP lD lS lI lZ lG lC lT; omega), hb⟩
    · refine (rr_of _ (kn_cons (kn_neq 3 0 false (decide_eq_false (h1))) (kn_cons (kn_neq 1 0 false (decide_eq_false (h0))) base)) 14 true ⟨⟨[]⟩⟩ false (by kernel_rfl) w).mono ?_
      rintro e w' ⟨rfl, hb⟩
      exact ⟨ret_rp_false (by unfold RP lD lS lI lZ lG lC lT; omega), hb⟩
theorem rr_21_00 (dst src imm size cond : Int) (b : UInt8) (bs : List UInt8) (w : World) (d1 : 0 ≤ dst) (d2 : dst ≤ 15) (s1 : 0 ≤ src) (s2 : src ≤ 15) (i1 : -2147483648 ≤ imm) (i2 : imm ≤ 2147483647) :
    Calls Try.prog 14 #[.agg #[.int .i64 21, .int .i64 dst, .int .i64 src, .int .i64 imm, .int .i64 size, .bool false, .int .i64 cond, .string ⟨⟨b :: bs⟩⟩]] w fun en w' => RightIs (RP 21 dst src imm size 0 cond 0) en ∧ Below w.heap.size w w' := by
  have base := (kn_cons (kn_lss 0 0 false (decide_eq_false (show ¬ (dst < 0) by omega))) (kn_cons (kn_gtr 0 15 false (decide_eq_false (show ¬ (dst > 15) by omega))) (kn_cons (kn_lss 1 0 false (decide_eq_false (show ¬ (src < 0) by omega))) (kn_cons (kn_gtr 1 15 false (decide_eq_false (show ¬ (src > 15) by omega))) (kn_cons (kn_lss 2 (-2147483648) false (decide_eq_false (show ¬ (imm < (-2147483648)) by omega))) (kn_cons (kn_gtr 2 2147483647 false (decide_eq_false (show ¬ (imm > 2147483647) by omega))) (kn_nil (m5 dst src imm size cond))))))))
  by_cases h0 : src ≠ 0
  · refine (rr_of _ (kn_cons (kn_neq 1 0 true (decide_eq_true (h0))) base) 21 false ⟨⟨b :: bs⟩⟩ false (by kernel_rfl) w).mono ?_
    rintro e w' ⟨rfl, hb⟩
    exact ⟨ret_rp_false (by unfold RP lD lS lI lZ lG lC lT; omega), hb⟩
  · by_cases h1 : imm ≠ 0
    · refine (rr_of _ (kn_cons (kn_neq 2 0 true (decide_eq_true (h1))) (kn_cons (kn_neq 1 0 false (decide_eq_false (h0))) base)) 21 false ⟨⟨b :: bs⟩⟩ false (by kernel_rfl) w).mono ?_
      rintro e w' ⟨rfl, hb⟩
      exact ⟨ret_rp_false (by unfold RP lD lS lI lZ lG lC lT; omega), hb⟩
    · by_cases h2 : size ≠ 0
      · refine (rr_of _ (kn_cons (kn_neq 3 0 true (decide_eq_true (h2))) (kn_cons (kn_neq 2 0 false (decide_eq_false (h1))) (kn_cons (kn_neq 1 0 false (decide_eq_false (h0))) base))) 21 false ⟨⟨b :: bs⟩⟩ false (by kernel_rfl) w).mono ?_
        rintro e w' ⟨rfl, hb⟩
        exact ⟨ret_rp_false (by unfold RP lD lS lI lZ lG lC lT; omega), hb⟩
      · by_cases h3 : cond ≠ 0
        · refine (rr_of _ (kn_cons (kn_neq 4 0 true (decide_eq_true (h3))) (kn_cons (kn_neq 3 0 false (decide_eq_false (h2))) (kn_cons (kn_neq 2 0 false (decide_eq_false (h1))) (kn_cons (kn_neq 1 0 false (decide_eq_false (h0))) base)))) 21 false ⟨⟨b :: bs⟩⟩ false (by kernel_rfl) w).mono ?_
          rintro e w' ⟨rfl, hb⟩
          exact ⟨ret_rp_false (by unfold RP lD lS lI lZ lG lC lT; omega), hb⟩
        · refine (rr_of _ (kn_cons (kn_neq 4 0 false (decide_eq_false (h3))) (kn_cons (kn_neq 3 0 false (decide_eq_false (h2))) (kn_cons (kn_neq 2 0 false (decide_eq_false (h1))) (kn_cons (kn_neq 1 0 false (decide_eq_false (h0))) base)))) 21 false ⟨⟨b :: bs⟩⟩ false (by kernel_rfl) w).mono ?_
          rintro e w' ⟨rfl, hb⟩
          exact ⟨ret_rp_false (by unfold RP lD lS lI lZ lG lC lT; omega), hb⟩
theorem rr_21_01 (dst src imm size cond : Int) (w : World) (d1 : 0 ≤ dst) (d2 : dst ≤ 15) (s1 : 0 ≤ src) (s2 : src ≤ 15) (i1 : -2147483648 ≤ imm) (i2 : imm ≤ 2147483647) :
    Calls Try.prog 14 #[.agg #[.int .i64 21, .int .i64 dst, .int .i64 src, .int .i64 imm, .int .i64 size, .bool false, .int .i64 cond, .string ⟨⟨[]⟩⟩]] w fun en w' => RightIs (RP 21 dst src imm size 0 cond 1) en ∧ Below w.heap.size w w' := by
  have base := (kn_cons (kn_lss 0 0 false (decide_eq_false (show ¬ (dst < 0) by omega))) (kn_cons (kn_gtr 0 15 false (decide_eq_false (show ¬ (dst > 15) by omega))) (kn_cons (kn_lss 1 0 false (decide_eq_false (show ¬ (src < 0) by omega))) (kn_cons (kn_gtr 1 15 false (decide_eq_false (show ¬ (src > 15) by omega))) (kn_cons (kn_lss 2 (-2147483648) false (decide_eq_false (show ¬ (imm < (-2147483648)) by omega))) (kn_cons (kn_gtr 2 2147483647 false (decide_eq_false (show ¬ (imm > 2147483647) by omega))) (kn_nil (m5 dst src imm size cond))))))))
  by_cases h0 : src ≠ 0
  · refine (rr_of _ (kn_cons (kn_neq 1 0 true (decide_eq_true (h0))) base) 21 false ⟨⟨[]⟩⟩ false (by kernel_rfl) w).mono ?_
    rintro e w' ⟨rfl, hb⟩
    exact ⟨ret_rp_false (by unfold RP lD lS lI lZ lG lC lT; omega), hb⟩
  · by_cases h1 : imm ≠ 0
    · refine (rr_of _ (kn_cons (kn_neq 2 0 true (decide_eq_true (h1))) (kn_cons (kn_neq 1 0 false (decide_eq_false (h0))) base)) 21 false ⟨⟨[]⟩⟩ false (by kernel_rfl) w).mono ?_
      rintro e w' ⟨rfl, hb⟩
      exact ⟨ret_rp_false (by unfold RP lD lS lI lZ lG lC lT; omega), hb⟩
    · by_cases h2 : size ≠ 0
      · refine (rr_of _ (kn_cons (kn_neq 3 0 true (decide_eq_true (h2))) (kn_cons (kn_neq 2 0 false (decide_eq_false (h1))) (kn_cons (kn_neq 1 0 false (decide_eq_false (h0))) base))) 21 false ⟨⟨[]⟩⟩ false (by kernel_rfl) w).mono ?_
        rintro e w' ⟨rfl, hb⟩
        exact ⟨ret_rp_false (by unfold RP lD lS lI lZ lG lC lT; omega), hb⟩
      · by_cases h3 : cond ≠ 0
        · refine (rr_of _ (kn_cons (kn_neq 4 0 true (decide_eq_true (h3))) (kn_cons (kn_neq 3 0 false (decide_eq_false (h2))) (kn_cons (kn_neq 2 0 false (decide_eq_false (h1))) (kn_cons (kn_neq 1 0 false (decide_eq_false (h0))) base)))) 21 false ⟨⟨[]⟩⟩ false (by kernel_rfl) w).mono ?_
          rintro e w' ⟨rfl, hb⟩
          exact ⟨ret_rp_false (by unfold RP lD lS lI lZ lG lC lT; omega), hb⟩
        · refine (rr_of _ (kn_cons (kn_neq 4 0 false (decide_eq_false (h3))) (kn_cons (kn_neq 3 0 false (decide_eq_false (h2))) (kn_cons (kn_neq 2 0 false (decide_eq_false (h1))) (kn_cons (kn_neq 1 0 false (decide_eq_false (h0))) base)))) 21 false ⟨⟨[]⟩⟩ true (by kernel_rfl) w).mono ?_
          rintro e w' ⟨rfl, hb⟩
          exact ⟨ret_rp_true (by unfold RP lD lS lI lZ lG lC lT; omega), hb⟩
theorem rr_21_10 (dst src imm size cond : Int) (b : UInt8) (bs : List UInt8) (w : World) (d1 : 0 ≤ dst) (d2 : dst ≤ 15) (s1 : 0 ≤ src) (s2 : src ≤ 15) (i1 : -2147483648 ≤ imm) (i2 : imm ≤ 2147483647) :
    Calls Try.prog 14 #[.agg #[.int .i64 21, .int .i64 dst, .int .i64 src, .int .i64 imm, .int .i64 size, .bool true, .int .i64 cond, .string ⟨⟨b :: bs⟩⟩]] w fun en w' => RightIs (RP 21 dst src imm size 1 cond 0) en ∧ Below w.heap.size w w' := by
  have base := (kn_cons (kn_lss 0 0 false (decide_eq_false (show ¬ (dst < 0) by omega))) (kn_cons (kn_gtr 0 15 false (decide_eq_false (show ¬ (dst > 15) by omega))) (kn_cons (kn_lss 1 0 false (decide_eq_false (show ¬ (src < 0) by omega))) (kn_cons (kn_gtr 1 15 false (decide_eq_false (show ¬ (src > 15) by omega))) (kn_cons (kn_lss 2 (-2147483648) false (decide_eq_false (show ¬ (imm < (-2147483648)) by omega))) (kn_cons (kn_gtr 2 2147483647 false (decide_eq_false (show ¬ (imm > 2147483647) by omega))) (kn_nil (m5 dst src imm size cond))))))))
  by_cases h0 : src ≠ 0
  · refine (rr_of _ (kn_cons (kn_neq 1 0 true (decide_eq_true (h0))) base) 21 true ⟨⟨b :: bs⟩⟩ false (by kernel_rfl) w).mono ?_
    rintro e w' ⟨rfl, hb⟩
    exact ⟨ret_rp_false (by unfold RP lD lS lI lZ lG lC lT; omega), hb⟩
  · by_cases h1 : imm ≠ 0
    · refine (rr_of _ (kn_cons (kn_neq 2 0 true (decide_eq_true (h1))) (kn_cons (kn_neq 1 0 false (decide_eq_false (h0))) base)) 21 true ⟨⟨b :: bs⟩⟩ false (by kernel_rfl) w).mono ?_
      rintro e w' ⟨rfl, hb⟩
      exact ⟨ret_rp_false (by unfold RP lD lS lI lZ lG lC lT; omega), hb⟩
    · by_cases h2 : size ≠ 0
      · refine (rr_of _ (kn_cons (kn_neq 3 0 true (decide_eq_true (h2))) (kn_cons (kn_neq 2 0 false (decide_eq_false (h1))) (kn_cons (kn_neq 1 0 false (decide_eq_false (h0))) base))) 21 true ⟨⟨b :: bs⟩⟩ false (by kernel_rfl) w).mono ?_
        rintro e w' ⟨rfl, hb⟩
        exact ⟨ret_rp_false (by unfold RP lD lS lI lZ lG lC lT; omega), hb⟩
      · refine (rr_of _ (kn_cons (kn_neq 3 0 false (decide_eq_false (h2))) (kn_cons (kn_neq 2 0 false (decide_eq_false (h1))) (kn_cons (kn_neq 1 0 false (decide_eq_false (h0))) base))) 21 true ⟨⟨b :: bs⟩⟩ false (by kernel_rfl) w).mono ?_
        rintro e w' ⟨rfl, hb⟩
        exact ⟨ret_rp_false (by unfold RP lD lS lI lZ lG lC lT; omega), hb⟩
theorem rr_21_11 (dst src imm size cond : Int) (w : World) (d1 : 0 ≤ dst) (d2 : dst ≤ 15) (s1 : 0 ≤ src) (s2 : src ≤ 15) (i1 : -2147483648 ≤ imm) (i2 : imm ≤ 2147483647) :
    Calls Try.prog 14 #[.agg #[.int .i64 21, .int .i64 dst, .int .i64 src, .int .i64 imm, .int .i64 size, .bool true, .int .i64 cond, .string ⟨⟨[]⟩⟩]] w fun en w' => RightIs (RP 21 dst src imm size 1 cond 1) en ∧ Below w.heap.size w w' := by
  have base := (kn_cons (kn_lss 0 0 false (decide_eq_false (show ¬ (dst < 0) by omega))) (kn_cons (kn_gtr 0 15 false (decide_eq_false (show ¬ (dst > 15) by omega))) (kn_cons (kn_lss 1 0 false (decide_eq_false (show ¬ (src < 0) by omega))) (kn_cons (kn_gtr 1 15 false (decide_eq_false (show ¬ (src > 15) by omega))) (kn_cons (kn_lss 2 (-2147483648) false (decide_eq_false (show ¬ (imm < (-2147483648)) by omega))) (kn_cons (kn_gtr 2 2147483647 false (decide_eq_false (show ¬ (imm > 2147483647) by omega))) (kn_nil (m5 dst src imm size cond))))))))
  by_cases h0 : src ≠ 0
  · refine (rr_of _ (kn_cons (kn_neq 1 0 true (decide_eq_true (h0))) base) 21 true ⟨⟨[]⟩⟩ false (by kernel_rfl) w).mono ?_
    rintro e w' ⟨rfl, hb⟩
    exact ⟨ret_rp_false (by unfold RP lD lS lI lZ lG lC lT; omega), hb⟩
  · by_cases h1 : imm ≠ 0
    · refine (rr_of _ (kn_cons (kn_neq 2 0 true (decide_eq_true (h1))) (kn_cons (kn_neq 1 0 false (decide_eq_false (h0))) base)) 21 true ⟨⟨[]⟩⟩ false (by kernel_rfl) w).mono ?_
      rintro e w' ⟨rfl, hb⟩
      exact ⟨ret_rp_false (by unfold RP lD lS lI lZ lG lC lT; omega), hb⟩
    · by_cases h2 : size ≠ 0
      · refine (rr_of _ (kn_cons (kn_neq 3 0 true (decide_eq_true (h2))) (kn_cons (kn_neq 2 0 false (decide_eq_false (h1))) (kn_cons (kn_neq 1 0 false (decide_eq_false (h0))) base))) 21 true ⟨⟨[]⟩⟩ false (by kernel_rfl) w).mono ?_
        rintro e w' ⟨rfl, hb⟩
        exact ⟨ret_rp_false (by unfold RP lD lS lI lZ lG lC lT; omega), hb⟩
      · refine (rr_of _ (kn_cons (kn_neq 3 0 false (decide_eq_false (h2))) (kn_cons (kn_neq 2 0 false (decide_eq_false (h1))) (kn_cons (kn_neq 1 0 false (decide_eq_false (h0))) base))) 21 true ⟨⟨[]⟩⟩ false (by kernel_rfl) w).mono ?_
        rintro e w' ⟨rfl, hb⟩
        exact ⟨ret_rp_false (by unfold RP lD lS lI lZ lG lC lT; omega), hb⟩
theorem rr_27_00 (dst src imm size cond : Int) (b : UInt8) (bs : List UInt8) (w : World) (d1 : 0 ≤ dst) (d2 : dst ≤ 15) (s1 : 0 ≤ src) (s2 : src ≤ 15) (i1 : -2147483648 ≤ imm) (i2 : imm ≤ 2147483647) :
    Calls Try.prog 14 #[.agg #[.int .i64 27, .int .i64 dst, .int .i64 src, .int .i64 imm, .int .i64 size, .bool false, .int .i64 cond, .string ⟨⟨b :: bs⟩⟩]] w fun en w' => RightIs (RP 27 dst src imm size 0 cond 0) en ∧ Below w.heap.size w w' := by
  have base := (kn_cons (kn_lss 0 0 false (decide_eq_false (show ¬ (dst < 0) by omega))) (kn_cons (kn_gtr 0 15 false (decide_eq_false (show ¬ (dst > 15) by omega))) (kn_cons (kn_lss 1 0 false (decide_eq_false (show ¬ (src < 0) by omega))) (kn_cons (kn_gtr 1 15 false (decide_eq_false (show ¬ (src > 15) by omega))) (kn_cons (kn_lss 2 (-2147483648) false (decide_eq_false (show ¬ (imm < (-2147483648)) by omega))) (kn_cons (kn_gtr 2 2147483647 false (decide_eq_false (show ¬ (imm > 2147483647) by omega))) (kn_nil (m5 dst src imm size cond))))))))
  by_cases h0 : dst ≠ 0
  · refine (rr_of _ (kn_cons (kn_neq 0 0 true (decide_eq_true (h0))) base) 27 false ⟨⟨b :: bs⟩⟩ false (by kernel_rfl) w).mono ?_
    rintro e w' ⟨rfl, hb⟩
    exact ⟨ret_rp_false (by unfold RP lD lS lI lZ lG lC lT; omega), hb⟩
  · by_cases h1 : src ≠ 0
    · refine (rr_of _ (kn_cons (kn_neq 1 0 true (decide_eq_true (h1))) (kn_cons (kn_neq 0 0 false (decide_eq_false (h0))) base)) 27 false ⟨⟨b :: bs⟩⟩ false (by kernel_rfl) w).mono ?_
      rintro e w' ⟨rfl, hb⟩
      exact ⟨ret_rp_false (by unfold RP lD lS lI lZ lG lC lT; omega), hb⟩
    · by_cases h2 : imm ≠ 0
      · refine (rr_of _ (kn_cons (kn_neq 2 0 true (decide_eq_true (h2))) (kn_cons (kn_neq 1 0 false (decide_eq_false (h1))) (kn_cons (kn_neq 0 0 false (decide_eq_false (h0))) base))) 27 false ⟨⟨b :: bs⟩⟩ false (by kernel_rfl) w).mono ?_
        rintro e w' ⟨rfl, hb⟩
        exact ⟨ret_rp_false (by unfold RP lD lS lI lZ lG lC lT; omega), hb⟩
      · by_cases h3 : size ≠ 0
        · refine (rr_of _ (kn_cons (kn_neq 3 0 true (decide_eq_true (h3))) (kn_cons (kn_neq 2 0 false (decide_eq_false (h2))) (kn_cons (kn_neq 1 0 false (decide_eq_false (h1))) (kn_cons (kn_neq 0 0 false (decide_eq_false (h0))) base)))) 27 false ⟨⟨b :: bs⟩⟩ false (by kernel_rfl) w).mono ?_
          rintro e w' ⟨rfl, hb⟩
          exact ⟨ret_rp_false (by unfold RP lD lS lI lZ lG lC lT; omega), hb⟩
        · by_cases h4 : cond ≠ 0
          · refine (rr_of _ (kn_cons (kn_neq 4 0 true (decide_eq_true (h4))) (kn_cons (kn_neq 3 0 false (decide_eq_false (h3))) (kn_cons (kn_neq 2 0 false (decide_eq_false (h2))) (kn_cons (kn_neq 1 0 false (decide_eq_false (h1))) (kn_cons (kn_neq 0 0 false (decide_eq_false (h0))) base))))) 27 false ⟨⟨b :: bs⟩⟩ false (by kernel_rfl) w).mono ?_
            rintro e w' ⟨rfl, hb⟩
            exact ⟨ret_rp_false (by unfold RP lD lS lI lZ lG lC lT; omega), hb⟩
          · refine (rr_of _ (kn_cons (kn_neq 4 0 false (decide_eq_false (h4))) (kn_cons (kn_neq 3 0 false (decide_eq_false (h3))) (kn_cons (kn_neq 2 0 false (decide_eq_false (h2))) (kn_cons (kn_neq 1 0 false (decide_eq_false (h1))) (kn_cons (kn_neq 0 0 false (decide_eq_false (h0))) base))))) 27 false ⟨⟨b :: bs⟩⟩ false (by kernel_rfl) w).mono ?_
            rintro e w' ⟨rfl, hb⟩
            exact ⟨ret_rp_false (by unfold RP lD lS lI lZ lG lC lT; omega), hb⟩
theorem rr_27_01 (dst src imm size cond : Int) (w : World) (d1 : 0 ≤ dst) (d2 : dst ≤ 15) (s1 : 0 ≤ src) (s2 : src ≤ 15) (i1 : -2147483648 ≤ imm) (i2 : imm ≤ 2147483647) :
    Calls Try.prog 14 #[.agg #[.int .i64 27, .int .i64 dst, .int .i64 src, .int .i64 imm, .int .i64 size, .bool false, .int .i64 cond, .string ⟨⟨[]⟩⟩]] w fun en w' => RightIs (RP 27 dst src imm size 0 cond 1) en ∧ Below w.heap.size w w' := by
  have base := (kn_cons (kn_lss 0 0 false (decide_eq_false (show ¬ (dst < 0) by omega))) (kn_cons (kn_gtr 0 15 false (decide_eq_false (show ¬ (dst > 15) by omega))) (kn_cons (kn_lss 1 0 false (decide_eq_false (show ¬ (src < 0) by omega))) (kn_cons (kn_gtr 1 15 false (decide_eq_false (show ¬ (src > 15) by omega))) (kn_cons (kn_lss 2 (-2147483648) false (decide_eq_false (show ¬ (imm < (-2147483648)) by omega))) (kn_cons (kn_gtr 2 2147483647 false (decide_eq_false (show ¬ (imm > 2147483647) by omega))) (kn_nil (m5 dst src imm size cond))))))))
  by_cases h0 : dst ≠ 0
  · refine (rr_of _ (kn_cons (kn_neq 0 0 true (decide_eq_true (h0))) base) 27 false ⟨⟨[]⟩⟩ false (by kernel_rfl) w).mono ?_
    rintro e w' ⟨rfl, hb⟩
    exact ⟨ret_rp_false (by unfold RP lD lS lI lZ lG lC lT; omega), hb⟩
  · by_cases h1 : src ≠ 0
    · refine (rr_of _ (kn_cons (kn_neq 1 0 true (decide_eq_true (h1))) (kn_cons (kn_neq 0 0 false (decide_eq_false (h0))) base)) 27 false ⟨⟨[]⟩⟩ false (by kernel_rfl) w).mono ?_
      rintro e w' ⟨rfl, hb⟩
      exact ⟨ret_rp_false (by unfold RP lD lS lI lZ lG lC lT; omega), hb⟩
    · by_cases h2 : imm ≠ 0
      · refine (rr_of _ (kn_cons (kn_neq 2 0 true (decide_eq_true (h2))) (kn_cons (kn_neq 1 0 false (decide_eq_false (h1))) (kn_cons (kn_neq 0 0 false (decide_eq_false (h0))) base))) 27 false ⟨⟨[]⟩⟩ false (by kernel_rfl) w).mono ?_
        rintro e w' ⟨rfl, hb⟩
        exact ⟨ret_rp_false (by unfold RP lD lS lI lZ lG lC lT; omega), hb⟩
      · by_cases h3 : size ≠ 0
        · refine (rr_of _ (kn_cons (kn_neq 3 0 true (decide_eq_true (h3))) (kn_cons (kn_neq 2 0 false (decide_eq_false (h2))) (kn_cons (kn_neq 1 0 false (decide_eq_false (h1))) (kn_cons (kn_neq 0 0 false (decide_eq_false (h0))) base)))) 27 false ⟨⟨[]⟩⟩ false (by kernel_rfl) w).mono ?_
          rintro e w' ⟨rfl, hb⟩
          exact ⟨ret_rp_false (by unfold RP lD lS lI lZ lG lC lT; omega), hb⟩
        · by_cases h4 : cond ≠ 0
          · refine (rr_of _ (kn_cons (kn_neq 4 0 true (decide_eq_true (h4))) (kn_cons (kn_neq 3 0 false (decide_eq_false (h3))) (kn_cons (kn_neq 2 0 false (decide_eq_false (h2))) (kn_cons (kn_neq 1 0 false (decide_eq_false (h1))) (kn_cons (kn_neq 0 0 false (decide_eq_false (h0))) base))))) 27 false ⟨⟨[]⟩⟩ false (by kernel_rfl) w).mono ?_
            rintro e w' ⟨rfl, hb⟩
            exact ⟨ret_rp_false (by unfold RP lD lS lI lZ lG lC lT; omega), hb⟩
          · refine (rr_of _ (kn_cons (kn_neq 4 0 false (decide_eq_false (h4))) (kn_cons (kn_neq 3 0 false (decide_eq_false (h3))) (kn_cons (kn_neq 2 0 false (decide_eq_false (h2))) (kn_cons (kn_neq 1 0 false (decide_eq_false (h1))) (kn_cons (kn_neq 0 0 false (decide_eq_false (h0))) base))))) 27 false ⟨⟨[]⟩⟩ true (by kernel_rfl) w).mono ?_
            rintro e w' ⟨rfl, hb⟩
            exact ⟨ret_rp_true (by unfold RP lD lS lI lZ lG lC lT; omega), hb⟩
theorem rr_27_10 (dst src imm size cond : Int) (b : UInt8) (bs : List UInt8) (w : World) (d1 : 0 ≤ dst) (d2 : dst ≤ 15) (s1 : 0 ≤ src) (s2 : src ≤ 15) (i1 : -2147483648 ≤ imm) (i2 : imm ≤ 2147483647) :
    Calls Try.prog 14 #[.agg #[.int .i64 27, .int .i64 dst, .int .i64 src, .int .i64 imm, .int .i64 size, .bool true, .int .i64 cond, .string ⟨⟨b :: bs⟩⟩]] w fun en w' => RightIs (RP 27 dst src imm size 1 cond 0) en ∧ Below w.heap.size w w' := by
  have base := (kn_cons (kn_lss 0 0 false (decide_eq_false (show ¬ (dst < 0) by omega))) (kn_cons (kn_gtr 0 15 false (decide_eq_false (show ¬ (dst > 15) by omega))) (kn_cons (kn_lss 1 0 false (decide_eq_false (show ¬ (src < 0) by omega))) (kn_cons (kn_gtr 1 15 false (decide_eq_false (show ¬ (src > 15) by omega))) (kn_cons (kn_lss 2 (-2147483648) false (decide_eq_false (show ¬ (imm < (-2147483648)) by omega))) (kn_cons (kn_gtr 2 2147483647 false (decide_eq_false (show ¬ (imm > 2147483647) by omega))) (kn_nil (m5 dst src imm size cond))))))))
  by_cases h0 : dst ≠ 0
  · refine (rr_of _ (kn_cons (kn_neq 0 0 true (decide_eq_true (h0))) base) 27 true ⟨⟨b :: bs⟩⟩ false (by kernel_rfl) w).mono ?_
    rintro e w' ⟨rfl, hb⟩
    exact ⟨ret_rp_false (by unfold RP lD lS lI lZ lG lC lT; omega), hb⟩
  · by_cases h1 : src ≠ 0
    · refine (rr_of _ (kn_cons (kn_neq 1 0 true (decide_eq_true (h1))) (kn_cons (kn_neq 0 0 false (decide_eq_false (h0))) base)) 27 true ⟨⟨b :: bs⟩⟩ false (by kernel_rfl) w).mono ?_
      rintro e w' ⟨rfl, hb⟩
      exact ⟨ret_rp_false (by unfold RP lD lS lI lZ lG lC lT; omega), hb⟩
    · by_cases h2 : imm ≠ 0
      · refine (rr_of _ (kn_cons (kn_neq 2 0 true (decide_eq_true (h2))) (kn_cons (kn_neq 1 0 false (decide_eq_false (h1))) (kn_cons (kn_neq 0 0 false (decide_eq_false (h0))) base))) 27 true ⟨⟨b :: bs⟩⟩ false (by kernel_rfl) w).mono ?_
        rintro e w' ⟨rfl, hb⟩
        exact ⟨ret_rp_false (by unfold RP lD lS lI lZ lG lC lT; omega), hb⟩
      · by_cases h3 : size ≠ 0
        · refine (rr_of _ (kn_cons (kn_neq 3 0 true (decide_eq_true (h3))) (kn_cons (kn_neq 2 0 false (decide_eq_false (h2))) (kn_cons (kn_neq 1 0 false (decide_eq_false (h1))) (kn_cons (kn_neq 0 0 false (decide_eq_false (h0))) base)))) 27 true ⟨⟨b :: bs⟩⟩ false (by kernel_rfl) w).mono ?_
          rintro e w' ⟨rfl, hb⟩
          exact ⟨ret_rp_false (by unfold RP lD lS lI lZ lG lC lT; omega), hb⟩
        · refine (rr_of _ (kn_cons (kn_neq 3 0 false (decide_eq_false (h3))) (kn_cons (kn_neq 2 0 false (decide_eq_false (h2))) (kn_cons (kn_neq 1 0 false (decide_eq_false (h1))) (kn_cons (kn_neq 0 0 false (decide_eq_false (h0))) base)))) 27 true ⟨⟨b :: bs⟩⟩ false (by kernel_rfl) w).mono ?_
          rintro e w' ⟨rfl, hb⟩
          exact ⟨ret_rp_false (by unfold RP lD lS lI lZ lG lC lT; omega), hb⟩
theorem rr_27_11 (dst src imm size cond : Int) (w : World) (d1 : 0 ≤ dst) (d2 : dst ≤ 15) (s1 : 0 ≤ src) (s2 : src ≤ 15) (i1 : -2147483648 ≤ imm) (i2 : imm ≤ 2147483647) :
    Calls Try.prog 14 #[.agg #[.int .i64 27, .int .i64 dst, .int .i64 src, .int .i64 imm, .int .i64 size, .bool true, .int .i64 cond, .string ⟨⟨[]⟩⟩]] w fun en w' => RightIs (RP 27 dst src imm size 1 cond 1) en ∧ Below w.heap.size w w' := by
  have base := (kn_cons (kn_lss 0 0 false (decide_eq_false (show ¬ (dst < 0) by omega))) (kn_cons (kn_gtr 0 15 false (decide_eq_false (show ¬ (dst > 15) by omega))) (kn_cons (kn_lss 1 0 false (decide_eq_false (show ¬ (src < 0) by omega))) (kn_cons (kn_gtr 1 15 false (decide_eq_false (show ¬ (src > 15) by omega))) (kn_cons (kn_lss 2 (-2147483648) false (decide_eq_false (show ¬ (imm < (-2147483648)) by omega))) (kn_cons (kn_gtr 2 2147483647 false (decide_eq_false (show ¬ (imm > 2147483647) by omega))) (kn_nil (m5 dst src imm size cond))))))))
  by_cases h0 : dst ≠ 0
  · refine (rr_of _ (kn_cons (kn_neq 0 0 true (decide_eq_true (h0))) base) 27 true ⟨⟨[]⟩⟩ false (by kernel_rfl) w).mono ?_
    rintro e w' ⟨rfl, hb⟩
    exact ⟨ret_rp_false (by unfold RP lD lS lI lZ lG lC lT; omega), hb⟩
  · by_cases h1 : src ≠ 0
    · refine (rr_of _ (kn_cons (kn_neq 1 0 true (decide_eq_true (h1))) (kn_cons (kn_neq 0 0 false (decide_eq_false (h0))) base)) 27 true ⟨⟨[]⟩⟩ false (by kernel_rfl) w).mono ?_
      rintro e w' ⟨rfl, hb⟩
      exact ⟨ret_rp_false (by unfold RP lD lS lI lZ lG lC lT; omega), hb⟩
    · by_cases h2 : imm ≠ 0
      · refine (rr_of _ (kn_cons (kn_neq 2 0 true (decide_eq_true (h2))) (kn_cons (kn_neq 1 0 false (decide_eq_false (h1))) (kn_cons (kn_neq 0 0 false (decide_eq_false (h0))) base))) 27 true ⟨⟨[]⟩⟩ false (by kernel_rfl) w).mono ?_
        rintro e w' ⟨rfl, hb⟩
        exact ⟨ret_rp_false (by unfold RP lD lS lI lZ lG lC lT; omega), hb⟩
      · by_cases h3 : size ≠ 0
        · refine (rr_of _ (kn_cons (kn_neq 3 0 true (decide_eq_true (h3))) (kn_cons (kn_neq 2 0 false (decide_eq_false (h2))) (kn_cons (kn_neq 1 0 false (decide_eq_false (h1))) (kn_cons (kn_neq 0 0 false (decide_eq_false (h0))) base)))) 27 true ⟨⟨[]⟩⟩ false (by kernel_rfl) w).mono ?_
          rintro e w' ⟨rfl, hb⟩
          exact ⟨ret_rp_false (by unfold RP lD lS lI lZ lG lC lT; omega), hb⟩
        · refine (rr_of _ (kn_cons (kn_neq 3 0 false (decide_eq_false (h3))) (kn_cons (kn_neq 2 0 false (decide_eq_false (h2))) (kn_cons (kn_neq 1 0 false (decide_eq_false (h1))) (kn_cons (kn_neq 0 0 false (decide_eq_false (h0))) base)))) 27 true ⟨⟨[]⟩⟩ false (by kernel_rfl) w).mono ?_
          rintro e w' ⟨rfl, hb⟩
          exact ⟨ret_rp_false (by unfold RP lD lS lI lZ lG lC lT; omega), hb⟩
theorem rr_40_00 (dst src imm size cond : Int) (b : UInt8) (bs : List UInt8) (w : World) (d1 : 0 ≤ dst) (d2 : dst ≤ 15) (s1 : 0 ≤ src) (s2 : src ≤ 15) (i1 : -2147483648 ≤ imm) (i2 : imm ≤ 2147483647) :
    Calls Try.prog 14 #[.agg #[.int .i64 40, .int .i64 dst, .int .i64 src, .int .i64 imm, .int .i64 size, .bool false, .int .i64 cond, .string ⟨⟨b :: bs⟩⟩]] w fun en w' => RightIs (RP 40 dst src imm size 0 cond 0) en ∧ Below w.heap.size w w' := by
  have base := (kn_cons (kn_lss 0 0 false (decide_eq_false (show ¬ (dst < 0) by omega))) (kn_cons (kn_gtr 0 15 false (decide_eq_false (show ¬ (dst > 15) by omega))) (kn_cons (kn_lss 1 0 false (decide_eq_false (show ¬ (src < 0) by omega))) (kn_cons (kn_gtr 1 15 false (decide_eq_false (show ¬ (src > 15) by omega))) (kn_cons (kn_lss 2 (-2147483648) false (decide_eq_false (show ¬ (imm < (-2147483648)) by omega))) (kn_cons (kn_gtr 2 2147483647 false (decide_eq_false (show ¬ (imm > 2147483647) by omega))) (kn_nil (m5 dst src imm size cond))))))))
  by_cases h0 : src ≠ 0
  · refine (rr_of _ (kn_cons (kn_neq 1 0 true (decide_eq_true (h0))) base) 40 false ⟨⟨b :: bs⟩⟩ false (by kernel_rfl) w).mono ?_
    rintro e w' ⟨rfl, hb⟩
    exact ⟨ret_rp_false (by unfold RP lD lS lI lZ lG lC lT; omega), hb⟩
  · by_cases h1 : imm ≠ 0
    · refine (rr_of _ (kn_cons (kn_neq 2 0 true (decide_eq_true (h1))) (kn_cons (kn_neq 1 0 false (decide_eq_false (h0))) base)) 40 false ⟨⟨b :: bs⟩⟩ false (by kernel_rfl) w).mono ?_
      rintro e w' ⟨rfl, hb⟩
      exact ⟨ret_rp_false (by unfold RP lD lS lI lZ lG lC lT; omega), hb⟩
    · by_cases h2 : size ≠ 0
      · refine (rr_of _ (kn_cons (kn_neq 3 0 true (decide_eq_true (h2))) (kn_cons (kn_neq 2 0 false (decide_eq_false (h1))) (kn_cons (kn_neq 1 0 false (decide_eq_false (h0))) base))) 40 false ⟨⟨b :: bs⟩⟩ false (by kernel_rfl) w).mono ?_
        rintro e w' ⟨rfl, hb⟩
        exact ⟨ret_rp_false (by unfold RP lD lS lI lZ lG lC lT; omega), hb⟩
      · by_cases h3 : cond ≠ 0
        · refine (rr_of _ (kn_cons (kn_neq 4 0 true (decide_eq_true (h3))) (kn_cons (kn_neq 3 0 false (decide_eq_false (h2))) (kn_cons (kn_neq 2 0 false (decide_eq_false (h1))) (kn_cons (kn_neq 1 0 false (decide_eq_false (h0))) base)))) 40 false ⟨⟨b :: bs⟩⟩ false (by kernel_rfl) w).mono ?_
          rintro e w' ⟨rfl, hb⟩
          exact ⟨ret_rp_false (by unfold RP lD lS lI lZ lG lC lT; omega), hb⟩
        · refine (rr_of _ (kn_cons (kn_neq 4 0 false (decide_eq_false (h3))) (kn_cons (kn_neq 3 0 false (decide_eq_false (h2))) (kn_cons (kn_neq 2 0 false (decide_eq_false (h1))) (kn_cons (kn_neq 1 0 false (decide_eq_false (h0))) base)))) 40 false ⟨⟨b :: bs⟩⟩ false (by kernel_rfl) w).mono ?_
          rintro e w' ⟨rfl, hb⟩
          exact ⟨ret_rp_false (by unfold RP lD lS lI lZ lG lC lT; omega), hb⟩
theorem rr_40_01 (dst src imm size cond : Int) (w : World) (d1 : 0 ≤ dst) (d2 : dst ≤ 15) (s1 : 0 ≤ src) (s2 : src ≤ 15) (i1 : -2147483648 ≤ imm) (i2 : imm ≤ 2147483647) :
    Calls Try.prog 14 #[.agg #[.int .i64 40, .int .i64 dst, .int .i64 src, .int .i64 imm, .int .i64 size, .bool false, .int .i64 cond, .string ⟨⟨[]⟩⟩]] w fun en w' => RightIs (RP 40 dst src imm size 0 cond 1) en ∧ Below w.heap.size w w' := by
  have base := (kn_cons (kn_lss 0 0 false (decide_eq_false (show ¬ (dst < 0) by omega))) (kn_cons (kn_gtr 0 15 false (decide_eq_false (show ¬ (dst > 15) by omega))) (kn_cons (kn_lss 1 0 false (decide_eq_false (show ¬ (src < 0) by omega))) (kn_cons (kn_gtr 1 15 false (decide_eq_false (show ¬ (src > 15) by omega))) (kn_cons (kn_lss 2 (-2147483648) false (decide_eq_false (show ¬ (imm < (-2147483648)) by omega))) (kn_cons (kn_gtr 2 2147483647 false (decide_eq_false (show ¬ (imm > 2147483647) by omega))) (kn_nil (m5 dst src imm size cond))))))))
  by_cases h0 : src ≠ 0
  · refine (rr_of _ (kn_cons (kn_neq 1 0 true (decide_eq_true (h0))) base) 40 false ⟨⟨[]⟩⟩ false (by kernel_rfl) w).mono ?_
    rintro e w' ⟨rfl, hb⟩
    exact ⟨ret_rp_false (by unfold RP lD lS lI lZ lG lC lT; omega), hb⟩
  · by_cases h1 : imm ≠ 0
    · refine (rr_of _ (kn_cons (kn_neq 2 0 true (decide_eq_true (h1))) (kn_cons (kn_neq 1 0 false (decide_eq_false (h0))) base)) 40 false ⟨⟨[]⟩⟩ false (by kernel_rfl) w).mono ?_
      rintro e w' ⟨rfl, hb⟩
      exact ⟨ret_rp_false (by unfold RP lD lS lI lZ lG lC lT; omega), hb⟩
    · by_cases h2 : size ≠ 0
      · refine (rr_of _ (kn_cons (kn_neq 3 0 true (decide_eq_true (h2))) (kn_cons (kn_neq 2 0 false (decide_eq_false (h1))) (kn_cons (kn_neq 1 0 false (decide_eq_false (h0))) base))) 40 false ⟨⟨[]⟩⟩ false (by kernel_rfl) w).mono ?_
        rintro e w' ⟨rfl, hb⟩
        exact ⟨ret_rp_false (by unfold RP lD lS lI lZ lG lC lT; omega), hb⟩
      · by_cases h3 : cond ≠ 0
        · refine (rr_of _ (kn_cons (kn_neq 4 0 true (decide_eq_true (h3))) (kn_cons (kn_neq 3 0 false (decide_eq_false (h2))) (kn_cons (kn_neq 2 0 false (decide_eq_false (h1))) (kn_cons (kn_neq 1 0 false (decide_eq_false (h0))) base)))) 40 false ⟨⟨[]⟩⟩ false (by kernel_rfl) w).mono ?_
          rintro e w' ⟨rfl, hb⟩
          exact ⟨ret_rp_false (by unfold RP lD lS lI lZ lG lC lT; omega), hb⟩
        · refine (rr_of _ (kn_cons (kn_neq 4 0 false (decide_eq_false (h3))) (kn_cons (kn_neq 3 0 false (decide_eq_false (h2))) (kn_cons (kn_neq 2 0 false (decide_eq_false (h1))) (kn_cons (kn_neq 1 0 false (decide_eq_false (h0))) base)))) 40 false ⟨⟨[]⟩⟩ true (by kernel_rfl) w).mono ?_
          rintro e w' ⟨rfl, hb⟩
          exact ⟨ret_rp_true (by unfold RP lD lS lI lZ lG lC lT; omega), hb⟩
theorem rr_40_10 (dst src imm size cond : Int) (b : UInt8) (bs : List UInt8) (w : World) (d1 : 0 ≤ dst) (d2 : dst ≤ 15) (s1 : 0 ≤ src) (s2 : src ≤ 15) (i1 : -2147483648 ≤ imm) (i2 : imm ≤ 2147483647) :
    Calls Try.prog 14 #[.agg #[.int .i64 40, .int .i64 dst, .int .i64 src, .int .i64 imm, .int .i64 size, .bool true, .int .i64 cond, .string ⟨⟨b :: bs⟩⟩]] w fun en w' => RightIs (RP 40 dst src imm size 1 cond 0) en ∧ Below w.heap.size w w' := by
  have base := (kn_cons (kn_lss 0 0 false (decide_eq_false (show ¬ (dst < 0) by omega))) (kn_cons (kn_gtr 0 15 false (decide_eq_false (show ¬ (dst > 15) by omega))) (kn_cons (kn_lss 1 0 false (decide_eq_false (show ¬ (src < 0) by omega))) (kn_cons (kn_gtr 1 15 false (decide_eq_false (show ¬ (src > 15) by omega))) (kn_cons (kn_lss 2 (-2147483648) false (decide_eq_false (show ¬ (imm < (-2147483648)) by omega))) (kn_cons (kn_gtr 2 2147483647 false (decide_eq_false (show ¬ (imm > 2147483647) by omega))) (kn_nil (m5 dst src imm size cond))))))))
  by_cases h0 : src ≠ 0
  · refine (rr_of _ (kn_cons (kn_neq 1 0 true (decide_eq_true (h0))) base) 40 true ⟨⟨b :: bs⟩⟩ false (by kernel_rfl) w).mono ?_
    rintro e w' ⟨rfl, hb⟩
    exact ⟨ret_rp_false (by unfold RP lD lS lI lZ lG lC lT; omega), hb⟩
  · by_cases h1 : imm ≠ 0
    · refine (rr_of _ (kn_cons (kn_neq 2 0 true (decide_eq_true (h1))) (kn_cons (kn_neq 1 0 false (decide_eq_false (h0))) base)) 40 true ⟨⟨b :: bs⟩⟩ false (by kernel_rfl) w).mono ?_
      rintro e w' ⟨rfl, hb⟩
      exact ⟨ret_rp_false (by unfold RP lD lS lI lZ lG lC lT; omega), hb⟩
    · by_cases h2 : size ≠ 0
      · refine (rr_of _ (kn_cons (kn_neq 3 0 true (decide_eq_true (h2))) (kn_cons (kn_neq 2 0 false (decide_eq_false (h1))) (kn_cons (kn_neq 1 0 false (decide_eq_false (h0))) base))) 40 true ⟨⟨b :: bs⟩⟩ false (by kernel_rfl) w).mono ?_
        rintro e w' ⟨rfl, hb⟩
        exact ⟨ret_rp_false (by unfold RP lD lS lI lZ lG lC lT; omega), hb⟩
      · refine (rr_of _ (kn_cons (kn_neq 3 0 false (decide_eq_false (h2))) (kn_cons (kn_neq 2 0 false (decide_eq_false (h1))) (kn_cons (kn_neq 1 0 false (decide_eq_false (h0))) base))) 40 true ⟨⟨b :: bs⟩⟩ false (by kernel_rfl) w).mono ?_
        rintro e w' ⟨rfl, hb⟩
        exact ⟨ret_rp_false (by unfold RP lD lS lI lZ lG lC lT; omega), hb⟩
theorem rr_40_11 (dst src imm size cond : Int) (w : World) (d1 : 0 ≤ dst) (d2 : dst ≤ 15) (s1 : 0 ≤ src) (s2 : src ≤ 15) (i1 : -2147483648 ≤ imm) (i2 : imm ≤ 2147483647) :
    Calls Try.prog 14 #[.agg #[.int .i64 40, .int .i64 dst, .int .i64 src, .int .i64 imm, .int .i64 size, .bool true, .int .i64 cond, .string ⟨⟨[]⟩⟩]] w fun en w' => RightIs (RP 40 dst src imm size 1 cond 1) en ∧ Below w.heap.size w w' := by
  have base := (kn_cons (kn_lss 0 0 false (decide_eq_false (show ¬ (dst < 0) by omega))) (kn_cons (kn_gtr 0 15 false (decide_eq_false (show ¬ (dst > 15) by omega))) (kn_cons (kn_lss 1 0 false (decide_eq_false (show ¬ (src < 0) by omega))) (kn_cons (kn_gtr 1 15 false (decide_eq_false (show ¬ (src > 15) by omega))) (kn_cons (kn_lss 2 (-2147483648) false (decide_eq_false (show ¬ (imm < (-2147483648)) by omega))) (kn_cons (kn_gtr 2 2147483647 false (decide_eq_false (show ¬ (imm > 2147483647) by omega))) (kn_nil (m5 dst src imm size cond))))))))
  by_cases h0 : src ≠ 0
  · refine (rr_of _ (kn_cons (kn_neq 1 0 true (decide_eq_true (h0))) base) 40 true ⟨⟨[]⟩⟩ false (by kernel_rfl) w).mono ?_
    rintro e w' ⟨rfl, hb⟩
    exact ⟨ret_rp_false (by unfold RP lD lS lI lZ lG lC lT; omega), hb⟩
  · by_cases h1 : imm ≠ 0
    · refine (rr_of _ (kn_cons (kn_neq 2 0 true (decide_eq_true (h1))) (kn_cons (kn_neq 1 0 false (decide_eq_false (h0))) base)) 40 true ⟨⟨[]⟩⟩ false (by kernel_rfl) w).mono ?_
      rintro e w' ⟨rfl, hb⟩
      exact ⟨ret_rp_false (by unfold RP lD lS lI lZ lG lC lT; omega), hb⟩
    · by_cases h2 : size ≠ 0
      · refine (rr_of _ (kn_cons (kn_neq 3 0 true (decide_eq_true (h2))) (kn_cons (kn_neq 2 0 false (decide_eq_false (h1))) (kn_cons (kn_neq 1 0 false (decide_eq_false (h0))) base))) 40 true ⟨⟨[]⟩⟩ false (by kernel_rfl) w).mono ?_
        rintro e w' ⟨rfl, hb⟩
        exact ⟨ret_rp_false (by unfold RP lD lS lI lZ lG lC lT; omega), hb⟩
      · refine (rr_of _ (kn_cons (kn_neq 3 0 false (decide_eq_false (h2))) (kn_cons (kn_neq 2 0 false (decide_eq_false (h1))) (kn_cons (kn_neq 1 0 false (decide_eq_false (h0))) base))) 40 true ⟨⟨[]⟩⟩ false (by kernel_rfl) w).mono ?_
        rintro e w' ⟨rfl, hb⟩
        exact ⟨ret_rp_false (by unfold RP lD lS lI lZ lG lC lT; omega), hb⟩
end Go.Proofs.Yteeodbjpmofhhaa
