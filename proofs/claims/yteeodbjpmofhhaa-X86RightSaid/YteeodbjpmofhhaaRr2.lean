/- The document's Right, run: operations 3, 9, 17, 22, 33. No condition. -/
import Derived.Test.YteeodbjpmofhhaaRr
namespace Go.Proofs.Yteeodbjpmofhhaa
open Go.RowKit
set_option linter.unusedVariables false
theorem rr_3_00 (dst src imm size cond : Int) (b : UInt8) (bs : List UInt8) (w : World) (d1 : 0 ≤ dst) (d2 : dst ≤ 15) (s1 : 0 ≤ src) (s2 : src ≤ 15) (i1 : -2147483648 ≤ imm) (i2 : imm ≤ 2147483647) :
    Calls Try.prog 14 #[.agg #[.int .i64 3, .int .i64 dst, .int .i64 src, .int .i64 imm, .int .i64 size, .bool false, .int .i64 cond, .string ⟨⟨b :: bs⟩⟩]] w fun en w' => RightIs (RP 3 dst src imm size 0 cond 0) en ∧ Below w.heap.size w w' := by
  have base := (kn_cons (kn_lss 0 0 false (decide_eq_false (show ¬ (dst < 0) by omega))) (kn_cons (kn_gtr 0 15 false (decide_eq_false (show ¬ (dst > 15) by omega))) (kn_cons (kn_lss 1 0 false (decide_eq_false (show ¬ (src < 0) by omega))) (kn_cons (kn_gtr 1 15 false (decide_eq_false (show ¬ (src > 15) by omega))) (kn_cons (kn_lss 2 (-2147483648) false (decide_eq_false (show ¬ (imm < (-2147483648)) by omega))) (kn_cons (kn_gtr 2 2147483647 false (decide_eq_false (show ¬ (imm > 2147483647) by omega))) (kn_nil (m5 dst src imm size cond))))))))
  by_cases h0 : cond ≠ 0
  · refine (rr_of _ (kn_cons (kn_neq 4 0 true (decide_eq_true (h0))) base) 3 false ⟨⟨b :: bs⟩⟩ false (by kernel_rfl) w).mono ?_
    rintro e w' ⟨rfl, hb⟩
    exact ⟨ret_rp_false (by unfold RP lD lS lI lZ lG lC lT; omega), hb⟩
  · refine (rr_of _ (kn_cons (kn_neq 4 0 false (decide_eq_false (h0))) base) 3 false ⟨⟨b :: bs⟩⟩ false (by kernel_rfl) w).mono ?_
    rintro e w' ⟨rfl, hb⟩
    exact ⟨ret_rp_false (by unfold RP lD lS lI lZ lG lC lT; omega), hb⟩
theorem rr_3_01 (dst src imm size cond : Int) (w : World) (d1 : 0 ≤ dst) (d2 : dst ≤ 15) (s1 : 0 ≤ src) (s2 : src ≤ 15) (i1 : -2147483648 ≤ imm) (i2 : imm ≤ 2147483647) :
    Calls Try.prog 14 #[.agg #[.int .i64 3, .int .i64 dst, .int .i64 src, .int .i64 imm, .int .i64 size, .bool false, .int .i64 cond, .string ⟨⟨[]⟩⟩]] w fun en w' => RightIs (RP 3 dst src imm size 0 cond 1) en ∧ Below w.heap.size w w' := by
  have base := (kn_cons (kn_lss 0 0 false (decide_eq_false (show ¬ (dst < 0) by omega))) (kn_cons (kn_gtr 0 15 false (decide_eq_false (show ¬ (dst > 15) by omega))) (kn_cons (kn_lss 1 0 false (decide_eq_false (show ¬ (src < 0) by omega))) (kn_cons (kn_gtr 1 15 false (decide_eq_false (show ¬ (src > 15) by omega))) (kn_cons (kn_lss 2 (-2147483648) false (decide_eq_false (show ¬ (imm < (-2147483648)) by omega))) (kn_cons (kn_gtr 2 2147483647 false (decide_eq_false (show ¬ (imm > 2147483647) by omega))) (kn_nil (m5 dst src imm size cond))))))))
  by_cases h0 : cond ≠ 0
  · refine (rr_of _ (kn_cons (kn_neq 4 0 true (decide_eq_true (h0))) base) 3 false ⟨⟨[]⟩⟩ false (by kernel_rfl) w).mono ?_
    rintro e w' ⟨rfl, hb⟩
    exact ⟨ret_rp_false (by unfold RP lD lS lI lZ lG lC lT; omega), hb⟩
  · by_cases h1 : size ≠ 1
    · by_cases h2 : size ≠ 2
      · by_cases h3 : size ≠ 4
        · by_cases h4 : size ≠ 8
          · refine (rr_of _ (kn_cons (kn_neq 3 8 true (decide_eq_true (h4))) (kn_cons (kn_neq 3 4 true (decide_eq_true (h3))) (kn_cons (kn_neq 3 2 true (decide_eq_true (h2))) (kn_cons (kn_neq 3 1 true (decide_eq_true (h1))) (kn_cons (kn_neq 4 0 false (decide_eq_false (h0))) base))))) 3 false ⟨⟨[]⟩⟩ false (by kernel_rfl) w).mono ?_
            rintro e w' ⟨rfl, hb⟩
            exact ⟨ret_rp_false (by unfold RP lD lS lI lZ lG lC lT; omega), hb⟩
          · refine (rr_of _ (kn_cons (kn_neq 3 8 false (decide_eq_false (h4))) (kn_cons (kn_neq 3 4 true (decide_eq_true (h3))) (kn_cons (kn_neq 3 2 true (decide_eq_true (h2))) (kn_cons (kn_neq 3 1 true (decide_eq_true (h1))) (kn_cons (kn_neq 4 0 false (decide_eq_false (h0))) base))))) 3 false ⟨⟨[]⟩⟩ true (by kernel_rfl) w).mono ?_
            rintro e w' ⟨rfl, hb⟩
            exact ⟨ret_rp_true (by unfold RP lD lS lI lZ lG lC lT; omega), hb⟩
        · refine (rr_of _ (kn_cons (kn_neq 3 4 false (decide_eq_false (h3))) (kn_cons (kn_neq 3 2 true (decide_eq_true (h2))) (kn_cons (kn_neq 3 1 true (decide_eq_true (h1))) (kn_cons (kn_neq 4 0 false (decide_eq_false (h0))) base)))) 3 false ⟨⟨[]⟩⟩ true (by kernel_rfl) w).mono ?_
          rintro e w' ⟨rfl, hb⟩
          exact ⟨ret_rp_true (by unfold RP lD lS lI lZ lG lC lT; omega), hb⟩
      · refine (rr_of _ (kn_cons (kn_neq 3 2 false (decide_eq_false (h2))) (kn_cons (kn_neq 3 1 true (decide_eq_true (h1))) (kn_cons (kn_neq 4 0 false (decide_eq_false (h0))) base))) 3 false ⟨⟨[]⟩⟩ true (by kernel_rfl) w).mono ?_
        rintro e w' ⟨rfl, hb⟩
        exact ⟨ret_rp_true (by unfold RP lD lS lI lZ lG lC lT; omega), hb⟩
    · refine (rr_of _ (kn_cons (kn_neq 3 1 false (decide_eq_false (h1))) (kn_cons (kn_neq 4 0 false (decide_eq_false (h0))) base)) 3 false ⟨⟨[]⟩⟩ true (by kernel_rfl) w).mono ?_
      rintro e w' ⟨rfl, hb⟩
      exact ⟨ret_rp_true (by unfold RP lD lS lI lZ lG lC lT; omega), hb⟩
theorem rr_3_10 (dst src imm size cond : Int) (b : UInt8) (bs : List UInt8) (w : World) (d1 : 0 ≤ dst) (d2 : dst ≤ 15) (s1 : 0 ≤ src) (s2 : src ≤ 15) (i1 : -2147483648 ≤ imm) (i2 : imm ≤ 2147483647) :
    Calls Try.prog 14 #[.agg #[.int .i64 3, .int .i64 dst, .int .i64 src, .int .i64 imm, .int .i64 size, .bool true, .int .i64 cond, .string ⟨⟨b :: bs⟩⟩]] w fun en w' => RightIs (RP 3 dst src imm size 1 cond 0) en ∧ Below w.heap.size w w' := by
  have base := (kn_cons (kn_lss 0 0 false (decide_eq_false (show ¬ (dst < 0) by omega))) (kn_cons (kn_gtr 0 15 false (decide_eq_false (show ¬ (dst > 15) by omega))) (kn_cons (kn_lss 1 0 false (decide_eq_false (show ¬ (src < 0) by omega))) (kn_cons (kn_gtr 1 15 false (decide_eq_false (show ¬ (src > 15) by omega))) (kn_cons (kn_lss 2 (-2147483648) false (decide_eq_false (show ¬ (imm < (-2147483648)) by omega))) (kn_cons (kn_gtr 2 2147483647 false (decide_eq_false (show ¬ (imm > 2147483647) by omega))) (kn_nil (m5 dst src imm size cond))))))))
  by_cases h0 : cond ≠ 0
  · refine (rr_of _ (kn_cons (kn_neq 4 0 true (decide_eq_true (h0))) base) 3 true ⟨⟨b :: bs⟩⟩ false (by kernel_rfl) w).mono ?_
    rintro e w' ⟨rfl, hb⟩
    exact ⟨ret_rp_false (by unfold RP lD lS lI lZ lG lC lT; omega), hb⟩
  · refine (rr_of _ (kn_cons (kn_neq 4 0 false (decide_eq_false (h0))) base) 3 true ⟨⟨b :: bs⟩⟩ false (by kernel_rfl) w).mono ?_
    rintro e w' ⟨rfl, hb⟩
    exact ⟨ret_rp_false (by unfold RP lD lS lI lZ lG lC lT; omega), hb⟩
theorem rr_3_11 (dst src imm size cond : Int) (w : World) (d1 : 0 ≤ dst) (d2 : dst ≤ 15) (s1 : 0 ≤ src) (s2 : src ≤ 15) (i1 : -2147483648 ≤ imm) (i2 : imm ≤ 2147483647) :
    Calls Try.prog 14 #[.agg #[.int .i64 3, .int .i64 dst, .int .i64 src, .int .i64 imm, .int .i64 size, .bool true, .int .i64 cond, .string ⟨⟨[]⟩⟩]] w fun en w' => RightIs (RP 3 dst src imm size 1 cond 1) en ∧ Below w.heap.size w w' := by
  have base := (kn_cons (kn_lss 0 0 false (decide_eq_false (show ¬ (dst < 0) by omega))) (kn_cons (kn_gtr 0 15 false (decide_eq_false (show ¬ (dst > 15) by omega))) (kn_cons (kn_lss 1 0 false (decide_eq_false (show ¬ (src < 0) by omega))) (kn_cons (kn_gtr 1 15 false (decide_eq_false (show ¬ (src > 15) by omega))) (kn_cons (kn_lss 2 (-2147483648) false (decide_eq_false (show ¬ (imm < (-2147483648)) by omega))) (kn_cons (kn_gtr 2 2147483647 false (decide_eq_false (show ¬ (imm > 2147483647) by omega))) (kn_nil (m5 dst src imm size cond))))))))
  by_cases h0 : cond ≠ 0
  · refine (rr_of _ (kn_cons (kn_neq 4 0 true (decide_eq_true (h0))) base) 3 true ⟨⟨[]⟩⟩ false (by kernel_rfl) w).mono ?_
    rintro e w' ⟨rfl, hb⟩
    exact ⟨ret_rp_false (by unfold RP lD lS lI lZ lG lC lT; omega), hb⟩
  · by_cases h1 : size ≠ 1
    · by_cases h2 : size ≠ 2
      · by_cases h3 : size ≠ 4
        · by_cases h4 : size ≠ 8
          · refine (rr_of _ (kn_cons (kn_neq 3 8 true (decide_eq_true (h4))) (kn_cons (kn_neq 3 4 true (decide_eq_true (h3))) (kn_cons (kn_neq 3 2 true (decide_eq_true (h2))) (kn_cons (kn_neq 3 1 true (decide_eq_true (h1))) (kn_cons (kn_neq 4 0 false (decide_eq_false (h0))) base))))) 3 true ⟨⟨[]⟩⟩ false (by kernel_rfl) w).mono ?_
            rintro e w' ⟨rfl, hb⟩
            exact ⟨ret_rp_false (by unfold RP lD lS lI lZ lG lC lT; omega), hb⟩
          · refine (rr_of _ (kn_cons (kn_eql 3 8 true (decide_eq_true (show (size = 8) by omega))) (kn_cons (kn_neq 3 8 false (decide_eq_false (h4))) (kn_cons (kn_neq 3 4 true (decide_eq_true (h3))) (kn_cons (kn_neq 3 2 true (decide_eq_true (h2))) (kn_cons (kn_neq 3 1 true (decide_eq_true (h1))) (kn_cons (kn_neq 4 0 false (decide_eq_false (h0))) base)))))) 3 true ⟨⟨[]⟩⟩ false (by kernel_rfl) w).mono ?_
            rintro e w' ⟨rfl, hb⟩
            exact ⟨ret_rp_false (by unfold RP lD lS lI lZ lG lC lT; omega), hb⟩
        · refine (rr_of _ (kn_cons (kn_eql 3 8 false (decide_eq_false (show ¬ (size = 8) by omega))) (kn_cons (kn_neq 3 4 false (decide_eq_false (h3))) (kn_cons (kn_neq 3 2 true (decide_eq_true (h2))) (kn_cons (kn_neq 3 1 true (decide_eq_true (h1))) (kn_cons (kn_neq 4 0 false (decide_eq_false (h0))) base))))) 3 true ⟨⟨[]⟩⟩ true (by kernel_rfl) w).mono ?_
          rintro e w' ⟨rfl, hb⟩
          exact ⟨ret_rp_true (by unfold RP lD lS lI lZ lG lC lT; omega), hb⟩
      · refine (rr_of _ (kn_cons (kn_eql 3 8 false (decide_eq_false (show ¬ (size = 8) by omega))) (kn_cons (kn_neq 3 2 false (decide_eq_false (h2))) (kn_cons (kn_neq 3 1 true (decide_eq_true (h1))) (kn_cons (kn_neq 4 0 false (decide_eq_false (h0))) base)))) 3 true ⟨⟨[]⟩⟩ true (by kernel_rfl) w).mono ?_
        rintro e w' ⟨rfl, hb⟩
        exact ⟨ret_rp_true (by unfold RP lD lS lI lZ lG lC lT; omega), hb⟩
    · refine (rr_of _ (kn_cons (kn_eql 3 8 false (decide_eq_false (show ¬ (size = 8) by omega))) (kn_cons (kn_neq 3 1 false (decide_eq_false (h1))) (kn_cons (kn_neq 4 0 false (decide_eq_false (h0))) base))) 3 true ⟨⟨[]⟩⟩ true (by kernel_rfl) w).mono ?_
      rintro e w' ⟨rfl, hb⟩
      exact ⟨ret_rp_true (by unfold RP lD lS lI lZ lG lC lT; omega), hb⟩
theorem rr_9_00 (dst src imm size cond : Int) (b : UInt8) (bs : List UInt8) (w : World) (d1 : 0 ≤ dst) (d2 : dst ≤ 15) (s1 : 0 ≤ src) (s2 : src ≤ 15) (i1 : -2147483648 ≤ imm) (i2 : imm ≤ 2147483647) :
    Calls Try.prog 14 #[.agg #[.int .i64 9, .int .i64 dst, .int .i64 src, .int .i64 imm, .int .i64 size, .bool false, .int .i64 cond, .string ⟨⟨b :: bs⟩⟩]] w fun en w' => RightIs (RP 9 dst src imm size 0 cond 0) en ∧ Below w.heap.size w w' := by
  have base := (kn_cons (kn_lss 0 0 false (decide_eq_false (show ¬ (dst < 0) by omega))) (kn_cons (kn_gtr 0 15 false (decide_eq_false (show ¬ (dst > 15) by omega))) (kn_cons (kn_lss 1 0 false (decide_eq_false (show ¬ (src < 0) by omega))) (kn_cons (kn_gtr 1 15 false (decide_eq_false (show ¬ (src > 15) by omega))) (kn_cons (kn_lss 2 (-2147483648) false (decide_eq_false (show ¬ (imm < (-2147483648)) by omega))) (kn_cons (kn_gtr 2 2147483647 false (decide_eq_false (show ¬ (imm > 2147483647) by omega))) (kn_nil (m5 dst src imm size cond))))))))
  by_cases h0 : imm ≠ 0
  · refine (rr_of _ (kn_cons (kn_neq 2 0 true (decide_eq_true (h0))) base) 9 false ⟨⟨b :: bs⟩⟩ false (by kernel_rfl) w).mono ?_
    rintro e w' ⟨rfl, hb⟩
    exact ⟨ret_rp_false (by unfold RP lD lS lI lZ lG lC lT; omega), hb⟩
  · by_cases h1 : size ≠ 0
    · refine (rr_of _ (kn_cons (kn_neq 3 0 true (decide_eq_true (h1))) (kn_cons (kn_neq 2 0 false (decide_eq_false (h0))) base)) 9 false ⟨⟨b :: bs⟩⟩ false (by kernel_rfl) w).mono ?_
      rintro e w' ⟨rfl, hb⟩
      exact ⟨ret_rp_false (by unfold RP lD lS lI lZ lG lC lT; omega), hb⟩
    · by_cases h2 : cond ≠ 0
      · refine (rr_of _ (kn_cons (kn_neq 4 0 true (decide_eq_true (h2))) (kn_cons (kn_neq 3 0 false (decide_eq_false (h1))) (kn_cons (kn_neq 2 0 false (decide_eq_false (h0))) base))) 9 false ⟨⟨b :: bs⟩⟩ false (by kernel_rfl) w).mono ?_
        rintro e w' ⟨rfl, hb⟩
        exact ⟨ret_rp_false (by unfold RP lD lS lI lZ lG lC lT; omega), hb⟩
      · refine (rr_of _ (kn_cons (kn_neq 4 0 false (decide_eq_false (h2))) (kn_cons (kn_neq 3 0 false (decide_eq_false (h1))) (kn_cons (kn_neq 2 0 false (decide_eq_false (h0))) base))) 9 false ⟨⟨b :: bs⟩⟩ false (by kernel_rfl) w).mono ?_
        rintro e w' ⟨rfl, hb⟩
        exact ⟨ret_rp_false (by unfold RP lD lS lI lZ lG lC lT; omega), hb⟩
theorem rr_9_01 (dst src imm size cond : Int) (w : World) (d1 : 0 ≤ dst) (d2 : dst ≤ 15) (s1 : 0 ≤ src) (s2 : src ≤ 15) (i1 : -2147483648 ≤ imm) (i2 : imm ≤ 2147483647) :
    Calls Try.prog 14 #[.agg #[.int .i64 9, .int .i64 dst, .int .i64 src, .int .i64 imm, .int .i64 size, .bool false, .int .i64 cond, .string ⟨⟨[]⟩⟩]] w fun en w' => RightIs (RP 9 dst src imm size 0 cond 1) en ∧ Below w.heap.size w w' := by
  have base := (kn_cons (kn_lss 0 0 false (decide_eq_false (show ¬ (dst < 0) by omega))) (kn_cons (kn_gtr 0 15 false (decide_eq_false (show ¬ (dst > 15) by omega))) (kn_cons (kn_lss 1 0 false (decide_eq_false (show ¬ (src < 0) by omega))) (kn_cons (kn_gtr 1 15 false (decide_eq_false (show ¬ (src > 15) by omega))) (kn_cons (kn_lss 2 (-2147483648) false (decide_eq_false (show ¬ (imm < (-2147483648)) by omega))) (kn_cons (kn_gtr 2 2147483647 false (decide_eq_false (show ¬ (imm > 2147483647) by omega))) (kn_nil (m5 dst src imm size cond))))))))
  by_cases h0 : imm ≠ 0
  · refine (rr_of _ (kn_cons (kn_neq 2 0 true (decide_eq_true (h0))) base) 9 false ⟨⟨[]⟩⟩ false (by kernel_rfl) w).mono ?_
    rintro e w' ⟨rfl, hb⟩
    exact ⟨ret_rp_false (by unfold RP lD lS lI lZ lG lC lT; omega), hb⟩
  · by_cases h1 : size ≠ 0
    · refine (rr_of _ (kn_cons (kn_neq 3 0 true (decide_eq_true (h1))) (kn_cons (kn_neq 2 0 false (decide_eq_false (h0))) base)) 9 false ⟨⟨[]⟩⟩ false (by kernel_rfl) w).mono ?_
      rintro e w' ⟨rfl, hb⟩
      exact ⟨ret_rp_false (by unfold RP lD lS lI lZ lG lC lT; omega), hb⟩
    · by_cases h2 : cond ≠ 0
      · refine (rr_of _ (kn_cons (kn_neq 4 0 true (decide_eq_true (h2))) (kn_cons (kn_neq 3 0 false (decide_eq_false (h1))) (kn_cons (kn_neq 2 0 false (decide_eq_false (h0))) base))) 9 false ⟨⟨[]⟩⟩ false (by kernel_rfl) w).mono ?_
        rintro e w' ⟨rfl, hb⟩
        exact ⟨ret_rp_false (by unfold RP lD lS lI lZ lG lC lT; omega), hb⟩
      · refine (rr_of _ (kn_cons (kn_neq 4 0 false (decide_eq_false (h2))) (kn_cons (kn_neq 3 0 false (decide_eq_false (h1))) (kn_cons (kn_neq 2 0 false (decide_eq_false (h0))) base))) 9 false ⟨⟨[]⟩⟩ true (by kernel_rfl) w).mono ?_
        rintro e w' ⟨rfl, hb⟩
        exact ⟨ret_rp_true (by unfold RP lD lS lI lZ lG lC lT; omega), hb⟩
theorem rr_9_10 (dst src imm size cond : Int) (b : UInt8) (bs : List UInt8) (w : World) (d1 : 0 ≤ dst) (d2 : dst ≤ 15) (s1 : 0 ≤ src) (s2 : src ≤ 15) (i1 : -2147483648 ≤ imm) (i2 : imm ≤ 2147483647) :
    Calls Try.prog 14 #[.agg #[.int .i64 9, .int .i64 dst, .int .i64 src, .int .i64 imm, .int .i64 size, .bool true, .int .i64 cond, .string ⟨⟨b :: bs⟩⟩]] w fun en w' => RightIs (RP 9 dst src imm size 1 cond 0) en ∧ Below w.heap.size w w' := by
  have base := (kn_cons (kn_lss 0 0 false (decide_eq_false (show ¬ (dst < 0) by omega))) (kn_cons (kn_gtr 0 15 false (decide_eq_false (show ¬ (dst > 15) by omega))) (kn_cons (kn_lss 1 0 false (decide_eq_false (show ¬ (src < 0) by omega))) (kn_cons (kn_gtr 1 15 false (decide_eq_false (show ¬ (src > 15) by omega))) (kn_cons (kn_lss 2 (-2147483648) false (decide_eq_false (show ¬ (imm < (-2147483648)) by omega))) (kn_cons (kn_gtr 2 2147483647 false (decide_eq_false (show ¬ (imm > 2147483647) by omega))) (kn_nil (m5 dst src imm size cond))))))))
  by_cases h0 : imm ≠ 0
  · refine (rr_of _ (kn_cons (kn_neq 2 0 true (decide_eq_true (h0))) base) 9 true ⟨⟨b :: bs⟩⟩ false (by kernel_rfl) w).mono ?_
    rintro e w' ⟨rfl, hb⟩
    exact ⟨ret_rp_false (by unfold RP lD lS lI lZ lG lC lT; omega), hb⟩
  · by_cases h1 : size ≠ 0
    · refine (rr_of _ (kn_cons (kn_neq 3 0 true (decide_eq_true (h1))) (kn_cons (kn_neq 2 0 false (decide_eq_false (h0))) base)) 9 true ⟨⟨b :: bs⟩⟩ false (by kernel_rfl) w).mono ?_
      rintro e w' ⟨rfl, hb⟩
      exact ⟨ret_rp_false (by unfold RP lD lS lI lZ lG lC lT; omega), hb⟩
    · refine (rr_of _ (kn_cons (kn_neq 3 0 false (decide_eq_false (h1))) (kn_cons (kn_neq 2 0 false (decide_eq_false (h0))) base)) 9 true ⟨⟨b :: bs⟩⟩ false (by kernel_rfl) w).mono ?_
      rintro e w' ⟨rfl, hb⟩
      exact ⟨ret_rp_false (by unfold RP lD lS lI lZ lG lC lT; omega), hb⟩
theorem rr_9_11 (dst src imm size cond : Int) (w : World) (d1 : 0 ≤ dst) (d2 : dst ≤ 15) (s1 : 0 ≤ src) (s2 : src ≤ 15) (i1 : -2147483648 ≤ imm) (i2 : imm ≤ 2147483647) :
    Calls Try.prog 14 #[.agg #[.int .i64 9, .int .i64 dst, .int .i64 src, .int .i64 imm, .int .i64 size, .bool true, .int .i64 cond, .string ⟨⟨[]⟩⟩]] w fun en w' => RightIs (RP 9 dst src imm size 1 cond 1) en ∧ Below w.heap.size w w' := by
  have base := (kn_cons (kn_lss 0 0 false (decide_eq_false (show ¬ (dst < 0) by omega))) (kn_cons (kn_gtr 0 15 false (decide_eq_false (show ¬ (dst > 15) by omega))) (kn_cons (kn_lss 1 0 false (decide_eq_false (show ¬ (src < 0) by omega))) (kn_cons (kn_gtr 1 15 false (decide_eq_false (show ¬ (src > 15) by omega))) (kn_cons (kn_lss 2 (-2147483648) false (decide_eq_false (show ¬ (imm < (-2147483648)) by omega))) (kn_cons (kn_gtr 2 2147483647 false (decide_eq_false (show ¬ (imm > 2147483647) by omega))) (kn_nil (m5 dst src imm size cond))))))))
  by_cases h0 : imm ≠ 0
  · refine (rr_of _ (kn_cons (kn_neq 2 0 true (decide_eq_true (h0))) base) 9 true ⟨⟨[]⟩⟩ false (by kernel_rfl) w).mono ?_
    rintro e w' ⟨rfl, hb⟩
    exact ⟨ret_rp_false (by unfold RP lD lS lI lZ lG lC lT; omega), hb⟩
  · by_cases h1 : size ≠ 0
    · refine (rr_of _ (kn_cons (kn_neq 3 0 true (decide_eq_true (h1))) (kn_cons (kn_neq 2 0 false (decide_eq_false (h0))) base)) 9 true ⟨⟨[]⟩⟩ false (by kernel_rfl) w).mono ?_
      rintro e w' ⟨rfl, hb⟩
      exact ⟨ret_rp_false (by unfold RP lD lS lI lZ lG lC lT; omega), hb⟩
    · refine (rr_of _ (kn_cons (kn_neq 3 0 false (decide_eq_false (h1))) (kn_cons (kn_neq 2 0 false (decide_eq_false (h0))) base)) 9 true ⟨⟨[]⟩⟩ false (by kernel_rfl) w).mono ?_
      rintro e w' ⟨rfl, hb⟩
      exact ⟨ret_rp_false (by unfold RP lD lS lI lZ lG lC lT; omega), hb⟩
theorem rr_17_00 (dst src imm size cond : Int) (b : UInt8) (bs : List UInt8) (w : World) (d1 : 0 ≤ dst) (d2 : dst ≤ 15) (s1 : 0 ≤ src) (s2 : src ≤ 15) (i1 : -2147483648 ≤ imm) (i2 : imm ≤ 2147483647) :
    Calls Try.prog 14 #[.agg #[.int .i64 17, .int .i64 dst, .int .i64 src, .int .i64 imm, .int .i64 size, .bool false, .int .i64 cond, .string ⟨⟨b :: bs⟩⟩]] w fun en w' => RightIs (RP 17 dst src imm size 0 cond 0) en ∧ Below w.heap.size w w' := by
  have base := (kn_cons (kn_lss 0 0 false (decide_eq_false (show ¬ (dst < 0) by omega))) (kn_cons (kn_gtr 0 15 false (decide_eq_false (show ¬ (dst > 15) by omega))) (kn_cons (kn_lss 1 0 false (decide_eq_false (show ¬ (src < 0) by omega))) (kn_cons (kn_gtr 1 15 false (decide_eq_false (show ¬ (src > 15) by omega))) (kn_cons (kn_lss 2 (-2147483648) false (decide_eq_false (show ¬ (imm < (-2147483648)) by omega))) (kn_cons (kn_gtr 2 2147483647 false (decide_eq_false (show ¬ (imm > 2147483647) by omega))) (kn_nil (m5 dst src imm size cond))))))))
  by_cases h0 : src ≠ 0
  · refine (rr_of _ (kn_cons (kn_neq 1 0 true (decide_eq_true (h0))) base) 17 false ⟨⟨b :: bs⟩⟩ false (by kernel_rfl) w).mono ?_
    rintro e w' ⟨rfl, hb⟩
    exact ⟨ret_rp_false (by unfold RP lD lS lI lZ lG lC lT; omega), hb⟩
  · by_cases h1 : size ≠ 0
    · refine (rr_of _ (kn_cons (kn_neq 3 0 true (decide_eq_true (h1))) (kn_cons (kn_neq 1 0 false (decide_eq_false (h0))) base)) 17 false ⟨⟨b :: bs⟩⟩ false (by kernel_rfl) w).mono ?_
      rintro e w' ⟨rfl, hb⟩
      exact ⟨ret_rp_false (by unfold RP lD lS lI lZ lG lC lT; omega), hb⟩
    · by_cases h2 : cond ≠ 0
      · refine (rr_of _ (kn_cons (kn_neq 4 0 true (decide_eq_true (h2))) (kn_cons (kn_neq 3 0 false (decide_eq_false (h1))) (kn_cons (kn_neq 1 0 false (decide_eq_false (h0))) base))) 17 false ⟨⟨b :: bs⟩⟩ false (by kernel_rfl) w).mono ?_
        rintro e w' ⟨rfl, hb⟩
        exact ⟨ret_rp_false (by unfold RP lD lS lI lZ lG lC lT; omega), hb⟩
      · refine (rr_of _ (kn_cons (kn_neq 4 0 false (decide_eq_false (h2))) (kn_cons (kn_neq 3 0 false (decide_eq_false (h1))) (kn_cons (kn_neq 1 0 false (decide_eq_false (h0))) base))) 17 false ⟨⟨b :: bs⟩⟩ false (by kernel_rfl) w).mono ?_
        rintro e w' ⟨rfl, hb⟩
        exact ⟨ret_rp_false (by unfold RP lD lS lI lZ lG lC lT; omega), hb⟩
theorem rr_17_01 (dst src imm size cond : Int) (w : World) (d1 : 0 ≤ dst) (d2 : dst ≤ 15) (s1 : 0 ≤ src) (s2 : src ≤ 15) (i1 : -2147483648 ≤ imm) (i2 : imm ≤ 2147483647) :
    Calls Try.prog 14 #[.agg #[.int .i64 17, .int .i64 dst, .int .i64 src, .int .i64 imm, .int .i64 size, .bool false, .int .i64 cond, .string ⟨⟨[]⟩⟩]] w fun en w' => RightIs (RP 17 dst src imm size 0 cond 1) en ∧ Below w.heap.size w w' := by
  have base := (kn_cons (kn_lss 0 0 false (decide_eq_false (show ¬ (dst < 0) by omega))) (kn_cons (kn_gtr 0 15 false (decide_eq_false (show ¬ (dst > 15) by omega))) (kn_cons (kn_lss 1 0 false (decide_eq_false (show ¬ (src < 0) by omega))) (kn_cons (kn_gtr 1 15 false (decide_eq_false (show ¬ (src > 15) by omega))) (kn_cons (kn_lss 2 (-2147483648) false (decide_eq_false (show ¬ (imm < (-2147483648)) by omega))) (kn_cons (kn_gtr 2 2147483647 false (decide_eq_false (show ¬ (imm > 2147483647) by omega))) (kn_nil (m5 dst src imm size cond))))))))
  by_cases h0 : src ≠ 0
  · refine (rr_of _ (kn_cons (kn_neq 1 0 true (decide_eq_true (h0))) base) 17 false ⟨⟨[]⟩⟩ false (by kernel_rfl) w).mono ?_
    rintro e w' ⟨rfl, hb⟩
    exact ⟨ret_rp_false (by unfold RP lD lS lI lZ lG lC lT; omega), hb⟩
  · by_cases h1 : size ≠ 0
    · refine (rr_of _ (kn_cons (kn_neq 3 0 true (decide_eq_true (h1))) (kn_cons (kn_neq 1 0 false (decide_eq_false (h0))) base)) 17 false ⟨⟨[]⟩⟩ false (by kernel_rfl) w).mono ?_
      rintro e w' ⟨rfl, hb⟩
      exact ⟨ret_rp_false (by unfold RP lD lS lI lZ lG lC lT; omega), hb⟩
    · by_cases h2 : cond ≠ 0
      · refine (rr_of _ (kn_cons (kn_neq 4 0 true (decide_eq_true (h2))) (kn_cons (kn_neq 3 0 false (decide_eq_false (h1))) (kn_cons (kn_neq 1 0 false (decide_eq_false (h0))) base))) 17 false ⟨⟨[]⟩⟩ false (by kernel_rfl) w).mono ?_
        rintro e w' ⟨rfl, hb⟩
        exact ⟨ret_rp_false (by unfold RP lD lS lI lZ lG lC lT; omega), hb⟩
      · refine (rr_of _ (kn_cons (kn_neq 4 0 false (decide_eq_false (h2))) (kn_cons (kn_neq 3 0 false (decide_eq_false (h1))) (kn_cons (kn_neq 1 0 false (decide_eq_false (h0))) base))) 17 false ⟨⟨[]⟩⟩ true (by kernel_rfl) w).mono ?_
        rintro e w' ⟨rfl, hb⟩
        exact ⟨ret_rp_true (by unfold RP lD lS lI lZ lG lC lT; omega), hb⟩
theorem rr_17_10 (dst src imm size cond : Int) (b : UInt8) (bs : List UInt8) (w : World) (d1 : 0 ≤ dst) (d2 : dst ≤ 15) (s1 : 0 ≤ src) (s2 : src ≤ 15) (i1 : -2147483648 ≤ imm) (i2 : imm ≤ 2147483647) :
    Calls Try.prog 14 #[.agg #[.int .i64 17, .int .i64 dst, .int .i64 src, .int .i64 imm, .int .i64 size, .bool true, .int .i64 cond, .string ⟨⟨b :: bs⟩⟩]] w fun en w' => RightIs (RP 17 dst src imm size 1 cond 0) en ∧ Below w.heap.size w w' := by
  have base := (kn_cons (kn_lss 0 0 false (decide_eq_false (show ¬ (dst < 0) by omega))) (kn_cons (kn_gtr 0 15 false (decide_eq_false (show ¬ (dst > 15) by omega))) (kn_cons (kn_lss 1 0 false (decide_eq_false (show ¬ (src < 0) by omega))) (kn_cons (kn_gtr 1 15 false (decide_eq_false (show ¬ (src > 15) by omega))) (kn_cons (kn_lss 2 (-2147483648) false (decide_eq_false (show ¬ (imm < (-2147483648)) by omega))) (kn_cons (kn_gtr 2 2147483647 false (decide_eq_false (show ¬ (imm > 2147483647) by omega))) (kn_nil (m5 dst src imm size cond))))))))
  by_cases h0 : src ≠ 0
  · refine (rr_of _ (kn_cons (kn_neq 1 0 true (decide_eq_true (h0))) base) 17 true ⟨⟨b :: bs⟩⟩ false (by kernel_rfl) w).mono ?_
    rintro e w' ⟨rfl, hb⟩
    exact ⟨ret_rp_false (by unfold RP lD lS lI lZ lG lC lT; omega), hb⟩
  · by_cases h1 : size ≠ 0
    · refine (rr_of _ (kn_cons (kn_neq 3 0 true (decide_eq_true (h1))) (kn_cons (kn_neq 1 0 false (decide_eq_false (h0))) base)) 17 true ⟨⟨b :: bs⟩⟩ false (by kernel_rfl) w).mono ?_
      rintro e w' ⟨rfl, hb⟩
      exact ⟨ret_rp_false (by unfold RP lD lS lI lZ lG lC lT; omega), hb⟩
    · refine (rr_of _ (kn_cons (kn_neq 3 0 false (decide_eq_false (h1))) (kn_cons (kn_neq 1 0 false (decide_eq_false (h0))) base)) 17 true ⟨⟨b :: bs⟩⟩ false (by kernel_rfl) w).mono ?_
      rintro e w' ⟨rfl, hb⟩
      exact ⟨ret_rp_false (by unfold RP lD lS lI lZ lG lC lT; omega), hb⟩
theorem rr_17_11 (dst src imm size cond : Int) (w : World) (d1 : 0 ≤ dst) (d2 : dst ≤ 15) (s1 : 0 ≤ src) (s2 : src ≤ 15) (i1 : -2147483648 ≤ imm) (i2 : imm ≤ 2147483647) :
    Calls Try.prog 14 #[.agg #[.int .i64 17, .int .i64 dst, .int .i64 src, .int .i64 imm, .int .i64 size, .bool true, .int .i64 cond, .string ⟨⟨[]⟩⟩]] w fun en w' => RightIs (RP 17 dst src imm size 1 cond 1) en ∧ Below w.heap.size w w' := by
  have base := (kn_cons (kn_lss 0 0 false (decide_eq_false (show ¬ (dst < 0) by omega))) (kn_cons (kn_gtr 0 15 false (decide_eq_false (show ¬ (dst > 15) by omega))) (kn_cons (kn_lss 1 0 false (decide_eq_false (show ¬ (src < 0) by omega))) (kn_cons (kn_gtr 1 15 false (decide_eq_false (show ¬ (src > 15) by omega))) (kn_cons (kn_lss 2 (-2147483648) false (decide_eq_false (show ¬ (imm < (-2147483648)) by omega))) (kn_cons (kn_gtr 2 2147483647 false (decide_eq_false (show ¬ (imm > 2147483647) by omega))) (kn_nil (m5 dst src imm size cond))))))))
  by_cases h0 : src ≠ 0
  · refine (rr_of _ (kn_cons (kn_neq 1 0 true (decide_eq_true (h0))) base) 17 true ⟨⟨[]⟩⟩ false (by kernel_rfl) w).mono ?_
    rintro e w' ⟨rfl, hb⟩
    exact ⟨ret_rp_false (by unfold RP lD lS lI lZ lG lC lT; omega), hb⟩
  · by_cases h1 : size ≠ 0
    · refine (rr_of _ (kn_cons (kn_neq 3 0 true (decide_eq_true (h1))) (kn_cons (kn_neq 1 0 false (decide_eq_false (h0))) base)) 17 true ⟨⟨[]⟩⟩ false (by kernel_rfl) w).mono ?_
      rintro e w' ⟨rfl, hb⟩
      exact ⟨ret_rp_false (by unfold RP lD lS lI lZ lG lC lT; omega), hb⟩
    · refine (rr_of _ (kn_cons (kn_neq 3 0 false (decide_eq_false (h1))) (kn_cons (kn_neq 1 0 false (decide_eq_false (h0))) base)) 17 true ⟨⟨[]⟩⟩ false (by kernel_rfl) w).mono ?_
      rintro e w' ⟨rfl, hb⟩
      exact ⟨ret_rp_false (by unfold RP lD lS lI lZ lG lC lT; omega), hb⟩
theorem rr_22_00 (dst src imm size cond : Int) (b : UInt8) (bs : List UInt8) (w : World) (d1 : 0 ≤ dst) (d2 : dst ≤ 15) (s1 : 0 ≤ src) (s2 : src ≤ 15) (i1 : -2147483648 ≤ imm) (i2 : imm ≤ 2147483647) :
    Calls Try.prog 14 #[.agg #[.int .i64 22, .int .i64 dst, .int .i64 src, .int .i64 imm, .int .i64 size, .bool false, .int .i64 cond, .string ⟨⟨b :: bs⟩⟩]] w fun en w' => RightIs (RP 22 dst src imm size 0 cond 0) en ∧ Below w.heap.size w w' := by
  have base := (kn_cons (kn_lss 0 0 false (decide_eq_false (show ¬ (dst < 0) by omega))) (kn_cons (kn_gtr 0 15 false (decide_eq_false (show ¬ (dst > 15) by omega))) (kn_cons (kn_lss 1 0 false (decide_eq_false (show ¬ (src < 0) by omega))) (kn_cons (kn_gtr 1 15 false (decide_eq_false (show ¬ (src > 15) by omega))) (kn_cons (kn_lss 2 (-2147483648) false (decide_eq_false (show ¬ (imm < (-2147483648)) by omega))) (kn_cons (kn_gtr 2 2147483647 false (decide_eq_false (show ¬ (imm > 2147483647) by omega))) (kn_nil (m5 dst src imm size cond))))))))
  by_cases h0 : src ≠ 0
  · refine (rr_of _ (kn_cons (kn_neq 1 0 true (decide_eq_true (h0))) base) 22 false ⟨⟨b :: bs⟩⟩ false (by kernel_rfl) w).mono ?_
    rintro e w' ⟨rfl, hb⟩
    exact ⟨ret_rp_false (by unfold RP lD lS lI lZ lG lC lT; omega), hb⟩
  · by_cases h1 : imm ≠ 0
    · refine (rr_of _ (kn_cons (kn_neq 2 0 true (decide_eq_true (h1))) (kn_cons (kn_neq 1 0 false (decide_eq_false (h0))) base)) 22 false ⟨⟨b :: bs⟩⟩ false (by kernel_rfl) w).mono ?_
      rintro e w' ⟨rfl, hb⟩
      exact ⟨ret_rp_false (by unfold RP lD lS lI lZ lG lC lT; omega), hb⟩
    · by_cases h2 : size ≠ 0
      · refine (rr_of _ (kn_cons (kn_neq 3 0 true (decide_eq_true (h2))) (kn_cons (kn_neq 2 0 false (decide_eq_false (h1))) (kn_cons (kn_neq 1 0 false (decide_eq_false (h0))) base))) 22 false ⟨⟨b :: bs⟩⟩ false (by kernel_rfl) w).mono ?_
        rintro e w' ⟨rfl, hb⟩
        exact ⟨ret_rp_false (by unfold RP lD lS lI lZ lG lC lT; omega), hb⟩
      · by_cases h3 : cond ≠ 0
        · refine (rr_of _ (kn_cons (kn_neq 4 0 true (decide_eq_true (h3))) (kn_cons (kn_neq 3 0 false (decide_eq_false (h2))) (kn_cons (kn_neq 2 0 false (decide_eq_false (h1))) (kn_cons (kn_neq 1 0 false (decide_eq_false (h0))) base)))) 22 false ⟨⟨b :: bs⟩⟩ false (by kernel_rfl) w).mono ?_
          rintro e w' ⟨rfl, hb⟩
          exact ⟨ret_rp_false (by unfold RP lD lS lI lZ lG lC lT; omega), hb⟩
        · refine (rr_of _ (kn_cons (kn_neq 4 0 false (decide_eq_false (h3))) (kn_cons (kn_neq 3 0 false (decide_eq_false (h2))) (kn_cons (kn_neq 2 0 false (decide_eq_false (h1))) (kn_cons (kn_neq 1 0 false (decide_eq_false (h0))) base)))) 22 false ⟨⟨b :: bs⟩⟩ false (by kernel_rfl) w).mono ?_
          rintro e w' ⟨rfl, hb⟩
          exact ⟨ret_rp_false (by unfold RP lD lS lI lZ lG lC lT; omega), hb⟩
theorem rr_22_01 (dst src imm size cond : Int) (w : World) (d1 : 0 ≤ dst) (d2 : dst ≤ 15) (s1 : 0 ≤ src) (s2 : src ≤ 15) (i1 : -2147483648 ≤ imm) (i2 : imm ≤ 2147483647) :
    Calls Try.prog 14 #[.agg #[.int .i64 22, .int .i64 dst, .int .i64 src, .int .i64 imm, .int .i64 size, .bool false, .int .i64 cond, .string ⟨⟨[]⟩⟩]] w fun en w' => RightIs (RP 22 dst src imm size 0 cond 1) en ∧ Below w.heap.size w w' := by
  have base := (kn_cons (kn_lss 0 0 false (decide_eq_false (show ¬ (dst < 0) by omega))) (kn_cons (kn_gtr 0 15 false (decide_eq_false (show ¬ (dst > 15) by omega))) (kn_cons (kn_lss 1 0 false (decide_eq_false (show ¬ (src < 0) by omega))) (kn_cons (kn_gtr 1 15 false (decide_eq_false (show ¬ (src > 15) by omega))) (kn_cons (kn_lss 2 (-2147483648) false (decide_eq_false (show ¬ (imm < (-2147483648)) by omega))) (kn_cons (kn_gtr 2 2147483647 false (decide_eq_false (show ¬ (imm > 2147483647) by omega))) (kn_nil (m5 dst src imm size cond))))))))
  by_cases h0 : src ≠ 0
  · refine (rr_of _ (kn_cons (kn_neq 1 0 true (decide_eq_true (h0))) base) 22 false ⟨⟨[]⟩⟩ false (by kernel_rfl) w).mono ?_
    rintro e w' ⟨rfl, hb⟩
    exact ⟨ret_rp_false (by unfold RP lD lS lI lZ lG lC lT; omega), hb⟩
  · by_cases h1 : imm ≠ 0
    · refine (rr_of _ (kn_cons (kn_neq 2 0 true (decide_eq_true (h1))) (kn_cons (kn_neq 1 0 false (decide_eq_false (h0))) base)) 22 false ⟨⟨[]⟩⟩ false (by kernel_rfl) w).mono ?_
      rintro e w' ⟨rfl, hb⟩
      exact ⟨ret_rp_false (by unfold RP lD lS lI lZ lG lC lT; omega), hb⟩
    · by_cases h2 : size ≠ 0
      · refine (rr_of _ (kn_cons (kn_neq 3 0 true (decide_eq_true (h2))) (kn_cons (kn_neq 2 0 false (decide_eq_false (h1))) (kn_cons (kn_neq 1 0 false (decide_eq_false (h0))) base))) 22 false ⟨⟨[]⟩⟩ false (by kernel_rfl) w).mono ?_
        rintro e w' ⟨rfl, hb⟩
        exact ⟨ret_rp_false (by unfold RP lD lS lI lZ lG lC lT; omega), hb⟩
      · by_cases h3 : cond ≠ 0
        · refine (rr_of _ (kn_cons (kn_neq 4 0 true (decide_eq_true (h3))) (kn_cons (kn_neq 3 0 false (decide_eq_false (h2))) (kn_cons (kn_neq 2 0 false (decide_eq_false (h1))) (kn_cons (kn_neq 1 0 false (decide_eq_false (h0))) base)))) 22 false ⟨⟨[]⟩⟩ false (by kernel_rfl) w).mono ?_
          rintro e w' ⟨rfl, hb⟩
          exact ⟨ret_rp_false (by unfold RP lD lS lI lZ lG lC lT; omega), hb⟩
        · refine (rr_of _ (kn_cons (kn_neq 4 0 false (decide_eq_false (h3))) (kn_cons (kn_neq 3 0 false (decide_eq_false (h2))) (kn_cons (kn_neq 2 0 false (decide_eq_false (h1))) (kn_cons (kn_neq 1 0 false (decide_eq_false (h0))) base)))) 22 false ⟨⟨[]⟩⟩ true (by kernel_rfl) w).mono ?_
          rintro e w' ⟨rfl, hb⟩
          exact ⟨ret_rp_true (by unfold RP lD lS lI lZ lG lC lT; omega), hb⟩
theorem rr_22_10 (dst src imm size cond : Int) (b : UInt8) (bs : List UInt8) (w : World) (d1 : 0 ≤ dst) (d2 : dst ≤ 15) (s1 : 0 ≤ src) (s2 : src ≤ 15) (i1 : -2147483648 ≤ imm) (i2 : imm ≤ 2147483647) :
    Calls Try.prog 14 #[.agg #[.int .i64 22, .int .i64 dst, .int .i64 src, .int .i64 imm, .int .i64 size, .bool true, .int .i64 cond, .string ⟨⟨b :: bs⟩⟩]] w fun en w' => RightIs (RP 22 dst src imm size 1 cond 0) en ∧ Below w.heap.size w w' := by
  have base := (kn_cons (kn_lss 0 0 false (decide_eq_false (show ¬ (dst < 0) by omega))) (kn_cons (kn_gtr 0 15 false (decide_eq_false (show ¬ (dst > 15) by omega))) (kn_cons (kn_lss 1 0 false (decide_eq_false (show ¬ (src < 0) by omega))) (kn_cons (kn_gtr 1 15 false (decide_eq_false (show ¬ (src > 15) by omega))) (kn_cons (kn_lss 2 (-2147483648) false (decide_eq_false (show ¬ (imm < (-2147483648)) by omega))) (kn_cons (kn_gtr 2 2147483647 false (decide_eq_false (show ¬ (imm > 2147483647) by omega))) (kn_nil (m5 dst src imm size cond))))))))
  by_cases h0 : src ≠ 0
  · refine (rr_of _ (kn_cons (kn_neq 1 0 true (decide_eq_true (h0))) base) 22 true ⟨⟨b :: bs⟩⟩ false (by kernel_rfl) w).mono ?_
    rintro e w' ⟨rfl, hb⟩
    exact ⟨ret_rp_false (by unfold RP lD lS lI lZ lG lC lT; omega), hb⟩
  · by_cases h1 : imm ≠ 0
    · refine (rr_of _ (kn_cons (kn_neq 2 0 true (decide_eq_true (h1))) (kn_cons (kn_neq 1 0 false (decide_eq_false (h0))) base)) 22 true ⟨⟨b :: bs⟩⟩ false (by kernel_rfl) w).mono ?_
      rintro e w' ⟨rfl, hb⟩
      exact ⟨ret_rp_false (by unfold RP lD lS lI lZ lG lC lT; omega), hb⟩
    · by_cases h2 : size ≠ 0
      · refine (rr_of _ (kn_cons (kn_neq 3 0 true (decide_eq_true (h2))) (kn_cons (kn_neq 2 0 false (decide_eq_false (h1))) (kn_cons (kn_neq 1 0 false (decide_eq_false (h0))) base))) 22 true ⟨⟨b :: bs⟩⟩ false (by kernel_rfl) w).mono ?_
        rintro e w' ⟨rfl, hb⟩
        exact ⟨ret_rp_false (by unfold RP lD lS lI lZ lG lC lT; omega), hb⟩
      · refine (rr_of _ (kn_cons (kn_neq 3 0 false (decide_eq_false (h2))) (kn_cons (kn_neq 2 0 false (decide_eq_false (h1))) (kn_cons (kn_neq 1 0 false (decide_eq_false (h0))) base))) 22 true ⟨⟨b :: bs⟩⟩ false (by kernel_rfl) w).mono ?_
        rintro e w' ⟨rfl, hb⟩
        exact ⟨ret_rp_false (by unfold RP lD lS lI lZ lG lC lT; omega), hb⟩
theorem rr_22_11 (dst src imm size cond : Int) (w : World) (d1 : 0 ≤ dst) (d2 : dst ≤ 15) (s1 : 0 ≤ src) (s2 : src ≤ 15) (i1 : -2147483648 ≤ imm) (i2 : imm ≤ 2147483647) :
    Calls Try.prog 14 #[.agg #[.int .i64 22, .int .i64 dst, .int .i64 src, .int .i64 imm, .int .i64 size, .bool true, .int .i64 cond, .string ⟨⟨[]⟩⟩]] w fun en w' => RightIs (RP 22 dst src imm size 1 cond 1) en ∧ Below w.heap.size w w' := by
  have base := (kn_cons (kn_lss 0 0 false (decide_eq_false (show ¬ (dst < 0) by omega))) (kn_cons (kn_gtr 0 15 false (decide_eq_false (show ¬ (dst > 15) by omega))) (kn_cons (kn_lss 1 0 false (decide_eq_false (show ¬ (src < 0) by omega))) (kn_cons (kn_gtr 1 15 false (decide_eq_false (show ¬ (src > 15) by omega))) (kn_cons (kn_lss 2 (-2147483648) false (decide_eq_false (show ¬ (imm < (-2147483648)) by omega))) (kn_cons (kn_gtr 2 2147483647 false (decide_eq_false (show ¬ (imm > 2147483647) by omega))) (kn_nil (m5 dst src imm size cond))))))))
  by_cases h0 : src ≠ 0
  · refine (rr_of _ (kn_cons (kn_neq 1 0 true (decide_eq_true (h0))) base) 22 true ⟨⟨[]⟩⟩ false (by kernel_rfl) w).mono ?_
    rintro e w' ⟨rfl, hb⟩
    exact ⟨ret_rp_false (by unfold RP lD lS lI lZ lG lC lT; omega), hb⟩
  · by_cases h1 : imm ≠ 0
    · refine (rr_of _ (kn_cons (kn_neq 2 0 true (decide_eq_true (h1))) (kn_cons (kn_neq 1 0 false (decide_eq_false (h0))) base)) 22 true ⟨⟨[]⟩⟩ false (by kernel_rfl) w).mono ?_
      rintro e w' ⟨rfl, hb⟩
      exact ⟨ret_rp_false (by unfold RP lD lS lI lZ lG lC lT; omega), hb⟩
    · by_cases h2 : size ≠ 0
      · refine (rr_of _ (kn_cons (kn_neq 3 0 true (decide_eq_true (h2))) (kn_cons (kn_neq 2 0 false (decide_eq_false (h1))) (kn_cons (kn_neq 1 0 false (decide_eq_false (h0))) base))) 22 true ⟨⟨[]⟩⟩ false (by kernel_rfl) w).mono ?_
        rintro e w' ⟨rfl, hb⟩
        exact ⟨ret_rp_false (by unfold RP lD lS lI lZ lG lC lT; omega), hb⟩
      · refine (rr_of _ (kn_cons (kn_neq 3 0 false (decide_eq_false (h2))) (kn_cons (kn_neq 2 0 false (decide_eq_false (h1))) (kn_cons (kn_neq 1 0 false (decide_eq_false (h0))) base))) 22 true ⟨⟨[]⟩⟩ false (by kernel_rfl) w).mono ?_
        rintro e w' ⟨rfl, hb⟩
        exact ⟨ret_rp_false (by unfold RP lD lS lI lZ lG lC lT; omega), hb⟩
theorem rr_33_00 (dst src imm size cond : Int) (b : UInt8) (bs : List UInt8) (w : World) (d1 : 0 ≤ dst) (d2 : dst ≤ 15) (s1 : 0 ≤ src) (s2 : src ≤ 15) (i1 : -2147483648 ≤ imm) (i2 : imm ≤ 2147483647) :
    Calls Try.prog 14 #[.agg #[.int .i64 33, .int .i64 dst, .int .i64 src, .int .i64 imm, .int .i64 size, .bool false, .int .i64 cond, .string ⟨⟨b :: bs⟩⟩]] w fun en w' => RightIs (RP 33 dst src imm size 0 cond 0) en ∧ Below w.heap.size w w' := by
  have base := (kn_cons (kn_lss 0 0 false (decide_eq_false (show ¬ (dst < 0) by omega))) (kn_cons (kn_gtr 0 15 false (decide_eq_false (show ¬ (dst > 15) by omega))) (kn_cons (kn_lss 1 0 false (decide_eq_false (show ¬ (src < 0) by omega))) (kn_cons (kn_gtr 1 15 false (decide_eq_false (show ¬ (src > 15) by omega))) (kn_cons (kn_lss 2 (-2147483648) false (decide_eq_false (show ¬ (imm < (-2147483648)) by omega))) (kn_cons (kn_gtr 2 2147483647 false (decide_eq_false (show ¬ (imm > 2147483647) by omega))) (kn_nil (m5 dst src imm size cond))))))))
  by_cases h0 : dst ≠ 0
  · refine (rr_of _ (kn_cons (kn_neq 0 0 true (decide_eq_true (h0))) base) 33 false ⟨⟨b :: bs⟩⟩ false (by kernel_rfl) w).mono ?_
    rintro e w' ⟨rfl, hb⟩
    exact ⟨ret_rp_false (by unfold RP lD lS lI lZ lG lC lT; omega), hb⟩
  · by_cases h1 : src ≠ 0
    · refine (rr_of _ (kn_cons (kn_neq 1 0 true (decide_eq_true (h1))) (kn_cons (kn_neq 0 0 false (decide_eq_false (h0))) base)) 33 false ⟨⟨b :: bs⟩⟩ false (by kernel_rfl) w).mono ?_
      rintro e w' ⟨rfl, hb⟩
      exact ⟨ret_rp_false (by unfold RP lD lS lI lZ lG lC lT; omega), hb⟩
    · by_cases h2 : imm ≠ 0
      · refine (rr_of _ (kn_cons (kn_neq 2 0 true (decide_eq_true (h2))) (kn_cons (kn_neq 1 0 false (decide_eq_false (h1))) (kn_cons (kn_neq 0 0 false (decide_eq_false (h0))) base))) 33 false ⟨⟨b :: bs⟩⟩ false (by kernel_rfl) w).mono ?_
        rintro e w' ⟨rfl, hb⟩
        exact ⟨ret_rp_false (by unfold RP lD lS lI lZ lG lC lT; omega), hb⟩
      · by_cases h3 : size ≠ 0
        · refine (rr_of _ (kn_cons (kn_neq 3 0 true (decide_eq_true (h3))) (kn_cons (kn_neq 2 0 false (decide_eq_false (h2))) (kn_cons (kn_neq 1 0 false (decide_eq_false (h1))) (kn_cons (kn_neq 0 0 false (decide_eq_false (h0))) base)))) 33 false ⟨⟨b :: bs⟩⟩ false (by kernel_rfl) w).mono ?_
          rintro e w' ⟨rfl, hb⟩
          exact ⟨ret_rp_false (by unfold RP lD lS lI lZ lG lC lT; omega), hb⟩
        · by_cases h4 : cond ≠ 0
          · refine (rr_of _ (kn_cons (kn_neq 4 0 true (decide_eq_true (h4))) (kn_cons (kn_neq 3 0 false (decide_eq_false (h3))) (kn_cons (kn_neq 2 0 false (decide_eq_false (h2))) (kn_cons (kn_neq 1 0 false (decide_eq_false (h1))) (kn_cons (kn_neq 0 0 false (decide_eq_false (h0))) base))))) 33 false ⟨⟨b :: bs⟩⟩ false (by kernel_rfl) w).mono ?_
            rintro e w' ⟨rfl, hb⟩
            exact ⟨ret_rp_false (by unfold RP lD lS lI lZ lG lC lT; omega), hb⟩
          · refine (rr_of _ (kn_cons (kn_neq 4 0 false (decide_eq_false (h4))) (kn_cons (kn_neq 3 0 false (decide_eq_false (h3))) (kn_cons (kn_neq 2 0 false (decide_eq_false (h2))) (kn_cons (kn_neq 1 0 false (decide_eq_false (h1))) (kn_cons (kn_neq 0 0 false (decide_eq_false (h0))) base))))) 33 false ⟨⟨b :: bs⟩⟩ true (by kernel_rfl) w).mono ?_
            rintro e w' ⟨rfl, hb⟩
            exact ⟨ret_rp_true (by unfold RP lD lS lI lZ lG lC lT; omega), hb⟩
theorem rr_33_01 (dst src imm size cond : Int) (w : World) (d1 : 0 ≤ dst) (d2 : dst ≤ 15) (s1 : 0 ≤ src) (s2 : src ≤ 15) (i1 : -2147483648 ≤ imm) (i2 : imm ≤ 2147483647) :
    Calls Try.prog 14 #[.agg #[.int .i64 33, .int .i64 dst, .int .i64 src, .int .i64 imm, .int .i64 size, .bool false, .int .i64 cond, .string ⟨⟨[]⟩⟩]] w fun en w' => RightIs (RP 33 dst src imm size 0 cond 1) en ∧ Below w.heap.size w w' := by
  have base := (kn_cons (kn_lss 0 0 false (decide_eq_false (show ¬ (dst < 0) by omega))) (kn_cons (kn_gtr 0 15 false (decide_eq_false (show ¬ (dst > 15) by omega))) (kn_cons (kn_lss 1 0 false (decide_eq_false (show ¬ (src < 0) by omega))) (kn_cons (kn_gtr 1 15 false (decide_eq_false (show ¬ (src > 15) by omega))) (kn_cons (kn_lss 2 (-2147483648) false (decide_eq_false (show ¬ (imm < (-2147483648)) by omega))) (kn_cons (kn_gtr 2 2147483647 false (decide_eq_false (show ¬ (imm > 2147483647) by omega))) (kn_nil (m5 dst src imm size cond))))))))
  by_cases h0 : dst ≠ 0
  · refine (rr_of _ (kn_cons (kn_neq 0 0 true (decide_eq_true (h0))) base) 33 false ⟨⟨[]⟩⟩ false (by kernel_rfl) w).mono ?_
    rintro e w' ⟨rfl, hb⟩
    exact ⟨ret_rp_false (by unfold RP lD lS lI lZ lG lC lT; omega), hb⟩
  · by_cases h1 : src ≠ 0
    · refine (rr_of _ (kn_cons (kn_neq 1 0 true (decide_eq_true (h1))) (kn_cons (kn_neq 0 0 false (decide_eq_false (h0))) base)) 33 false ⟨⟨[]⟩⟩ false (by kernel_rfl) w).mono ?_
      rintro e w' ⟨rfl, hb⟩
      exact ⟨ret_rp_false (by unfold RP lD lS lI lZ lG lC lT; omega), hb⟩
    · by_cases h2 : imm ≠ 0
      · refine (rr_of _ (kn_cons (kn_neq 2 0 true (decide_eq_true (h2))) (kn_cons (kn_neq 1 0 false (decide_eq_false (h1))) (kn_cons (kn_neq 0 0 false (decide_eq_false (h0))) base))) 33 false ⟨⟨[]⟩⟩ false (by kernel_rfl) w).mono ?_
        rintro e w' ⟨rfl, hb⟩
        exact ⟨ret_rp_false (by unfold RP lD lS lI lZ lG lC lT; omega), hb⟩
      · by_cases h3 : size ≠ 0
        · refine (rr_of _ (kn_cons (kn_neq 3 0 true (decide_eq_true (h3))) (kn_cons (kn_neq 2 0 false (decide_eq_false (h2))) (kn_cons (kn_neq 1 0 false (decide_eq_false (h1))) (kn_cons (kn_neq 0 0 false (decide_eq_false (h0))) base)))) 33 false ⟨⟨[]⟩⟩ false (by kernel_rfl) w).mono ?_
          rintro e w' ⟨rfl, hb⟩
          exact ⟨ret_rp_false (by unfold RP lD lS lI lZ lG lC lT; omega), hb⟩
        · by_cases h4 : cond ≠ 0
          · refine (rr_of _ (kn_cons (kn_neq 4 0 true (decide_eq_true (h4))) (kn_cons (kn_neq 3 0 false (decide_eq_false (h3))) (kn_cons (kn_neq 2 0 false (decide_eq_false (h2))) (kn_cons (kn_neq 1 0 false (decide_eq_false (h1))) (kn_cons (kn_neq 0 0 false (decide_eq_false (h0))) base))))) 33 false ⟨⟨[]⟩⟩ false (by kernel_rfl) w).mono ?_
            rintro e w' ⟨rfl, hb⟩
            exact ⟨ret_rp_false (by unfold RP lD lS lI lZ lG lC lT; omega), hb⟩
          · refine (rr_of _ (kn_cons (kn_neq 4 0 false (decide_eq_false (h4))) (kn_cons (kn_neq 3 0 false (decide_eq_false (h3))) (kn_cons (kn_neq 2 0 false (decide_eq_false (h2))) (kn_cons (kn_neq 1 0 false (decide_eq_false (h1))) (kn_cons (kn_neq 0 0 false (decide_eq_false (h0))) base))))) 33 false ⟨⟨[]⟩⟩ true (by kernel_rfl) w).mono ?_
            rintro e w' ⟨rfl, hb⟩
            exact ⟨ret_rp_true (by unfold RP lD lS lI lZ lG lC lT; omega), hb⟩
theorem rr_33_10 (dst src imm size cond : Int) (b : UInt8) (bs : List UInt8) (w : World) (d1 : 0 ≤ dst) (d2 : dst ≤ 15) (s1 : 0 ≤ src) (s2 : src ≤ 15) (i1 : -2147483648 ≤ imm) (i2 : imm ≤ 2147483647) :
    Calls Try.prog 14 #[.agg #[.int .i64 33, .int .i64 dst, .int .i64 src, .int .i64 imm, .int .i64 size, .bool true, .int .i64 cond, .string ⟨⟨b :: bs⟩⟩]] w fun en w' => RightIs (RP 33 dst src imm size 1 cond 0) en ∧ Below w.heap.size w w' := by
  have base := (kn_cons (kn_lss 0 0 false (decide_eq_false (show ¬ (dst < 0) by omega))) (kn_cons (kn_gtr 0 15 false (decide_eq_false (show ¬ (dst > 15) by omega))) (kn_cons (kn_lss 1 0 false (decide_eq_false (show ¬ (src < 0) by omega))) (kn_cons (kn_gtr 1 15 false (decide_eq_false (show ¬ (src > 15) by omega))) (kn_cons (kn_lss 2 (-2147483648) false (decide_eq_false (show ¬ (imm < (-2147483648)) by omega))) (kn_cons (kn_gtr 2 2147483647 false (decide_eq_false (show ¬ (imm > 2147483647) by omega))) (kn_nil (m5 dst src imm size cond))))))))
  by_cases h0 : dst ≠ 0
  · refine (rr_of _ (kn_cons (kn_neq 0 0 true (decide_eq_true (h0))) base) 33 true ⟨⟨b :: bs⟩⟩ false (by kernel_rfl) w).mono ?_
    rintro e w' ⟨rfl, hb⟩
    exact ⟨ret_rp_false (by unfold RP lD lS lI lZ lG lC lT; omega), hb⟩
  · by_cases h1 : src ≠ 0
    · refine (rr_of _ (kn_cons (kn_neq 1 0 true (decide_eq_true (h1))) (kn_cons (kn_neq 0 0 false (decide_eq_false (h0))) base)) 33 true ⟨⟨b :: bs⟩⟩ false (by kernel_rfl) w).mono ?_
      rintro e w' ⟨rfl, hb⟩
      exact ⟨ret_rp_false (by unfold RP lD lS lI lZ lG lC lT; omega), hb⟩
    · by_cases h2 : imm ≠ 0
      · refine (rr_of _ (kn_cons (kn_neq 2 0 true (decide_eq_true (h2))) (kn_cons (kn_neq 1 0 false (decide_eq_false (h1))) (kn_cons (kn_neq 0 0 false (decide_eq_false (h0))) base))) 33 true ⟨⟨b :: bs⟩⟩ false (by kernel_rfl) w).mono ?_
        rintro e w' ⟨rfl, hb⟩
        exact ⟨ret_rp_false (by unfold RP lD lS lI lZ lG lC lT; omega), hb⟩
      · by_cases h3 : size ≠ 0
        · refine (rr_of _ (kn_cons (kn_neq 3 0 true (decide_eq_true (h3))) (kn_cons (kn_neq 2 0 false (decide_eq_false (h2))) (kn_cons (kn_neq 1 0 false (decide_eq_false (h1))) (kn_cons (kn_neq 0 0 false (decide_eq_false (h0))) base)))) 33 true ⟨⟨b :: bs⟩⟩ false (by kernel_rfl) w).mono ?_
          rintro e w' ⟨rfl, hb⟩
          exact ⟨ret_rp_false (by unfold RP lD lS lI lZ lG lC lT; omega), hb⟩
        · refine (rr_of _ (kn_cons (kn_neq 3 0 false (decide_eq_false (h3))) (kn_cons (kn_neq 2 0 false (decide_eq_false (h2))) (kn_cons (kn_neq 1 0 false (decide_eq_false (h1))) (kn_cons (kn_neq 0 0 false (decide_eq_false (h0))) base)))) 33 true ⟨⟨b :: bs⟩⟩ false (by kernel_rfl) w).mono ?_
          rintro e w' ⟨rfl, hb⟩
          exact ⟨ret_rp_false (by unfold RP lD lS lI lZ lG lC lT; omega), hb⟩
theorem rr_33_11 (dst src imm size cond : Int) (w : World) (d1 : 0 ≤ dst) (d2 : dst ≤ 15) (s1 : 0 ≤ src) (s2 : src ≤ 15) (i1 : -2147483648 ≤ imm) (i2 : imm ≤ 2147483647) :
    Calls Try.prog 14 #[.agg #[.int .i64 33, .int .i64 dst, .int .i64 src, .int .i64 imm, .int .i64 size, .bool true, .int .i64 cond, .string ⟨⟨[]⟩⟩]] w fun en w' => RightIs (RP 33 dst src imm size 1 cond 1) en ∧ Below w.heap.size w w' := by
  have base := (kn_cons (kn_lss 0 0 false (decide_eq_false (show ¬ (dst < 0) by omega))) (kn_cons (kn_gtr 0 15 false (decide_eq_false (show ¬ (dst > 15) by omega))) (kn_cons (kn_lss 1 0 false (decide_eq_false (show ¬ (src < 0) by omega))) (kn_cons (kn_gtr 1 15 false (decide_eq_false (show ¬ (src > 15) by omega))) (kn_cons (kn_lss 2 (-2147483648) false (decide_eq_false (show ¬ (imm < (-2147483648)) by omega))) (kn_cons (kn_gtr 2 2147483647 false (decide_eq_false (show ¬ (imm > 2147483647) by omega))) (kn_nil (m5 dst src imm size cond))))))))
  by_cases h0 : dst ≠ 0
  · refine (rr_of _ (kn_cons (kn_neq 0 0 true (decide_eq_true (h0))) base) 33 true ⟨⟨[]⟩⟩ false (by kernel_rfl) w).mono ?_
    rintro e w' ⟨rfl, hb⟩
    exact ⟨ret_rp_false (by unfold RP lD lS lI lZ lG lC lT; omega), hb⟩
  · by_cases h1 : src ≠ 0
    · refine (rr_of _ (kn_cons (kn_neq 1 0 true (decide_eq_true (h1))) (kn_cons (kn_neq 0 0 false (decide_eq_false (h0))) base)) 33 true ⟨⟨[]⟩⟩ false (by kernel_rfl) w).mono ?_
      rintro e w' ⟨rfl, hb⟩
      exact ⟨ret_rp_false (by unfold RP lD lS lI lZ lG lC lT; omega), hb⟩
    · by_cases h2 : imm ≠ 0
      · refine (rr_of _ (kn_cons (kn_neq 2 0 true (decide_eq_true (h2))) (kn_cons (kn_neq 1 0 false (decide_eq_false (h1))) (kn_cons (kn_neq 0 0 false (decide_eq_false (h0))) base))) 33 true ⟨⟨[]⟩⟩ false (by kernel_rfl) w).mono ?_
        rintro e w' ⟨rfl, hb⟩
        exact ⟨ret_rp_false (by unfold RP lD lS lI lZ lG lC lT; omega), hb⟩
      · by_cases h3 : size ≠ 0
        · refine (rr_of _ (kn_cons (kn_neq 3 0 true (decide_eq_true (h3))) (kn_cons (kn_neq 2 0 false (decide_eq_false (h2))) (kn_cons (kn_neq 1 0 false (decide_eq_false (h1))) (kn_cons (kn_neq 0 0 false (decide_eq_false (h0))) base)))) 33 true ⟨⟨[]⟩⟩ false (by kernel_rfl) w).mono ?_
          rintro e w' ⟨rfl, hb⟩
          exact ⟨ret_rp_false (by unfold RP lD lS lI lZ lG lC lT; omega), hb⟩
        · refine (rr_of _ (kn_cons (kn_neq 3 0 false (decide_eq_false (h3))) (kn_cons (kn_neq 2 0 false (decide_eq_false (h2))) (kn_cons (kn_neq 1 0 false (decide_eq_false (h1))) (kn_cons (kn_neq 0 0 false (decide_eq_false (h0))) base)))) 33 true ⟨⟨[]⟩⟩ false (by kernel_rfl) w).mono ?_
          rintro e w' ⟨rfl, hb⟩
          exact ⟨ret_rp_false (by unfold RP lD lS lI lZ lG lC lT; omega), hb⟩
end Go.Proofs.Yteeodbjpmofhhaa
