/- The document's Right, run: operations 3, 9, 17, 22, 33. The document's Right, run: operations 11, 19, 23, 24, 35. No condition. -/
import Derived.Test.YtpkbkmppkgeklaaDoorRr
namespace Go.Proofs.YtpkbkmppkgeklaaDoor
open Go.RowKit
set_option linter.unusedVariables false
theorem rr_3_00 (dst src imm size cond : Int) (b : UInt8) (bs : List UInt8) (w : World) (d1 : 0 ≤ dst) (d2 : dst ≤ 15) (s1 : 0 ≤ src) (s2 : src ≤ 15) (i1 : -2147483648 ≤ imm) (i2 : imm ≤ 2147483647) :
    Calls Tryd.prog 11 #[.agg #[.int .i64 3, .int .i64 dst, .int .i64 src, .int .i64 imm, .int .i64 size, .bool false, .int .i64 cond, .string ⟨⟨b :: bs⟩⟩]] w fun en w' => RightIs (RP 3 dst src imm size 0 cond 0) en ∧ Below w.heap.size w w' := by
  have base := rbase dst src imm size cond d1 d2 s1 s2 i1 i2
  by_cases h0 : cond ≠ 0
  · exact fin_false (rr_of _ (nT 4 0 h0 base) 3 false ⟨⟨b :: bs⟩⟩ false (by kernel_rfl) w) (by unfold RP lD lS lI lZ lG lC lT; omega)
  · exact fin_false (rr_of _ (nF 4 0 h0 base) 3 false ⟨⟨b :: bs⟩⟩ false (by kernel_rfl) w) (by unfold RP lD lS lI lZ lG lC lT; omega)
theorem rr_3_01 (dst src imm size cond : Int) (w : World) (d1 : 0 ≤ dst) (d2 : dst ≤ 15) (s1 : 0 ≤ src) (s2 : src ≤ 15) (i1 : -2147483648 ≤ imm) (i2 : imm ≤ 2147483647) :
    Calls Tryd.prog 11 #[.agg #[.int .i64 3, .int .i64 dst, .int .i64 src, .int .i64 imm, .int .i64 size, .bool false, .int .i64 cond, .string ⟨⟨[]⟩⟩]] w fun en w' => RightIs (RP 3 dst src imm size 0 cond 1) en ∧ Below w.heap.size w w' := by
  have base := rbase dst src imm size cond d1 d2 s1 s2 i1 i2
  by_cases h0 : cond ≠ 0
  · exact fin_false (rr_of _ (nT 4 0 h0 base) 3 false ⟨⟨[]⟩⟩ false (by kernel_rfl) w) (by unfold RP lD lS lI lZ lG lC lT; omega)
  · by_cases h1 : size ≠ 1
    · by_cases h2 : size ≠ 2
      · by_cases h3 : size ≠ 4
        · by_cases h4 : size ≠ 8
          · exact fin_false (rr_of _ (nT 3 8 h4 (nT 3 4 h3 (nT 3 2 h2 (nT 3 1 h1 (nF 4 0 h0 base))))) 3 false ⟨⟨[]⟩⟩ false (by kernel_rfl) w) (by unfold RP lD lS lI lZ lG lC lT; omega)
          · exact fin_true (rr_of _ (nF 3 8 h4 (nT 3 4 h3 (nT 3 2 h2 (nT 3 1 h1 (nF 4 0 h0 base))))) 3 false ⟨⟨[]⟩⟩ true (by kernel_rfl) w) (by unfold RP lD lS lI lZ lG lC lT; omega)
        · exact fin_true (rr_of _ (nF 3 4 h3 (nT 3 2 h2 (nT 3 1 h1 (nF 4 0 h0 base)))) 3 false ⟨⟨[]⟩⟩ true (by kernel_rfl) w) (by unfold RP lD lS lI lZ lG lC lT; omega)
      · exact fin_true (rr_of _ (nF 3 2 h2 (nT 3 1 h1 (nF 4 0 h0 base))) 3 false ⟨⟨[]⟩⟩ true (by kernel_rfl) w) (by unfold RP lD lS lI lZ lG lC lT; omega)
    · exact fin_true (rr_of _ (nF 3 1 h1 (nF 4 0 h0 base)) 3 false ⟨⟨[]⟩⟩ true (by kernel_rfl) w) (by unfold RP lD lS lI lZ lG lC lT; omega)
theorem rr_3_10 (dst src imm size cond : Int) (b : UInt8) (bs : List UInt8) (w : World) (d1 : 0 ≤ dst) (d2 : dst ≤ 15) (s1 : 0 ≤ src) (s2 : src ≤ 15) (i1 : -2147483648 ≤ imm) (i2 : imm ≤ 2147483647) :
    Calls Tryd.prog 11 #[.agg #[.int .i64 3, .int .i64 dst, .int .i64 src, .int .i64 imm, .int .i64 size, .bool true, .int .i64 cond, .string ⟨⟨b :: bs⟩⟩]] w fun en w' => RightIs (RP 3 dst src imm size 1 cond 0) en ∧ Below w.heap.size w w' := by
  have base := rbase dst src imm size cond d1 d2 s1 s2 i1 i2
  by_cases h0 : cond ≠ 0
  · exact fin_false (rr_of _ (nT 4 0 h0 base) 3 true ⟨⟨b :: bs⟩⟩ false (by kernel_rfl) w) (by unfold RP lD lS lI lZ lG lC lT; omega)
  · exact fin_false (rr_of _ (nF 4 0 h0 base) 3 true ⟨⟨b :: bs⟩⟩ false (by kernel_rfl) w) (by unfold RP lD lS lI lZ lG lC lT; omega)
theorem rr_3_11 (dst src imm size cond : Int) (w : World) (d1 : 0 ≤ dst) (d2 : dst ≤ 15) (s1 : 0 ≤ src) (s2 : src ≤ 15) (i1 : -2147483648 ≤ imm) (i2 : imm ≤ 2147483647) :
    Calls Tryd.prog 11 #[.agg #[.int .i64 3, .int .i64 dst, .int .i64 src, .int .i64 imm, .int .i64 size, .bool true, .int .i64 cond, .string ⟨⟨[]⟩⟩]] w fun en w' => RightIs (RP 3 dst src imm size 1 cond 1) en ∧ Below w.heap.size w w' := by
  have base := rbase dst src imm size cond d1 d2 s1 s2 i1 i2
  by_cases h0 : cond ≠ 0
  · exact fin_false (rr_of _ (nT 4 0 h0 base) 3 true ⟨⟨[]⟩⟩ false (by kernel_rfl) w) (by unfold RP lD lS lI lZ lG lC lT; omega)
  · by_cases h1 : size ≠ 1
    · by_cases h2 : size ≠ 2
      · by_cases h3 : size ≠ 4
        · by_cases h4 : size ≠ 8
          · exact fin_false (rr_of _ (nT 3 8 h4 (nT 3 4 h3 (nT 3 2 h2 (nT 3 1 h1 (nF 4 0 h0 base))))) 3 true ⟨⟨[]⟩⟩ false (by kernel_rfl) w) (by unfold RP lD lS lI lZ lG lC lT; omega)
          · exact fin_false (rr_of _ (kn_cons (kn_eql 3 8 true (decide_eq_true (show (size = 8) by omega))) (nF 3 8 h4 (nT 3 4 h3 (nT 3 2 h2 (nT 3 1 h1 (nF 4 0 h0 base)))))) 3 true ⟨⟨[]⟩⟩ false (by kernel_rfl) w) (by unfold RP lD lS lI lZ lG lC lT; omega)
        · exact fin_true (rr_of _ (kn_cons (kn_eql 3 8 false (decide_eq_false (show ¬ (size = 8) by omega))) (nF 3 4 h3 (nT 3 2 h2 (nT 3 1 h1 (nF 4 0 h0 base))))) 3 true ⟨⟨[]⟩⟩ true (by kernel_rfl) w) (by unfold RP lD lS lI lZ lG lC lT; omega)
      · exact fin_true (rr_of _ (kn_cons (kn_eql 3 8 false (decide_eq_false (show ¬ (size = 8) by omega))) (nF 3 2 h2 (nT 3 1 h1 (nF 4 0 h0 base)))) 3 true ⟨⟨[]⟩⟩ true (by kernel_rfl) w) (by unfold RP lD lS lI lZ lG lC lT; omega)
    · exact fin_true (rr_of _ (kn_cons (kn_eql 3 8 false (decide_eq_false (show ¬ (size = 8) by omega))) (nF 3 1 h1 (nF 4 0 h0 base))) 3 true ⟨⟨[]⟩⟩ true (by kernel_rfl) w) (by unfold RP lD lS lI lZ lG lC lT; omega)
theorem rr_9_00 (dst src imm size cond : Int) (b : UInt8) (bs : List UInt8) (w : World) (d1 : 0 ≤ dst) (d2 : dst ≤ 15) (s1 : 0 ≤ src) (s2 : src ≤ 15) (i1 : -2147483648 ≤ imm) (i2 : imm ≤ 2147483647) :
    Calls Tryd.prog 11 #[.agg #[.int .i64 9, .int .i64 dst, .int .i64 src, .int .i64 imm, .int .i64 size, .bool false, .int .i64 cond, .string ⟨⟨b :: bs⟩⟩]] w fun en w' => RightIs (RP 9 dst src imm size 0 cond 0) en ∧ Below w.heap.size w w' := by
  have base := rbase dst src imm size cond d1 d2 s1 s2 i1 i2
  by_cases h0 : imm ≠ 0
  · exact fin_false (rr_of _ (nT 2 0 h0 base) 9 false ⟨⟨b :: bs⟩⟩ false (by kernel_rfl) w) (by unfold RP lD lS lI lZ lG lC lT; omega)
  · by_cases h1 : size ≠ 0
    · exact fin_false (rr_of _ (nT 3 0 h1 (nF 2 0 h0 base)) 9 false ⟨⟨b :: bs⟩⟩ false (by kernel_rfl) w) (by unfold RP lD lS lI lZ lG lC lT; omega)
    · by_cases h2 : cond ≠ 0
      · exact fin_false (rr_of _ (nT 4 0 h2 (nF 3 0 h1 (nF 2 0 h0 base))) 9 false ⟨⟨b :: bs⟩⟩ false (by kernel_rfl) w) (by unfold RP lD lS lI lZ lG lC lT; omega)
      · exact fin_false (rr_of _ (nF 4 0 h2 (nF 3 0 h1 (nF 2 0 h0 base))) 9 false ⟨⟨b :: bs⟩⟩ false (by kernel_rfl) w) (by unfold RP lD lS lI lZ lG lC lT; omega)
theorem rr_9_01 (dst src imm size cond : Int) (w : World) (d1 : 0 ≤ dst) (d2 : dst ≤ 15) (s1 : 0 ≤ src) (s2 : src ≤ 15) (i1 : -2147483648 ≤ imm) (i2 : imm ≤ 2147483647) :
    Calls Tryd.prog 11 #[.agg #[.int .i64 9, .int .i64 dst, .int .i64 src, .int .i64 imm, .int .i64 size, .bool false, .int .i64 cond, .string ⟨⟨[]⟩⟩]] w fun en w' => RightIs (RP 9 dst src imm size 0 cond 1) en ∧ Below w.heap.size w w' := by
  have base := rbase dst src imm size cond d1 d2 s1 s2 i1 i2
  by_cases h0 : imm ≠ 0
  · exact fin_false (rr_of _ (nT 2 0 h0 base) 9 false ⟨⟨[]⟩⟩ false (by kernel_rfl) w) (by unfold RP lD lS lI lZ lG lC lT; omega)
  · by_cases h1 : size ≠ 0
    · exact fin_false (rr_of _ (nT 3 0 h1 (nF 2 0 h0 base)) 9 false ⟨⟨[]⟩⟩ false (by kernel_rfl) w) (by unfold RP lD lS lI lZ lG lC lT; omega)
    · by_cases h2 : cond ≠ 0
      · exact fin_false (rr_of _ (nT 4 0 h2 (nF 3 0 h1 (nF 2 0 h0 base))) 9 false ⟨⟨[]⟩⟩ false (by kernel_rfl) w) (by unfold RP lD lS lI lZ lG lC lT; omega)
      · exact fin_true (rr_of _ (nF 4 0 h2 (nF 3 0 h1 (nF 2 0 h0 base))) 9 false ⟨⟨[]⟩⟩ true (by kernel_rfl) w) (by unfold RP lD lS lI lZ lG lC lT; omega)
theorem rr_9_10 (dst src imm size cond : Int) (b : UInt8) (bs : List UInt8) (w : World) (d1 : 0 ≤ dst) (d2 : dst ≤ 15) (s1 : 0 ≤ src) (s2 : src ≤ 15) (i1 : -2147483648 ≤ imm) (i2 : imm ≤ 2147483647) :
    Calls Tryd.prog 11 #[.agg #[.int .i64 9, .int .i64 dst, .int .i64 src, .int .i64 imm, .int .i64 size, .bool true, .int .i64 cond, .string ⟨⟨b :: bs⟩⟩]] w fun en w' => RightIs (RP 9 dst src imm size 1 cond 0) en ∧ Below w.heap.size w w' := by
  have base := rbase dst src imm size cond d1 d2 s1 s2 i1 i2
  by_cases h0 : imm ≠ 0
  · exact fin_false (rr_of _ (nT 2 0 h0 base) 9 true ⟨⟨b :: bs⟩⟩ false (by kernel_rfl) w) (by unfold RP lD lS lI lZ lG lC lT; omega)
  · by_cases h1 : size ≠ 0
    · exact fin_false (rr_of _ (nT 3 0 h1 (nF 2 0 h0 base)) 9 true ⟨⟨b :: bs⟩⟩ false (by kernel_rfl) w) (by unfold RP lD lS lI lZ lG lC lT; omega)
    · exact fin_false (rr_of _ (nF 3 0 h1 (nF 2 0 h0 base)) 9 true ⟨⟨b :: bs⟩⟩ false (by kernel_rfl) w) (by unfold RP lD lS lI lZ lG lC lT; omega)
theorem rr_9_11 (dst src imm size cond : Int) (w : World) (d1 : 0 ≤ dst) (d2 : dst ≤ 15) (s1 : 0 ≤ src) (s2 : src ≤ 15) (i1 : -2147483648 ≤ imm) (i2 : imm ≤ 2147483647) :
    Calls Tryd.prog 11 #[.agg #[.int .i64 9, .int .i64 dst, .int .i64 src, .int .i64 imm, .int .i64 size, .bool true, .int .i64 cond, .string ⟨⟨[]⟩⟩]] w fun en w' => RightIs (RP 9 dst src imm size 1 cond 1) en ∧ Below w.heap.size w w' := by
  have base := rbase dst src imm size cond d1 d2 s1 s2 i1 i2
  by_cases h0 : imm ≠ 0
  · exact fin_false (rr_of _ (nT 2 0 h0 base) 9 true ⟨⟨[]⟩⟩ false (by kernel_rfl) w) (by unfold RP lD lS lI lZ lG lC lT; omega)
  · by_cases h1 : size ≠ 0
    · exact fin_false (rr_of _ (nT 3 0 h1 (nF 2 0 h0 base)) 9 true ⟨⟨[]⟩⟩ false (by kernel_rfl) w) (by unfold RP lD lS lI lZ lG lC lT; omega)
    · exact fin_false (rr_of _ (nF 3 0 h1 (nF 2 0 h0 base)) 9 true ⟨⟨[]⟩⟩ false (by kernel_rfl) w) (by unfold RP lD lS lI lZ lG lC lT; omega)
theorem rr_17_00 (dst src imm size cond : Int) (b : UInt8) (bs : List UInt8) (w : World) (d1 : 0 ≤ dst) (d2 : dst ≤ 15) (s1 : 0 ≤ src) (s2 : src ≤ 15) (i1 : -2147483648 ≤ imm) (i2 : imm ≤ 2147483647) :
    Calls Tryd.prog 11 #[.agg #[.int .i64 17, .int .i64 dst, .int .i64 src, .int .i64 imm, .int .i64 size, .bool false, .int .i64 cond, .string ⟨⟨b :: bs⟩⟩]] w fun en w' => RightIs (RP 17 dst src imm size 0 cond 0) en ∧ Below w.heap.size w w' := by
  have base := rbase dst src imm size cond d1 d2 s1 s2 i1 i2
  by_cases h0 : src ≠ 0
  · exact fin_false (rr_of _ (nT 1 0 h0 base) 17 false ⟨⟨b :: bs⟩⟩ false (by kernel_rfl) w) (by unfold RP lD lS lI lZ lG lC lT; omega)
  · by_cases h1 : size ≠ 0
    · exact fin_false (rr_of _ (nT 3 0 h1 (nF 1 0 h0 base)) 17 false ⟨⟨b :: bs⟩⟩ false (by kernel_rfl) w) (by unfold RP lD lS lI lZ lG lC lT; omega)
    · by_cases h2 : cond ≠ 0
      · exact fin_false (rr_of _ (nT 4 0 h2 (nF 3 0 h1 (nF 1 0 h0 base))) 17 false ⟨⟨b :: bs⟩⟩ false (by kernel_rfl) w) (by unfold RP lD lS lI lZ lG lC lT; omega)
      · exact fin_false (rr_of _ (nF 4 0 h2 (nF 3 0 h1 (nF 1 0 h0 base))) 17 false ⟨⟨b :: bs⟩⟩ false (by kernel_rfl) w) (by unfold RP lD lS lI lZ lG lC lT; omega)
theorem rr_17_01 (dst src imm size cond : Int) (w : World) (d1 : 0 ≤ dst) (d2 : dst ≤ 15) (s1 : 0 ≤ src) (s2 : src ≤ 15) (i1 : -2147483648 ≤ imm) (i2 : imm ≤ 2147483647) :
    Calls Tryd.prog 11 #[.agg #[.int .i64 17, .int .i64 dst, .int .i64 src, .int .i64 imm, .int .i64 size, .bool false, .int .i64 cond, .string ⟨⟨[]⟩⟩]] w fun en w' => RightIs (RP 17 dst src imm size 0 cond 1) en ∧ Below w.heap.size w w' := by
  have base := rbase dst src imm size cond d1 d2 s1 s2 i1 i2
  by_cases h0 : src ≠ 0
  · exact fin_false (rr_of _ (nT 1 0 h0 base) 17 false ⟨⟨[]⟩⟩ false (by kernel_rfl) w) (by unfold RP lD lS lI lZ lG lC lT; omega)
  · by_cases h1 : size ≠ 0
    · exact fin_false (rr_of _ (nT 3 0 h1 (nF 1 0 h0 base)) 17 false ⟨⟨[]⟩⟩ false (by kernel_rfl) w) (by unfold RP lD lS lI lZ lG lC lT; omega)
    · by_cases h2 : cond ≠ 0
      · exact fin_false (rr_of _ (nT 4 0 h2 (nF 3 0 h1 (nF 1 0 h0 base))) 17 false ⟨⟨[]⟩⟩ false (by kernel_rfl) w) (by unfold RP lD lS lI lZ lG lC lT; omega)
      · exact fin_true (rr_of _ (nF 4 0 h2 (nF 3 0 h1 (nF 1 0 h0 base))) 17 false ⟨⟨[]⟩⟩ true (by kernel_rfl) w) (by unfold RP lD lS lI lZ lG lC lT; omega)
theorem rr_17_10 (dst src imm size cond : Int) (b : UInt8) (bs : List UInt8) (w : World) (d1 : 0 ≤ dst) (d2 : dst ≤ 15) (s1 : 0 ≤ src) (s2 : src ≤ 15) (i1 : -2147483648 ≤ imm) (i2 : imm ≤ 2147483647) :
    Calls Tryd.prog 11 #[.agg #[.int .i64 17, .int .i64 dst, .int .i64 src, .int .i64 imm, .int .i64 size, .bool true, .int .i64 cond, .string ⟨⟨b :: bs⟩⟩]] w fun en w' => RightIs (RP 17 dst src imm size 1 cond 0) en ∧ Below w.heap.size w w' := by
  have base := rbase dst src imm size cond d1 d2 s1 s2 i1 i2
  by_cases h0 : src ≠ 0
  · exact fin_false (rr_of _ (nT 1 0 h0 base) 17 true ⟨⟨b :: bs⟩⟩ false (by kernel_rfl) w) (by unfold RP lD lS lI lZ lG lC lT; omega)
  · by_cases h1 : size ≠ 0
    · exact fin_false (rr_of _ (nT 3 0 h1 (nF 1 0 h0 base)) 17 true ⟨⟨b :: bs⟩⟩ false (by kernel_rfl) w) (by unfold RP lD lS lI lZ lG lC lT; omega)
    · exact fin_false (rr_of _ (nF 3 0 h1 (nF 1 0 h0 base)) 17 true ⟨⟨b :: bs⟩⟩ false (by kernel_rfl) w) (by unfold RP lD lS lI lZ lG lC lT; omega)
theorem rr_17_11 (dst src imm size cond : Int) (w : World) (d1 : 0 ≤ dst) (d2 : dst ≤ 15) (s1 : 0 ≤ src) (s2 : src ≤ 15) (i1 : -2147483648 ≤ imm) (i2 : imm ≤ 2147483647) :
    Calls Tryd.prog 11 #[.agg #[.int .i64 17, .int .i64 dst, .int .i64 src, .int .i64 imm, .int .i64 size, .bool true, .int .i64 cond, .string ⟨⟨[]⟩⟩]] w fun en w' => RightIs (RP 17 dst src imm size 1 cond 1) en ∧ Below w.heap.size w w' := by
  have base := rbase dst src imm size cond d1 d2 s1 s2 i1 i2
  by_cases h0 : src ≠ 0
  · exact fin_false (rr_of _ (nT 1 0 h0 base) 17 true ⟨⟨[]⟩⟩ false (by kernel_rfl) w) (by unfold RP lD lS lI lZ lG lC lT; omega)
  · by_cases h1 : size ≠ 0
    · exact fin_false (rr_of _ (nT 3 0 h1 (nF 1 0 h0 base)) 17 true ⟨⟨[]⟩⟩ false (by kernel_rfl) w) (by unfold RP lD lS lI lZ lG lC lT; omega)
    · exact fin_false (rr_of _ (nF 3 0 h1 (nF 1 0 h0 base)) 17 true ⟨⟨[]⟩⟩ false (by kernel_rfl) w) (by unfold RP lD lS lI lZ lG lC lT; omega)
theorem rr_22_00 (dst src imm size cond : Int) (b : UInt8) (bs : List UInt8) (w : World) (d1 : 0 ≤ dst) (d2 : dst ≤ 15) (s1 : 0 ≤ src) (s2 : src ≤ 15) (i1 : -2147483648 ≤ imm) (i2 : imm ≤ 2147483647) :
    Calls Tryd.prog 11 #[.agg #[.int .i64 22, .int .i64 dst, .int .i64 src, .int .i64 imm, .int .i64 size, .bool false, .int .i64 cond, .string ⟨⟨b :: bs⟩⟩]] w fun en w' => RightIs (RP 22 dst src imm size 0 cond 0) en ∧ Below w.heap.size w w' := by
  have base := rbase dst src imm size cond d1 d2 s1 s2 i1 i2
  by_cases h0 : src ≠ 0
  · exact fin_false (rr_of _ (nT 1 0 h0 base) 22 false ⟨⟨b :: bs⟩⟩ false (by kernel_rfl) w) (by unfold RP lD lS lI lZ lG lC lT; omega)
  · by_cases h1 : imm ≠ 0
    · exact fin_false (rr_of _ (nT 2 0 h1 (nF 1 0 h0 base)) 22 false ⟨⟨b :: bs⟩⟩ false (by kernel_rfl) w) (by unfold RP lD lS lI lZ lG lC lT; omega)
    · by_cases h2 : size ≠ 0
      · exact fin_false (rr_of _ (nT 3 0 h2 (nF 2 0 h1 (nF 1 0 h0 base))) 22 false ⟨⟨b :: bs⟩⟩ false (by kernel_rfl) w) (by unfold RP lD lS lI lZ lG lC lT; omega)
      · by_cases h3 : cond ≠ 0
        · exact fin_false (rr_of _ (nT 4 0 h3 (nF 3 0 h2 (nF 2 0 h1 (nF 1 0 h0 base)))) 22 false ⟨⟨b :: bs⟩⟩ false (by kernel_rfl) w) (by unfold RP lD lS lI lZ lG lC lT; omega)
        · exact fin_false (rr_of _ (nF 4 0 h3 (nF 3 0 h2 (nF 2 0 h1 (nF 1 0 h0 base)))) 22 false ⟨⟨b :: bs⟩⟩ false (by kernel_rfl) w) (by unfold RP lD lS lI lZ lG lC lT; omega)
theorem rr_22_01 (dst src imm size cond : Int) (w : World) (d1 : 0 ≤ dst) (d2 : dst ≤ 15) (s1 : 0 ≤ src) (s2 : src ≤ 15) (i1 : -2147483648 ≤ imm) (i2 : imm ≤ 2147483647) :
    Calls Tryd.prog 11 #[.agg #[.int .i64 22, .int .i64 dst, .int .i64 src, .int .i64 imm, .int .i64 size, .bool false, .int .i64 cond, .string ⟨⟨[]⟩⟩]] w fun en w' => RightIs (RP 22 dst src imm size 0 cond 1) en ∧ Below w.heap.size w w' := by
  have base := rbase dst src imm size cond d1 d2 s1 s2 i1 i2
  by_cases h0 : src ≠ 0
  · exact fin_false (rr_of _ (nT 1 0 h0 base) 22 false ⟨⟨[]⟩⟩ false (by kernel_rfl) w) (by unfold RP lD lS lI lZ lG lC lT; omega)
  · by_cases h1 : imm ≠ 0
    · exact fin_false (rr_of _ (nT 2 0 h1 (nF 1 0 h0 base)) 22 false ⟨⟨[]⟩⟩ false (by kernel_rfl) w) (by unfold RP lD lS lI lZ lG lC lT; omega)
    · by_cases h2 : size ≠ 0
      · exact fin_false (rr_of _ (nT 3 0 h2 (nF 2 0 h1 (nF 1 0 h0 base))) 22 false ⟨⟨[]⟩⟩ false (by kernel_rfl) w) (by unfold RP lD lS lI lZ lG lC lT; omega)
      · by_cases h3 : cond ≠ 0
        · exact fin_false (rr_of _ (nT 4 0 h3 (nF 3 0 h2 (nF 2 0 h1 (nF 1 0 h0 base)))) 22 false ⟨⟨[]⟩⟩ false (by kernel_rfl) w) (by unfold RP lD lS lI lZ lG lC lT; omega)
        · exact fin_true (rr_of _ (nF 4 0 h3 (nF 3 0 h2 (nF 2 0 h1 (nF 1 0 h0 base)))) 22 false ⟨⟨[]⟩⟩ true (by kernel_rfl) w) (by unfold RP lD lS lI lZ lG lC lT; omega)
theorem rr_22_10 (dst src imm size cond : Int) (b : UInt8) (bs : List UInt8) (w : World) (d1 : 0 ≤ dst) (d2 : dst ≤ 15) (s1 : 0 ≤ src) (s2 : src ≤ 15) (i1 : -2147483648 ≤ imm) (i2 : imm ≤ 2147483647) :
    Calls Tryd.prog 11 #[.agg #[.int .i64 22, .int .i64 dst, .int .i64 src, .int .i64 imm, .int .i64 size, .bool true, .int .i64 cond, .string ⟨⟨b :: bs⟩⟩]] w fun en w' => RightIs (RP 22 dst src imm size 1 cond 0) en ∧ Below w.heap.size w w' := by
  have base := rbase dst src imm size cond d1 d2 s1 s2 i1 i2
  by_cases h0 : src ≠ 0
  · exact fin_false (rr_of _ (nT 1 0 h0 base) 22 true ⟨⟨b :: bs⟩⟩ false (by kernel_rfl) w) (by unfold RP lD lS lI lZ lG lC lT; omega)
  · by_cases h1 : imm ≠ 0
    · exact fin_false (rr_of _ (nT 2 0 h1 (nF 1 0 h0 base)) 22 true ⟨⟨b :: bs⟩⟩ false (by kernel_rfl) w) (by unfold RP lD lS lI lZ lG lC lT; omega)
    · by_cases h2 : size ≠ 0
      · exact fin_false (rr_of _ (nT 3 0 h2 (nF 2 0 h1 (nF 1 0 h0 base))) 22 true ⟨⟨b :: bs⟩⟩ false (by kernel_rfl) w) (by unfold RP lD lS lI lZ lG lC lT; omega)
      · exact fin_false (rr_of _ (nF 3 0 h2 (nF 2 0 h1 (nF 1 0 h0 base))) 22 true ⟨⟨b :: bs⟩⟩ false (by kernel_rfl) w) (by unfold RP lD lS lI lZ lG lC lT; omega)
theorem rr_22_11 (dst src imm size cond : Int) (w : World) (d1 : 0 ≤ dst) (d2 : dst ≤ 15) (s1 : 0 ≤ src) (s2 : src ≤ 15) (i1 : -2147483648 ≤ imm) (i2 : imm ≤ 2147483647) :
    Calls Tryd.prog 11 #[.agg #[.int .i64 22, .int .i64 dst, .int .i64 src, .int .i64 imm, .int .i64 size, .bool true, .int .i64 cond, .string ⟨⟨[]⟩⟩]] w fun en w' => RightIs (RP 22 dst src imm size 1 cond 1) en ∧ Below w.heap.size w w' := by
  have base := rbase dst src imm size cond d1 d2 s1 s2 i1 i2
  by_cases h0 : src ≠ 0
  · exact fin_false (rr_of _ (nT 1 0 h0 base) 22 true ⟨⟨[]⟩⟩ false (by kernel_rfl) w) (by unfold RP lD lS lI lZ lG lC lT; omega)
  · by_cases h1 : imm ≠ 0
    · exact fin_false (rr_of _ (nT 2 0 h1 (nF 1 0 h0 base)) 22 true ⟨⟨[]⟩⟩ false (by kernel_rfl) w) (by unfold RP lD lS lI lZ lG lC lT; omega)
    · by_cases h2 : size ≠ 0
      · exact fin_false (rr_of _ (nT 3 0 h2 (nF 2 0 h1 (nF 1 0 h0 base))) 22 true ⟨⟨[]⟩⟩ false (by kernel_rfl) w) (by unfold RP lD lS lI lZ lG lC lT; omega)
      · exact fin_false (rr_of _ (nF 3 0 h2 (nF 2 0 h1 (nF 1 0 h0 base))) 22 true ⟨⟨[]⟩⟩ false (by kernel_rfl) w) (by unfold RP lD lS lI lZ lG lC lT; omega)
theorem rr_33_00 (dst src imm size cond : Int) (b : UInt8) (bs : List UInt8) (w : World) (d1 : 0 ≤ dst) (d2 : dst ≤ 15) (s1 : 0 ≤ src) (s2 : src ≤ 15) (i1 : -2147483648 ≤ imm) (i2 : imm ≤ 2147483647) :
    Calls Tryd.prog 11 #[.agg #[.int .i64 33, .int .i64 dst, .int .i64 src, .int .i64 imm, .int .i64 size, .bool false, .int .i64 cond, .string ⟨⟨b :: bs⟩⟩]] w fun en w' => RightIs (RP 33 dst src imm size 0 cond 0) en ∧ Below w.heap.size w w' := by
  have base := rbase dst src imm size cond d1 d2 s1 s2 i1 i2
  by_cases h0 : dst ≠ 0
  · exact fin_false (rr_of _ (nT 0 0 h0 base) 33 false ⟨⟨b :: bs⟩⟩ false (by kernel_rfl) w) (by unfold RP lD lS lI lZ lG lC lT; omega)
  · by_cases h1 : src ≠ 0
    · exact fin_false (rr_of _ (nT 1 0 h1 (nF 0 0 h0 base)) 33 false ⟨⟨b :: bs⟩⟩ false (by kernel_rfl) w) (by unfold RP lD lS lI lZ lG lC lT; omega)
    · by_cases h2 : imm ≠ 0
      · exact fin_false (rr_of _ (nT 2 0 h2 (nF 1 0 h1 (nF 0 0 h0 base))) 33 false ⟨⟨b :: bs⟩⟩ false (by kernel_rfl) w) (by unfold RP lD lS lI lZ lG lC lT; omega)
      · by_cases h3 : size ≠ 0
        · exact fin_false (rr_of _ (nT 3 0 h3 (nF 2 0 h2 (nF 1 0 h1 (nF 0 0 h0 base)))) 33 false ⟨⟨b :: bs⟩⟩ false (by kernel_rfl) w) (by unfold RP lD lS lI lZ lG lC lT; omega)
        · by_cases h4 : cond ≠ 0
          · exact fin_false (rr_of _ (nT 4 0 h4 (nF 3 0 h3 (nF 2 0 h2 (nF 1 0 h1 (nF 0 0 h0 base))))) 33 false ⟨⟨b :: bs⟩⟩ false (by kernel_rfl) w) (by unfold RP lD lS lI lZ lG lC lT; omega)
          · exact fin_true (rr_of _ (nF 4 0 h4 (nF 3 0 h3 (nF 2 0 h2 (nF 1 0 h1 (nF 0 0 h0 base))))) 33 false ⟨⟨b :: bs⟩⟩ true (by kernel_rfl) w) (by unfold RP lD lS lI lZ lG lC lT; omega)
theorem rr_33_01 (dst src imm size cond : Int) (w : World) (d1 : 0 ≤ dst) (d2 : dst ≤ 15) (s1 : 0 ≤ src) (s2 : src ≤ 15) (i1 : -2147483648 ≤ imm) (i2 : imm ≤ 2147483647) :
    Calls Tryd.prog 11 #[.agg #[.int .i64 33, .int .i64 dst, .int .i64 src, .int .i64 imm, .int .i64 size, .bool false, .int .i64 cond, .string ⟨⟨[]⟩⟩]] w fun en w' => RightIs (RP 33 dst src imm size 0 cond 1) en ∧ Below w.heap.size w w' := by
  have base := rbase dst src imm size cond d1 d2 s1 s2 i1 i2
  by_cases h0 : dst ≠ 0
  · exact fin_false (rr_of _ (nT 0 0 h0 base) 33 false ⟨⟨[]⟩⟩ false (by kernel_rfl) w) (by unfold RP lD lS lI lZ lG lC lT; omega)
  · by_cases h1 : src ≠ 0
    · exact fin_false (rr_of _ (nT 1 0 h1 (nF 0 0 h0 base)) 33 false ⟨⟨[]⟩⟩ false (by kernel_rfl) w) (by unfold RP lD lS lI lZ lG lC lT; omega)
    · by_cases h2 : imm ≠ 0
      · exact fin_false (rr_of _ (nT 2 0 h2 (nF 1 0 h1 (nF 0 0 h0 base))) 33 false ⟨⟨[]⟩⟩ false (by kernel_rfl) w) (by unfold RP lD lS lI lZ lG lC lT; omega)
      · by_cases h3 : size ≠ 0
        · exact fin_false (rr_of _ (nT 3 0 h3 (nF 2 0 h2 (nF 1 0 h1 (nF 0 0 h0 base)))) 33 false ⟨⟨[]⟩⟩ false (by kernel_rfl) w) (by unfold RP lD lS lI lZ lG lC lT; omega)
        · by_cases h4 : cond ≠ 0
          · exact fin_false (rr_of _ (nT 4 0 h4 (nF 3 0 h3 (nF 2 0 h2 (nF 1 0 h1 (nF 0 0 h0 base))))) 33 false ⟨⟨[]⟩⟩ false (by kernel_rfl) w) (by unfold RP lD lS lI lZ lG lC lT; omega)
          · exact fin_true (rr_of _ (nF 4 0 h4 (nF 3 0 h3 (nF 2 0 h2 (nF 1 0 h1 (nF 0 0 h0 base))))) 33 false ⟨⟨[]⟩⟩ true (by kernel_rfl) w) (by unfold RP lD lS lI lZ lG lC lT; omega)
theorem rr_33_10 (dst src imm size cond : Int) (b : UInt8) (bs : List UInt8) (w : World) (d1 : 0 ≤ dst) (d2 : dst ≤ 15) (s1 : 0 ≤ src) (s2 : src ≤ 15) (i1 : -2147483648 ≤ imm) (i2 : imm ≤ 2147483647) :
    Calls Tryd.prog 11 #[.agg #[.int .i64 33, .int .i64 dst, .int .i64 src, .int .i64 imm, .int .i64 size, .bool true, .int .i64 cond, .string ⟨⟨b :: bs⟩⟩]] w fun en w' => RightIs (RP 33 dst src imm size 1 cond 0) en ∧ Below w.heap.size w w' := by
  have base := rbase dst src imm size cond d1 d2 s1 s2 i1 i2
  by_cases h0 : dst ≠ 0
  · exact fin_false (rr_of _ (nT 0 0 h0 base) 33 true ⟨⟨b :: bs⟩⟩ false (by kernel_rfl) w) (by unfold RP lD lS lI lZ lG lC lT; omega)
  · by_cases h1 : src ≠ 0
    · exact fin_false (rr_of _ (nT 1 0 h1 (nF 0 0 h0 base)) 33 true ⟨⟨b :: bs⟩⟩ false (by kernel_rfl) w) (by unfold RP lD lS lI lZ lG lC lT; omega)
    · by_cases h2 : imm ≠ 0
      · exact fin_false (rr_of _ (nT 2 0 h2 (nF 1 0 h1 (nF 0 0 h0 base))) 33 true ⟨⟨b :: bs⟩⟩ false (by kernel_rfl) w) (by unfold RP lD lS lI lZ lG lC lT; omega)
      · by_cases h3 : size ≠ 0
        · exact fin_false (rr_of _ (nT 3 0 h3 (nF 2 0 h2 (nF 1 0 h1 (nF 0 0 h0 base)))) 33 true ⟨⟨b :: bs⟩⟩ false (by kernel_rfl) w) (by unfold RP lD lS lI lZ lG lC lT; omega)
        · exact fin_false (rr_of _ (nF 3 0 h3 (nF 2 0 h2 (nF 1 0 h1 (nF 0 0 h0 base)))) 33 true ⟨⟨b :: bs⟩⟩ false (by kernel_rfl) w) (by unfold RP lD lS lI lZ lG lC lT; omega)
theorem rr_33_11 (dst src imm size cond : Int) (w : World) (d1 : 0 ≤ dst) (d2 : dst ≤ 15) (s1 : 0 ≤ src) (s2 : src ≤ 15) (i1 : -2147483648 ≤ imm) (i2 : imm ≤ 2147483647) :
    Calls Tryd.prog 11 #[.agg #[.int .i64 33, .int .i64 dst, .int .i64 src, .int .i64 imm, .int .i64 size, .bool true, .int .i64 cond, .string ⟨⟨[]⟩⟩]] w fun en w' => RightIs (RP 33 dst src imm size 1 cond 1) en ∧ Below w.heap.size w w' := by
  have base := rbase dst src imm size cond d1 d2 s1 s2 i1 i2
  by_cases h0 : dst ≠ 0
  · exact fin_false (rr_of _ (nT 0 0 h0 base) 33 true ⟨⟨[]⟩⟩ false (by kernel_rfl) w) (by unfold RP lD lS lI lZ lG lC lT; omega)
  · by_cases h1 : src ≠ 0
    · exact fin_false (rr_of _ (nT 1 0 h1 (nF 0 0 h0 base)) 33 true ⟨⟨[]⟩⟩ false (by kernel_rfl) w) (by unfold RP lD lS lI lZ lG lC lT; omega)
    · by_cases h2 : imm ≠ 0
      · exact fin_false (rr_of _ (nT 2 0 h2 (nF 1 0 h1 (nF 0 0 h0 base))) 33 true ⟨⟨[]⟩⟩ false (by kernel_rfl) w) (by unfold RP lD lS lI lZ lG lC lT; omega)
      · by_cases h3 : size ≠ 0
        · exact fin_false (rr_of _ (nT 3 0 h3 (nF 2 0 h2 (nF 1 0 h1 (nF 0 0 h0 base)))) 33 true ⟨⟨[]⟩⟩ false (by kernel_rfl) w) (by unfold RP lD lS lI lZ lG lC lT; omega)
        · exact fin_false (rr_of _ (nF 3 0 h3 (nF 2 0 h2 (nF 1 0 h1 (nF 0 0 h0 base)))) 33 true ⟨⟨[]⟩⟩ false (by kernel_rfl) w) (by unfold RP lD lS lI lZ lG lC lT; omega)
end Go.Proofs.YtpkbkmppkgeklaaDoor
namespace Go.Proofs.YtpkbkmppkgeklaaDoor
open Go.RowKit
set_option linter.unusedVariables false
theorem rr_11_00 (dst src imm size cond : Int) (b : UInt8) (bs : List UInt8) (w : World) (d1 : 0 ≤ dst) (d2 : dst ≤ 15) (s1 : 0 ≤ src) (s2 : src ≤ 15) (i1 : -2147483648 ≤ imm) (i2 : imm ≤ 2147483647) :
    Calls Tryd.prog 11 #[.agg #[.int .i64 11, .int .i64 dst, .int .i64 src, .int .i64 imm, .int .i64 size, .bool false, .int .i64 cond, .string ⟨⟨b :: bs⟩⟩]] w fun en w' => RightIs (RP 11 dst src imm size 0 cond 0) en ∧ Below w.heap.size w w' := by
  have base := rbase dst src imm size cond d1 d2 s1 s2 i1 i2
  by_cases h0 : imm ≠ 0
  · exact fin_false (rr_of _ (nT 2 0 h0 base) 11 false ⟨⟨b :: bs⟩⟩ false (by kernel_rfl) w) (by unfold RP lD lS lI lZ lG lC lT; omega)
  · by_cases h1 : size ≠ 0
    · exact fin_false (rr_of _ (nT 3 0 h1 (nF 2 0 h0 base)) 11 false ⟨⟨b :: bs⟩⟩ false (by kernel_rfl) w) (by unfold RP lD lS lI lZ lG lC lT; omega)
    · by_cases h2 : cond ≠ 0
      · exact fin_false (rr_of _ (nT 4 0 h2 (nF 3 0 h1 (nF 2 0 h0 base))) 11 false ⟨⟨b :: bs⟩⟩ false (by kernel_rfl) w) (by unfold RP lD lS lI lZ lG lC lT; omega)
      · exact fin_false (rr_of _ (nF 4 0 h2 (nF 3 0 h1 (nF 2 0 h0 base))) 11 false ⟨⟨b :: bs⟩⟩ false (by kernel_rfl) w) (by unfold RP lD lS lI lZ lG lC lT; omega)
theorem rr_11_01 (dst src imm size cond : Int) (w : World) (d1 : 0 ≤ dst) (d2 : dst ≤ 15) (s1 : 0 ≤ src) (s2 : src ≤ 15) (i1 : -2147483648 ≤ imm) (i2 : imm ≤ 2147483647) :
    Calls Tryd.prog 11 #[.agg #[.int .i64 11, .int .i64 dst, .int .i64 src, .int .i64 imm, .int .i64 size, .bool false, .int .i64 cond, .string ⟨⟨[]⟩⟩]] w fun en w' => RightIs (RP 11 dst src imm size 0 cond 1) en ∧ Below w.heap.size w w' := by
  have base := rbase dst src imm size cond d1 d2 s1 s2 i1 i2
  by_cases h0 : imm ≠ 0
  · exact fin_false (rr_of _ (nT 2 0 h0 base) 11 false ⟨⟨[]⟩⟩ false (by kernel_rfl) w) (by unfold RP lD lS lI lZ lG lC lT; omega)
  · by_cases h1 : size ≠ 0
    · exact fin_false (rr_of _ (nT 3 0 h1 (nF 2 0 h0 base)) 11 false ⟨⟨[]⟩⟩ false (by kernel_rfl) w) (by unfold RP lD lS lI lZ lG lC lT; omega)
    · by_cases h2 : cond ≠ 0
      · exact fin_false (rr_of _ (nT 4 0 h2 (nF 3 0 h1 (nF 2 0 h0 base))) 11 false ⟨⟨[]⟩⟩ false (by kernel_rfl) w) (by unfold RP lD lS lI lZ lG lC lT; omega)
      · exact fin_true (rr_of _ (nF 4 0 h2 (nF 3 0 h1 (nF 2 0 h0 base))) 11 false ⟨⟨[]⟩⟩ true (by kernel_rfl) w) (by unfold RP lD lS lI lZ lG lC lT; omega)
theorem rr_11_10 (dst src imm size cond : Int) (b : UInt8) (bs : List UInt8) (w : World) (d1 : 0 ≤ dst) (d2 : dst ≤ 15) (s1 : 0 ≤ src) (s2 : src ≤ 15) (i1 : -2147483648 ≤ imm) (i2 : imm ≤ 2147483647) :
    Calls Tryd.prog 11 #[.agg #[.int .i64 11, .int .i64 dst, .int .i64 src, .int .i64 imm, .int .i64 size, .bool true, .int .i64 cond, .string ⟨⟨b :: bs⟩⟩]] w fun en w' => RightIs (RP 11 dst src imm size 1 cond 0) en ∧ Below w.heap.size w w' := by
  have base := rbase dst src imm size cond d1 d2 s1 s2 i1 i2
  by_cases h0 : imm ≠ 0
  · exact fin_false (rr_of _ (nT 2 0 h0 base) 11 true ⟨⟨b :: bs⟩⟩ false (by kernel_rfl) w) (by unfold RP lD lS lI lZ lG lC lT; omega)
  · by_cases h1 : size ≠ 0
    · exact fin_false (rr_of _ (nT 3 0 h1 (nF 2 0 h0 base)) 11 true ⟨⟨b :: bs⟩⟩ false (by kernel_rfl) w) (by unfold RP lD lS lI lZ lG lC lT; omega)
    · exact fin_false (rr_of _ (nF 3 0 h1 (nF 2 0 h0 base)) 11 true ⟨⟨b :: bs⟩⟩ false (by kernel_rfl) w) (by unfold RP lD lS lI lZ lG lC lT; omega)
theorem rr_11_11 (dst src imm size cond : Int) (w : World) (d1 : 0 ≤ dst) (d2 : dst ≤ 15) (s1 : 0 ≤ src) (s2 : src ≤ 15) (i1 : -2147483648 ≤ imm) (i2 : imm ≤ 2147483647) :
    Calls Tryd.prog 11 #[.agg #[.int .i64 11, .int .i64 dst, .int .i64 src, .int .i64 imm, .int .i64 size, .bool true, .int .i64 cond, .string ⟨⟨[]⟩⟩]] w fun en w' => RightIs (RP 11 dst src imm size 1 cond 1) en ∧ Below w.heap.size w w' := by
  have base := rbase dst src imm size cond d1 d2 s1 s2 i1 i2
  by_cases h0 : imm ≠ 0
  · exact fin_false (rr_of _ (nT 2 0 h0 base) 11 true ⟨⟨[]⟩⟩ false (by kernel_rfl) w) (by unfold RP lD lS lI lZ lG lC lT; omega)
  · by_cases h1 : size ≠ 0
    · exact fin_false (rr_of _ (nT 3 0 h1 (nF 2 0 h0 base)) 11 true ⟨⟨[]⟩⟩ false (by kernel_rfl) w) (by unfold RP lD lS lI lZ lG lC lT; omega)
    · exact fin_false (rr_of _ (nF 3 0 h1 (nF 2 0 h0 base)) 11 true ⟨⟨[]⟩⟩ false (by kernel_rfl) w) (by unfold RP lD lS lI lZ lG lC lT; omega)
theorem rr_19_00 (dst src imm size cond : Int) (b : UInt8) (bs : List UInt8) (w : World) (d1 : 0 ≤ dst) (d2 : dst ≤ 15) (s1 : 0 ≤ src) (s2 : src ≤ 15) (i1 : -2147483648 ≤ imm) (i2 : imm ≤ 2147483647) :
    Calls Tryd.prog 11 #[.agg #[.int .i64 19, .int .i64 dst, .int .i64 src, .int .i64 imm, .int .i64 size, .bool false, .int .i64 cond, .string ⟨⟨b :: bs⟩⟩]] w fun en w' => RightIs (RP 19 dst src imm size 0 cond 0) en ∧ Below w.heap.size w w' := by
  have base := rbase dst src imm size cond d1 d2 s1 s2 i1 i2
  by_cases h0 : src ≠ 0
  · exact fin_false (rr_of _ (nT 1 0 h0 base) 19 false ⟨⟨b :: bs⟩⟩ false (by kernel_rfl) w) (by unfold RP lD lS lI lZ lG lC lT; omega)
  · by_cases h1 : size ≠ 0
    · exact fin_false (rr_of _ (nT 3 0 h1 (nF 1 0 h0 base)) 19 false ⟨⟨b :: bs⟩⟩ false (by kernel_rfl) w) (by unfold RP lD lS lI lZ lG lC lT; omega)
    · by_cases h2 : cond ≠ 0
      · exact fin_false (rr_of _ (nT 4 0 h2 (nF 3 0 h1 (nF 1 0 h0 base))) 19 false ⟨⟨b :: bs⟩⟩ false (by kernel_rfl) w) (by unfold RP lD lS lI lZ lG lC lT; omega)
      · exact fin_false (rr_of _ (nF 4 0 h2 (nF 3 0 h1 (nF 1 0 h0 base))) 19 false ⟨⟨b :: bs⟩⟩ false (by kernel_rfl) w) (by unfold RP lD lS lI lZ lG lC lT; omega)
theorem rr_19_01 (dst src imm size cond : Int) (w : World) (d1 : 0 ≤ dst) (d2 : dst ≤ 15) (s1 : 0 ≤ src) (s2 : src ≤ 15) (i1 : -2147483648 ≤ imm) (i2 : imm ≤ 2147483647) :
    Calls Tryd.prog 11 #[.agg #[.int .i64 19, .int .i64 dst, .int .i64 src, .int .i64 imm, .int .i64 size, .bool false, .int .i64 cond, .string ⟨⟨[]⟩⟩]] w fun en w' => RightIs (RP 19 dst src imm size 0 cond 1) en ∧ Below w.heap.size w w' := by
  have base := rbase dst src imm size cond d1 d2 s1 s2 i1 i2
  by_cases h0 : src ≠ 0
  · exact fin_false (rr_of _ (nT 1 0 h0 base) 19 false ⟨⟨[]⟩⟩ false (by kernel_rfl) w) (by unfold RP lD lS lI lZ lG lC lT; omega)
  · by_cases h1 : size ≠ 0
    · exact fin_false (rr_of _ (nT 3 0 h1 (nF 1 0 h0 base)) 19 false ⟨⟨[]⟩⟩ false (by kernel_rfl) w) (by unfold RP lD lS lI lZ lG lC lT; omega)
    · by_cases h2 : cond ≠ 0
      · exact fin_false (rr_of _ (nT 4 0 h2 (nF 3 0 h1 (nF 1 0 h0 base))) 19 false ⟨⟨[]⟩⟩ false (by kernel_rfl) w) (by unfold RP lD lS lI lZ lG lC lT; omega)
      · exact fin_true (rr_of _ (nF 4 0 h2 (nF 3 0 h1 (nF 1 0 h0 base))) 19 false ⟨⟨[]⟩⟩ true (by kernel_rfl) w) (by unfold RP lD lS lI lZ lG lC lT; omega)
theorem rr_19_10 (dst src imm size cond : Int) (b : UInt8) (bs : List UInt8) (w : World) (d1 : 0 ≤ dst) (d2 : dst ≤ 15) (s1 : 0 ≤ src) (s2 : src ≤ 15) (i1 : -2147483648 ≤ imm) (i2 : imm ≤ 2147483647) :
    Calls Tryd.prog 11 #[.agg #[.int .i64 19, .int .i64 dst, .int .i64 src, .int .i64 imm, .int .i64 size, .bool true, .int .i64 cond, .string ⟨⟨b :: bs⟩⟩]] w fun en w' => RightIs (RP 19 dst src imm size 1 cond 0) en ∧ Below w.heap.size w w' := by
  have base := rbase dst src imm size cond d1 d2 s1 s2 i1 i2
  by_cases h0 : src ≠ 0
  · exact fin_false (rr_of _ (nT 1 0 h0 base) 19 true ⟨⟨b :: bs⟩⟩ false (by kernel_rfl) w) (by unfold RP lD lS lI lZ lG lC lT; omega)
  · by_cases h1 : size ≠ 0
    · exact fin_false (rr_of _ (nT 3 0 h1 (nF 1 0 h0 base)) 19 true ⟨⟨b :: bs⟩⟩ false (by kernel_rfl) w) (by unfold RP lD lS lI lZ lG lC lT; omega)
    · exact fin_false (rr_of _ (nF 3 0 h1 (nF 1 0 h0 base)) 19 true ⟨⟨b :: bs⟩⟩ false (by kernel_rfl) w) (by unfold RP lD lS lI lZ lG lC lT; omega)
theorem rr_19_11 (dst src imm size cond : Int) (w : World) (d1 : 0 ≤ dst) (d2 : dst ≤ 15) (s1 : 0 ≤ src) (s2 : src ≤ 15) (i1 : -2147483648 ≤ imm) (i2 : imm ≤ 2147483647) :
    Calls Tryd.prog 11 #[.agg #[.int .i64 19, .int .i64 dst, .int .i64 src, .int .i64 imm, .int .i64 size, .bool true, .int .i64 cond, .string ⟨⟨[]⟩⟩]] w fun en w' => RightIs (RP 19 dst src imm size 1 cond 1) en ∧ Below w.heap.size w w' := by
  have base := rbase dst src imm size cond d1 d2 s1 s2 i1 i2
  by_cases h0 : src ≠ 0
  · exact fin_false (rr_of _ (nT 1 0 h0 base) 19 true ⟨⟨[]⟩⟩ false (by kernel_rfl) w) (by unfold RP lD lS lI lZ lG lC lT; omega)
  · by_cases h1 : size ≠ 0
    · exact fin_false (rr_of _ (nT 3 0 h1 (nF 1 0 h0 base)) 19 true ⟨⟨[]⟩⟩ false (by kernel_rfl) w) (by unfold RP lD lS lI lZ lG lC lT; omega)
    · exact fin_false (rr_of _ (nF 3 0 h1 (nF 1 0 h0 base)) 19 true ⟨⟨[]⟩⟩ false (by kernel_rfl) w) (by unfold RP lD lS lI lZ lG lC lT; omega)
theorem rr_23_00 (dst src imm size cond : Int) (b : UInt8) (bs : List UInt8) (w : World) (d1 : 0 ≤ dst) (d2 : dst ≤ 15) (s1 : 0 ≤ src) (s2 : src ≤ 15) (i1 : -2147483648 ≤ imm) (i2 : imm ≤ 2147483647) :
    Calls Tryd.prog 11 #[.agg #[.int .i64 23, .int .i64 dst, .int .i64 src, .int .i64 imm, .int .i64 size, .bool false, .int .i64 cond, .string ⟨⟨b :: bs⟩⟩]] w fun en w' => RightIs (RP 23 dst src imm size 0 cond 0) en ∧ Below w.heap.size w w' := by
  have base := rbase dst src imm size cond d1 d2 s1 s2 i1 i2
  by_cases h0 : src ≠ 0
  · exact fin_false (rr_of _ (nT 1 0 h0 base) 23 false ⟨⟨b :: bs⟩⟩ false (by kernel_rfl) w) (by unfold RP lD lS lI lZ lG lC lT; omega)
  · by_cases h1 : imm ≠ 0
    · exact fin_false (rr_of _ (nT 2 0 h1 (nF 1 0 h0 base)) 23 false ⟨⟨b :: bs⟩⟩ false (by kernel_rfl) w) (by unfold RP lD lS lI lZ lG lC lT; omega)
    · by_cases h2 : size ≠ 0
      · exact fin_false (rr_of _ (nT 3 0 h2 (nF 2 0 h1 (nF 1 0 h0 base))) 23 false ⟨⟨b :: bs⟩⟩ false (by kernel_rfl) w) (by unfold RP lD lS lI lZ lG lC lT; omega)
      · by_cases h3 : cond ≠ 0
        · exact fin_false (rr_of _ (nT 4 0 h3 (nF 3 0 h2 (nF 2 0 h1 (nF 1 0 h0 base)))) 23 false ⟨⟨b :: bs⟩⟩ false (by kernel_rfl) w) (by unfold RP lD lS lI lZ lG lC lT; omega)
        · exact fin_false (rr_of _ (nF 4 0 h3 (nF 3 0 h2 (nF 2 0 h1 (nF 1 0 h0 base)))) 23 false ⟨⟨b :: bs⟩⟩ false (by kernel_rfl) w) (by unfold RP lD lS lI lZ lG lC lT; omega)
theorem rr_23_01 (dst src imm size cond : Int) (w : World) (d1 : 0 ≤ dst) (d2 : dst ≤ 15) (s1 : 0 ≤ src) (s2 : src ≤ 15) (i1 : -2147483648 ≤ imm) (i2 : imm ≤ 2147483647) :
    Calls Tryd.prog 11 #[.agg #[.int .i64 23, .int .i64 dst, .int .i64 src, .int .i64 imm, .int .i64 size, .bool false, .int .i64 cond, .string ⟨⟨[]⟩⟩]] w fun en w' => RightIs (RP 23 dst src imm size 0 cond 1) en ∧ Below w.heap.size w w' := by
  have base := rbase dst src imm size cond d1 d2 s1 s2 i1 i2
  by_cases h0 : src ≠ 0
  · exact fin_false (rr_of _ (nT 1 0 h0 base) 23 false ⟨⟨[]⟩⟩ false (by kernel_rfl) w) (by unfold RP lD lS lI lZ lG lC lT; omega)
  · by_cases h1 : imm ≠ 0
    · exact fin_false (rr_of _ (nT 2 0 h1 (nF 1 0 h0 base)) 23 false ⟨⟨[]⟩⟩ false (by kernel_rfl) w) (by unfold RP lD lS lI lZ lG lC lT; omega)
    · by_cases h2 : size ≠ 0
      · exact fin_false (rr_of _ (nT 3 0 h2 (nF 2 0 h1 (nF 1 0 h0 base))) 23 false ⟨⟨[]⟩⟩ false (by kernel_rfl) w) (by unfold RP lD lS lI lZ lG lC lT; omega)
      · by_cases h3 : cond ≠ 0
        · exact fin_false (rr_of _ (nT 4 0 h3 (nF 3 0 h2 (nF 2 0 h1 (nF 1 0 h0 base)))) 23 false ⟨⟨[]⟩⟩ false (by kernel_rfl) w) (by unfold RP lD lS lI lZ lG lC lT; omega)
        · exact fin_true (rr_of _ (nF 4 0 h3 (nF 3 0 h2 (nF 2 0 h1 (nF 1 0 h0 base)))) 23 false ⟨⟨[]⟩⟩ true (by kernel_rfl) w) (by unfold RP lD lS lI lZ lG lC lT; omega)
theorem rr_23_10 (dst src imm size cond : Int) (b : UInt8) (bs : List UInt8) (w : World) (d1 : 0 ≤ dst) (d2 : dst ≤ 15) (s1 : 0 ≤ src) (s2 : src ≤ 15) (i1 : -2147483648 ≤ imm) (i2 : imm ≤ 2147483647) :
    Calls Tryd.prog 11 #[.agg #[.int .i64 23, .int .i64 dst, .int .i64 src, .int .i64 imm, .int .i64 size, .bool true, .int .i64 cond, .string ⟨⟨b :: bs⟩⟩]] w fun en w' => RightIs (RP 23 dst src imm size 1 cond 0) en ∧ Below w.heap.size w w' := by
  have base := rbase dst src imm size cond d1 d2 s1 s2 i1 i2
  by_cases h0 : src ≠ 0
  · exact fin_false (rr_of _ (nT 1 0 h0 base) 23 true ⟨⟨b :: bs⟩⟩ false (by kernel_rfl) w) (by unfold RP lD lS lI lZ lG lC lT; omega)
  · by_cases h1 : imm ≠ 0
    · exact fin_false (rr_of _ (nT 2 0 h1 (nF 1 0 h0 base)) 23 true ⟨⟨b :: bs⟩⟩ false (by kernel_rfl) w) (by unfold RP lD lS lI lZ lG lC lT; omega)
    · by_cases h2 : size ≠ 0
      · exact fin_false (rr_of _ (nT 3 0 h2 (nF 2 0 h1 (nF 1 0 h0 base))) 23 true ⟨⟨b :: bs⟩⟩ false (by kernel_rfl) w) (by unfold RP lD lS lI lZ lG lC lT; omega)
      · exact fin_false (rr_of _ (nF 3 0 h2 (nF 2 0 h1 (nF 1 0 h0 base))) 23 true ⟨⟨b :: bs⟩⟩ false (by kernel_rfl) w) (by unfold RP lD lS lI lZ lG lC lT; omega)
theorem rr_23_11 (dst src imm size cond : Int) (w : World) (d1 : 0 ≤ dst) (d2 : dst ≤ 15) (s1 : 0 ≤ src) (s2 : src ≤ 15) (i1 : -2147483648 ≤ imm) (i2 : imm ≤ 2147483647) :
    Calls Tryd.prog 11 #[.agg #[.int .i64 23, .int .i64 dst, .int .i64 src, .int .i64 imm, .int .i64 size, .bool true, .int .i64 cond, .string ⟨⟨[]⟩⟩]] w fun en w' => RightIs (RP 23 dst src imm size 1 cond 1) en ∧ Below w.heap.size w w' := by
  have base := rbase dst src imm size cond d1 d2 s1 s2 i1 i2
  by_cases h0 : src ≠ 0
  · exact fin_false (rr_of _ (nT 1 0 h0 base) 23 true ⟨⟨[]⟩⟩ false (by kernel_rfl) w) (by unfold RP lD lS lI lZ lG lC lT; omega)
  · by_cases h1 : imm ≠ 0
    · exact fin_false (rr_of _ (nT 2 0 h1 (nF 1 0 h0 base)) 23 true ⟨⟨[]⟩⟩ false (by kernel_rfl) w) (by unfold RP lD lS lI lZ lG lC lT; omega)
    · by_cases h2 : size ≠ 0
      · exact fin_false (rr_of _ (nT 3 0 h2 (nF 2 0 h1 (nF 1 0 h0 base))) 23 true ⟨⟨[]⟩⟩ false (by kernel_rfl) w) (by unfold RP lD lS lI lZ lG lC lT; omega)
      · exact fin_false (rr_of _ (nF 3 0 h2 (nF 2 0 h1 (nF 1 0 h0 base))) 23 true ⟨⟨[]⟩⟩ false (by kernel_rfl) w) (by unfold RP lD lS lI lZ lG lC lT; omega)
theorem rr_24_00 (dst src imm size cond : Int) (b : UInt8) (bs : List UInt8) (w : World) (d1 : 0 ≤ dst) (d2 : dst ≤ 15) (s1 : 0 ≤ src) (s2 : src ≤ 15) (i1 : -2147483648 ≤ imm) (i2 : imm ≤ 2147483647) :
    Calls Tryd.prog 11 #[.agg #[.int .i64 24, .int .i64 dst, .int .i64 src, .int .i64 imm, .int .i64 size, .bool false, .int .i64 cond, .string ⟨⟨b :: bs⟩⟩]] w fun en w' => RightIs (RP 24 dst src imm size 0 cond 0) en ∧ Below w.heap.size w w' := by
  have base := rbase dst src imm size cond d1 d2 s1 s2 i1 i2
  by_cases h0 : src ≠ 0
  · exact fin_false (rr_of _ (nT 1 0 h0 base) 24 false ⟨⟨b :: bs⟩⟩ false (by kernel_rfl) w) (by unfold RP lD lS lI lZ lG lC lT; omega)
  · by_cases h1 : size ≠ 0
    · exact fin_false (rr_of _ (nT 3 0 h1 (nF 1 0 h0 base)) 24 false ⟨⟨b :: bs⟩⟩ false (by kernel_rfl) w) (by unfold RP lD lS lI lZ lG lC lT; omega)
    · by_cases h2 : cond ≠ 0
      · exact fin_false (rr_of _ (nT 4 0 h2 (nF 3 0 h1 (nF 1 0 h0 base))) 24 false ⟨⟨b :: bs⟩⟩ false (by kernel_rfl) w) (by unfold RP lD lS lI lZ lG lC lT; omega)
      · exact fin_false (rr_of _ (nF 4 0 h2 (nF 3 0 h1 (nF 1 0 h0 base))) 24 false ⟨⟨b :: bs⟩⟩ false (by kernel_rfl) w) (by unfold RP lD lS lI lZ lG lC lT; omega)
theorem rr_24_01 (dst src imm size cond : Int) (w : World) (d1 : 0 ≤ dst) (d2 : dst ≤ 15) (s1 : 0 ≤ src) (s2 : src ≤ 15) (i1 : -2147483648 ≤ imm) (i2 : imm ≤ 2147483647) :
    Calls Tryd.prog 11 #[.agg #[.int .i64 24, .int .i64 dst, .int .i64 src, .int .i64 imm, .int .i64 size, .bool false, .int .i64 cond, .string ⟨⟨[]⟩⟩]] w fun en w' => RightIs (RP 24 dst src imm size 0 cond 1) en ∧ Below w.heap.size w w' := by
  have base := rbase dst src imm size cond d1 d2 s1 s2 i1 i2
  by_cases h0 : src ≠ 0
  · exact fin_false (rr_of _ (nT 1 0 h0 base) 24 false ⟨⟨[]⟩⟩ false (by kernel_rfl) w) (by unfold RP lD lS lI lZ lG lC lT; omega)
  · by_cases h1 : size ≠ 0
    · exact fin_false (rr_of _ (nT 3 0 h1 (nF 1 0 h0 base)) 24 false ⟨⟨[]⟩⟩ false (by kernel_rfl) w) (by unfold RP lD lS lI lZ lG lC lT; omega)
    · by_cases h2 : cond ≠ 0
      · exact fin_false (rr_of _ (nT 4 0 h2 (nF 3 0 h1 (nF 1 0 h0 base))) 24 false ⟨⟨[]⟩⟩ false (by kernel_rfl) w) (by unfold RP lD lS lI lZ lG lC lT; omega)
      · by_cases h3 : imm ≥ 0
        · by_cases h4 : imm ≤ 63
          · exact fin_true (rr_of _ (kn_cons (kn_leq 2 63 true (decide_eq_true (h4))) (kn_cons (kn_geq 2 0 true (decide_eq_true (h3))) (nF 4 0 h2 (nF 3 0 h1 (nF 1 0 h0 base))))) 24 false ⟨⟨[]⟩⟩ true (by kernel_rfl) w) (by unfold RP lD lS lI lZ lG lC lT; omega)
          · exact fin_false (rr_of _ (kn_cons (kn_leq 2 63 false (decide_eq_false (h4))) (kn_cons (kn_geq 2 0 true (decide_eq_true (h3))) (nF 4 0 h2 (nF 3 0 h1 (nF 1 0 h0 base))))) 24 false ⟨⟨[]⟩⟩ false (by kernel_rfl) w) (by unfold RP lD lS lI lZ lG lC lT; omega)
        · exact fin_false (rr_of _ (kn_cons (kn_geq 2 0 false (decide_eq_false (h3))) (nF 4 0 h2 (nF 3 0 h1 (nF 1 0 h0 base)))) 24 false ⟨⟨[]⟩⟩ false (by kernel_rfl) w) (by unfold RP lD lS lI lZ lG lC lT; omega)
theorem rr_24_10 (dst src imm size cond : Int) (b : UInt8) (bs : List UInt8) (w : World) (d1 : 0 ≤ dst) (d2 : dst ≤ 15) (s1 : 0 ≤ src) (s2 : src ≤ 15) (i1 : -2147483648 ≤ imm) (i2 : imm ≤ 2147483647) :
    Calls Tryd.prog 11 #[.agg #[.int .i64 24, .int .i64 dst, .int .i64 src, .int .i64 imm, .int .i64 size, .bool true, .int .i64 cond, .string ⟨⟨b :: bs⟩⟩]] w fun en w' => RightIs (RP 24 dst src imm size 1 cond 0) en ∧ Below w.heap.size w w' := by
  have base := rbase dst src imm size cond d1 d2 s1 s2 i1 i2
  by_cases h0 : src ≠ 0
  · exact fin_false (rr_of _ (nT 1 0 h0 base) 24 true ⟨⟨b :: bs⟩⟩ false (by kernel_rfl) w) (by unfold RP lD lS lI lZ lG lC lT; omega)
  · by_cases h1 : size ≠ 0
    · exact fin_false (rr_of _ (nT 3 0 h1 (nF 1 0 h0 base)) 24 true ⟨⟨b :: bs⟩⟩ false (by kernel_rfl) w) (by unfold RP lD lS lI lZ lG lC lT; omega)
    · exact fin_false (rr_of _ (nF 3 0 h1 (nF 1 0 h0 base)) 24 true ⟨⟨b :: bs⟩⟩ false (by kernel_rfl) w) (by unfold RP lD lS lI lZ lG lC lT; omega)
theorem rr_24_11 (dst src imm size cond : Int) (w : World) (d1 : 0 ≤ dst) (d2 : dst ≤ 15) (s1 : 0 ≤ src) (s2 : src ≤ 15) (i1 : -2147483648 ≤ imm) (i2 : imm ≤ 2147483647) :
    Calls Tryd.prog 11 #[.agg #[.int .i64 24, .int .i64 dst, .int .i64 src, .int .i64 imm, .int .i64 size, .bool true, .int .i64 cond, .string ⟨⟨[]⟩⟩]] w fun en w' => RightIs (RP 24 dst src imm size 1 cond 1) en ∧ Below w.heap.size w w' := by
  have base := rbase dst src imm size cond d1 d2 s1 s2 i1 i2
  by_cases h0 : src ≠ 0
  · exact fin_false (rr_of _ (nT 1 0 h0 base) 24 true ⟨⟨[]⟩⟩ false (by kernel_rfl) w) (by unfold RP lD lS lI lZ lG lC lT; omega)
  · by_cases h1 : size ≠ 0
    · exact fin_false (rr_of _ (nT 3 0 h1 (nF 1 0 h0 base)) 24 true ⟨⟨[]⟩⟩ false (by kernel_rfl) w) (by unfold RP lD lS lI lZ lG lC lT; omega)
    · exact fin_false (rr_of _ (nF 3 0 h1 (nF 1 0 h0 base)) 24 true ⟨⟨[]⟩⟩ false (by kernel_rfl) w) (by unfold RP lD lS lI lZ lG lC lT; omega)
theorem rr_35_00 (dst src imm size cond : Int) (b : UInt8) (bs : List UInt8) (w : World) (d1 : 0 ≤ dst) (d2 : dst ≤ 15) (s1 : 0 ≤ src) (s2 : src ≤ 15) (i1 : -2147483648 ≤ imm) (i2 : imm ≤ 2147483647) :
    Calls Tryd.prog 11 #[.agg #[.int .i64 35, .int .i64 dst, .int .i64 src, .int .i64 imm, .int .i64 size, .bool false, .int .i64 cond, .string ⟨⟨b :: bs⟩⟩]] w fun en w' => RightIs (RP 35 dst src imm size 0 cond 0) en ∧ Below w.heap.size w w' := by
  have base := rbase dst src imm size cond d1 d2 s1 s2 i1 i2
  by_cases h0 : dst ≠ 0
  · exact fin_false (rr_of _ (nT 0 0 h0 base) 35 false ⟨⟨b :: bs⟩⟩ false (by kernel_rfl) w) (by unfold RP lD lS lI lZ lG lC lT; omega)
  · by_cases h1 : src ≠ 0
    · exact fin_false (rr_of _ (nT 1 0 h1 (nF 0 0 h0 base)) 35 false ⟨⟨b :: bs⟩⟩ false (by kernel_rfl) w) (by unfold RP lD lS lI lZ lG lC lT; omega)
    · by_cases h2 : imm ≠ 0
      · exact fin_false (rr_of _ (nT 2 0 h2 (nF 1 0 h1 (nF 0 0 h0 base))) 35 false ⟨⟨b :: bs⟩⟩ false (by kernel_rfl) w) (by unfold RP lD lS lI lZ lG lC lT; omega)
      · by_cases h3 : size ≠ 0
        · exact fin_false (rr_of _ (nT 3 0 h3 (nF 2 0 h2 (nF 1 0 h1 (nF 0 0 h0 base)))) 35 false ⟨⟨b :: bs⟩⟩ false (by kernel_rfl) w) (by unfold RP lD lS lI lZ lG lC lT; omega)
        · by_cases h4 : cond ≠ 0
          · exact fin_false (rr_of _ (nT 4 0 h4 (nF 3 0 h3 (nF 2 0 h2 (nF 1 0 h1 (nF 0 0 h0 base))))) 35 false ⟨⟨b :: bs⟩⟩ false (by kernel_rfl) w) (by unfold RP lD lS lI lZ lG lC lT; omega)
          · exact fin_true (rr_of _ (nF 4 0 h4 (nF 3 0 h3 (nF 2 0 h2 (nF 1 0 h1 (nF 0 0 h0 base))))) 35 false ⟨⟨b :: bs⟩⟩ true (by kernel_rfl) w) (by unfold RP lD lS lI lZ lG lC lT; omega)
theorem rr_35_01 (dst src imm size cond : Int) (w : World) (d1 : 0 ≤ dst) (d2 : dst ≤ 15) (s1 : 0 ≤ src) (s2 : src ≤ 15) (i1 : -2147483648 ≤ imm) (i2 : imm ≤ 2147483647) :
    Calls Tryd.prog 11 #[.agg #[.int .i64 35, .int .i64 dst, .int .i64 src, .int .i64 imm, .int .i64 size, .bool false, .int .i64 cond, .string ⟨⟨[]⟩⟩]] w fun en w' => RightIs (RP 35 dst src imm size 0 cond 1) en ∧ Below w.heap.size w w' := by
  have base := rbase dst src imm size cond d1 d2 s1 s2 i1 i2
  by_cases h0 : dst ≠ 0
  · exact fin_false (rr_of _ (nT 0 0 h0 base) 35 false ⟨⟨[]⟩⟩ false (by kernel_rfl) w) (by unfold RP lD lS lI lZ lG lC lT; omega)
  · by_cases h1 : src ≠ 0
    · exact fin_false (rr_of _ (nT 1 0 h1 (nF 0 0 h0 base)) 35 false ⟨⟨[]⟩⟩ false (by kernel_rfl) w) (by unfold RP lD lS lI lZ lG lC lT; omega)
    · by_cases h2 : imm ≠ 0
      · exact fin_false (rr_of _ (nT 2 0 h2 (nF 1 0 h1 (nF 0 0 h0 base))) 35 false ⟨⟨[]⟩⟩ false (by kernel_rfl) w) (by unfold RP lD lS lI lZ lG lC lT; omega)
      · by_cases h3 : size ≠ 0
        · exact fin_false (rr_of _ (nT 3 0 h3 (nF 2 0 h2 (nF 1 0 h1 (nF 0 0 h0 base)))) 35 false ⟨⟨[]⟩⟩ false (by kernel_rfl) w) (by unfold RP lD lS lI lZ lG lC lT; omega)
        · by_cases h4 : cond ≠ 0
          · exact fin_false (rr_of _ (nT 4 0 h4 (nF 3 0 h3 (nF 2 0 h2 (nF 1 0 h1 (nF 0 0 h0 base))))) 35 false ⟨⟨[]⟩⟩ false (by kernel_rfl) w) (by unfold RP lD lS lI lZ lG lC lT; omega)
          · exact fin_true (rr_of _ (nF 4 0 h4 (nF 3 0 h3 (nF 2 0 h2 (nF 1 0 h1 (nF 0 0 h0 base))))) 35 false ⟨⟨[]⟩⟩ true (by kernel_rfl) w) (by unfold RP lD lS lI lZ lG lC lT; omega)
theorem rr_35_10 (dst src imm size cond : Int) (b : UInt8) (bs : List UInt8) (w : World) (d1 : 0 ≤ dst) (d2 : dst ≤ 15) (s1 : 0 ≤ src) (s2 : src ≤ 15) (i1 : -2147483648 ≤ imm) (i2 : imm ≤ 2147483647) :
    Calls Tryd.prog 11 #[.agg #[.int .i64 35, .int .i64 dst, .int .i64 src, .int .i64 imm, .int .i64 size, .bool true, .int .i64 cond, .string ⟨⟨b :: bs⟩⟩]] w fun en w' => RightIs (RP 35 dst src imm size 1 cond 0) en ∧ Below w.heap.size w w' := by
  have base := rbase dst src imm size cond d1 d2 s1 s2 i1 i2
  by_cases h0 : dst ≠ 0
  · exact fin_false (rr_of _ (nT 0 0 h0 base) 35 true ⟨⟨b :: bs⟩⟩ false (by kernel_rfl) w) (by unfold RP lD lS lI lZ lG lC lT; omega)
  · by_cases h1 : src ≠ 0
    · exact fin_false (rr_of _ (nT 1 0 h1 (nF 0 0 h0 base)) 35 true ⟨⟨b :: bs⟩⟩ false (by kernel_rfl) w) (by unfold RP lD lS lI lZ lG lC lT; omega)
    · by_cases h2 : imm ≠ 0
      · exact fin_false (rr_of _ (nT 2 0 h2 (nF 1 0 h1 (nF 0 0 h0 base))) 35 true ⟨⟨b :: bs⟩⟩ false (by kernel_rfl) w) (by unfold RP lD lS lI lZ lG lC lT; omega)
      · by_cases h3 : size ≠ 0
        · exact fin_false (rr_of _ (nT 3 0 h3 (nF 2 0 h2 (nF 1 0 h1 (nF 0 0 h0 base)))) 35 true ⟨⟨b :: bs⟩⟩ false (by kernel_rfl) w) (by unfold RP lD lS lI lZ lG lC lT; omega)
        · exact fin_false (rr_of _ (nF 3 0 h3 (nF 2 0 h2 (nF 1 0 h1 (nF 0 0 h0 base)))) 35 true ⟨⟨b :: bs⟩⟩ false (by kernel_rfl) w) (by unfold RP lD lS lI lZ lG lC lT; omega)
theorem rr_35_11 (dst src imm size cond : Int) (w : World) (d1 : 0 ≤ dst) (d2 : dst ≤ 15) (s1 : 0 ≤ src) (s2 : src ≤ 15) (i1 : -2147483648 ≤ imm) (i2 : imm ≤ 2147483647) :
    Calls Tryd.prog 11 #[.agg #[.int .i64 35, .int .i64 dst, .int .i64 src, .int .i64 imm, .int .i64 size, .bool true, .int .i64 cond, .string ⟨⟨[]⟩⟩]] w fun en w' => RightIs (RP 35 dst src imm size 1 cond 1) en ∧ Below w.heap.size w w' := by
  have base := rbase dst src imm size cond d1 d2 s1 s2 i1 i2
  by_cases h0 : dst ≠ 0
  · exact fin_false (rr_of _ (nT 0 0 h0 base) 35 true ⟨⟨[]⟩⟩ false (by kernel_rfl) w) (by unfold RP lD lS lI lZ lG lC lT; omega)
  · by_cases h1 : src ≠ 0
    · exact fin_false (rr_of _ (nT 1 0 h1 (nF 0 0 h0 base)) 35 true ⟨⟨[]⟩⟩ false (by kernel_rfl) w) (by unfold RP lD lS lI lZ lG lC lT; omega)
    · by_cases h2 : imm ≠ 0
      · exact fin_false (rr_of _ (nT 2 0 h2 (nF 1 0 h1 (nF 0 0 h0 base))) 35 true ⟨⟨[]⟩⟩ false (by kernel_rfl) w) (by unfold RP lD lS lI lZ lG lC lT; omega)
      · by_cases h3 : size ≠ 0
        · exact fin_false (rr_of _ (nT 3 0 h3 (nF 2 0 h2 (nF 1 0 h1 (nF 0 0 h0 base)))) 35 true ⟨⟨[]⟩⟩ false (by kernel_rfl) w) (by unfold RP lD lS lI lZ lG lC lT; omega)
        · exact fin_false (rr_of _ (nF 3 0 h3 (nF 2 0 h2 (nF 1 0 h1 (nF 0 0 h0 base)))) 35 true ⟨⟨[]⟩⟩ false (by kernel_rfl) w) (by unfold RP lD lS lI lZ lG lC lT; omega)
end Go.Proofs.YtpkbkmppkgeklaaDoor
