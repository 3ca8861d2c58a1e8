/- The document's Right, run: operations 12, 20, 25, 28, 38. The document's Right, run: operations 13, 26, 29, 32, 39. No condition. -/
import Derived.Test.YtpkbkmppkgeklaaDoorRr
namespace Go.Proofs.YtpkbkmppkgeklaaDoor
open Go.RowKit
set_option linter.unusedVariables false
theorem rr_12_00 (dst src imm size cond : Int) (b : UInt8) (bs : List UInt8) (w : World) (d1 : 0 ≤ dst) (d2 : dst ≤ 15) (s1 : 0 ≤ src) (s2 : src ≤ 15) (i1 : -2147483648 ≤ imm) (i2 : imm ≤ 2147483647) :
    Calls Tryd.prog 11 #[.agg #[.int .i64 12, .int .i64 dst, .int .i64 src, .int .i64 imm, .int .i64 size, .bool false, .int .i64 cond, .string ⟨⟨b :: bs⟩⟩]] w fun en w' => RightIs (RP 12 dst src imm size 0 cond 0) en ∧ Below w.heap.size w w' := by
  have base := rbase dst src imm size cond d1 d2 s1 s2 i1 i2
  by_cases h0 : imm ≠ 0
  · exact fin_false (rr_of _ (nT 2 0 h0 base) 12 false ⟨⟨b :: bs⟩⟩ false (by kernel_rfl) w) (by unfold RP lD lS lI lZ lG lC lT; omega)
  · by_cases h1 : size ≠ 0
    · exact fin_false (rr_of _ (nT 3 0 h1 (nF 2 0 h0 base)) 12 false ⟨⟨b :: bs⟩⟩ false (by kernel_rfl) w) (by unfold RP lD lS lI lZ lG lC lT; omega)
    · by_cases h2 : cond ≠ 0
      · exact fin_false (rr_of _ (nT 4 0 h2 (nF 3 0 h1 (nF 2 0 h0 base))) 12 false ⟨⟨b :: bs⟩⟩ false (by kernel_rfl) w) (by unfold RP lD lS lI lZ lG lC lT; omega)
      · exact fin_false (rr_of _ (nF 4 0 h2 (nF 3 0 h1 (nF 2 0 h0 base))) 12 false ⟨⟨b :: bs⟩⟩ false (by kernel_rfl) w) (by unfold RP lD lS lI lZ lG lC lT; omega)
theorem rr_12_01 (dst src imm size cond : Int) (w : World) (d1 : 0 ≤ dst) (d2 : dst ≤ 15) (s1 : 0 ≤ src) (s2 : src ≤ 15) (i1 : -2147483648 ≤ imm) (i2 : imm ≤ 2147483647) :
    Calls Tryd.prog 11 #[.agg #[.int .i64 12, .int .i64 dst, .int .i64 src, .int .i64 imm, .int .i64 size, .bool false, .int .i64 cond, .string ⟨⟨[]⟩⟩]] w fun en w' => RightIs (RP 12 dst src imm size 0 cond 1) en ∧ Below w.heap.size w w' := by
  have base := rbase dst src imm size cond d1 d2 s1 s2 i1 i2
  by_cases h0 : imm ≠ 0
  · exact fin_false (rr_of _ (nT 2 0 h0 base) 12 false ⟨⟨[]⟩⟩ false (by kernel_rfl) w) (by unfold RP lD lS lI lZ lG lC lT; omega)
  · by_cases h1 : size ≠ 0
    · exact fin_false (rr_of _ (nT 3 0 h1 (nF 2 0 h0 base)) 12 false ⟨⟨[]⟩⟩ false (by kernel_rfl) w) (by unfold RP lD lS lI lZ lG lC lT; omega)
    · by_cases h2 : cond ≠ 0
      · exact fin_false (rr_of _ (nT 4 0 h2 (nF 3 0 h1 (nF 2 0 h0 base))) 12 false ⟨⟨[]⟩⟩ false (by kernel_rfl) w) (by unfold RP lD lS lI lZ lG lC lT; omega)
      · exact fin_true (rr_of _ (nF 4 0 h2 (nF 3 0 h1 (nF 2 0 h0 base))) 12 false ⟨⟨[]⟩⟩ true (by kernel_rfl) w) (by unfold RP lD lS lI lZ lG lC lT; omega)
theorem rr_12_10 (dst src imm size cond : Int) (b : UInt8) (bs : List UInt8) (w : World) (d1 : 0 ≤ dst) (d2 : dst ≤ 15) (s1 : 0 ≤ src) (s2 : src ≤ 15) (i1 : -2147483648 ≤ imm) (i2 : imm ≤ 2147483647) :
    Calls Tryd.prog 11 #[.agg #[.int .i64 12, .int .i64 dst, .int .i64 src, .int .i64 imm, .int .i64 size, .bool true, .int .i64 cond, .string ⟨⟨b :: bs⟩⟩]] w fun en w' => RightIs (RP 12 dst src imm size 1 cond 0) en ∧ Below w.heap.size w w' := by
  have base := rbase dst src imm size cond d1 d2 s1 s2 i1 i2
  by_cases h0 : imm ≠ 0
  · exact fin_false (rr_of _ (nT 2 0 h0 base) 12 true ⟨⟨b :: bs⟩⟩ false (by kernel_rfl) w) (by unfold RP lD lS lI lZ lG lC lT; omega)
  · by_cases h1 : size ≠ 0
    · exact fin_false (rr_of _ (nT 3 0 h1 (nF 2 0 h0 base)) 12 true ⟨⟨b :: bs⟩⟩ false (by kernel_rfl) w) (by unfold RP lD lS lI lZ lG lC lT; omega)
    · exact fin_false (rr_of _ (nF 3 0 h1 (nF 2 0 h0 base)) 12 true ⟨⟨b :: bs⟩⟩ false (by kernel_rfl) w) (by unfold RP lD lS lI lZ lG lC lT; omega)
theorem rr_12_11 (dst src imm size cond : Int) (w : World) (d1 : 0 ≤ dst) (d2 : dst ≤ 15) (s1 : 0 ≤ src) (s2 : src ≤ 15) (i1 : -2147483648 ≤ imm) (i2 : imm ≤ 2147483647) :
    Calls Tryd.prog 11 #[.agg #[.int .i64 12, .int .i64 dst, .int .i64 src, .int .i64 imm, .int .i64 size, .bool true, .int .i64 cond, .string ⟨⟨[]⟩⟩]] w fun en w' => RightIs (RP 12 dst src imm size 1 cond 1) en ∧ Below w.heap.size w w' := by
  have base := rbase dst src imm size cond d1 d2 s1 s2 i1 i2
  by_cases h0 : imm ≠ 0
  · exact fin_false (rr_of _ (nT 2 0 h0 base) 12 true ⟨⟨[]⟩⟩ false (by kernel_rfl) w) (by unfold RP lD lS lI lZ lG lC lT; omega)
  · by_cases h1 : size ≠ 0
    · exact fin_false (rr_of _ (nT 3 0 h1 (nF 2 0 h0 base)) 12 true ⟨⟨[]⟩⟩ false (by kernel_rfl) w) (by unfold RP lD lS lI lZ lG lC lT; omega)
    · exact fin_false (rr_of _ (nF 3 0 h1 (nF 2 0 h0 base)) 12 true ⟨⟨[]⟩⟩ false (by kernel_rfl) w) (by unfold RP lD lS lI lZ lG lC lT; omega)
theorem rr_20_00 (dst src imm size cond : Int) (b : UInt8) (bs : List UInt8) (w : World) (d1 : 0 ≤ dst) (d2 : dst ≤ 15) (s1 : 0 ≤ src) (s2 : src ≤ 15) (i1 : -2147483648 ≤ imm) (i2 : imm ≤ 2147483647) :
    Calls Tryd.prog 11 #[.agg #[.int .i64 20, .int .i64 dst, .int .i64 src, .int .i64 imm, .int .i64 size, .bool false, .int .i64 cond, .string ⟨⟨b :: bs⟩⟩]] w fun en w' => RightIs (RP 20 dst src imm size 0 cond 0) en ∧ Below w.heap.size w w' := by
  have base := rbase dst src imm size cond d1 d2 s1 s2 i1 i2
  by_cases h0 : src ≠ 0
  · exact fin_false (rr_of _ (nT 1 0 h0 base) 20 false ⟨⟨b :: bs⟩⟩ false (by kernel_rfl) w) (by unfold RP lD lS lI lZ lG lC lT; omega)
  · by_cases h1 : size ≠ 0
    · exact fin_false (rr_of _ (nT 3 0 h1 (nF 1 0 h0 base)) 20 false ⟨⟨b :: bs⟩⟩ false (by kernel_rfl) w) (by unfold RP lD lS lI lZ lG lC lT; omega)
    · by_cases h2 : cond ≠ 0
      · exact fin_false (rr_of _ (nT 4 0 h2 (nF 3 0 h1 (nF 1 0 h0 base))) 20 false ⟨⟨b :: bs⟩⟩ false (by kernel_rfl) w) (by unfold RP lD lS lI lZ lG lC lT; omega)
      · exact fin_false (rr_of _ (nF 4 0 h2 (nF 3 0 h1 (nF 1 0 h0 base))) 20 false ⟨⟨b :: bs⟩⟩ false (by kernel_rfl) w) (by unfold RP lD lS lI lZ lG lC lT; omega)
theorem rr_20_01 (dst src imm size cond : Int) (w : World) (d1 : 0 ≤ dst) (d2 : dst ≤ 15) (s1 : 0 ≤ src) (s2 : src ≤ 15) (i1 : -2147483648 ≤ imm) (i2 : imm ≤ 2147483647) :
    Calls Tryd.prog 11 #[.agg #[.int .i64 20, .int .i64 dst, .int .i64 src, .int .i64 imm, .int .i64 size, .bool false, .int .i64 cond, .string ⟨⟨[]⟩⟩]] w fun en w' => RightIs (RP 20 dst src imm size 0 cond 1) en ∧ Below w.heap.size w w' := by
  have base := rbase dst src imm size cond d1 d2 s1 s2 i1 i2
  by_cases h0 : src ≠ 0
  · exact fin_false (rr_of _ (nT 1 0 h0 base) 20 false ⟨⟨[]⟩⟩ false (by kernel_rfl) w) (by unfold RP lD lS lI lZ lG lC lT; omega)
  · by_cases h1 : size ≠ 0
    · exact fin_false (rr_of _ (nT 3 0 h1 (nF 1 0 h0 base)) 20 false ⟨⟨[]⟩⟩ false (by kernel_rfl) w) (by unfold RP lD lS lI lZ lG lC lT; omega)
    · by_cases h2 : cond ≠ 0
      · exact fin_false (rr_of _ (nT 4 0 h2 (nF 3 0 h1 (nF 1 0 h0 base))) 20 false ⟨⟨[]⟩⟩ false (by kernel_rfl) w) (by unfold RP lD lS lI lZ lG lC lT; omega)
      · exact fin_true (rr_of _ (nF 4 0 h2 (nF 3 0 h1 (nF 1 0 h0 base))) 20 false ⟨⟨[]⟩⟩ true (by kernel_rfl) w) (by unfold RP lD lS lI lZ lG lC lT; omega)
theorem rr_20_10 (dst src imm size cond : Int) (b : UInt8) (bs : List UInt8) (w : World) (d1 : 0 ≤ dst) (d2 : dst ≤ 15) (s1 : 0 ≤ src) (s2 : src ≤ 15) (i1 : -2147483648 ≤ imm) (i2 : imm ≤ 2147483647) :
    Calls Tryd.prog 11 #[.agg #[.int .i64 20, .int .i64 dst, .int .i64 src, .int .i64 imm, .int .i64 size, .bool true, .int .i64 cond, .string ⟨⟨b :: bs⟩⟩]] w fun en w' => RightIs (RP 20 dst src imm size 1 cond 0) en ∧ Below w.heap.size w w' := by
  have base := rbase dst src imm size cond d1 d2 s1 s2 i1 i2
  by_cases h0 : src ≠ 0
  · exact fin_false (rr_of _ (nT 1 0 h0 base) 20 true ⟨⟨b :: bs⟩⟩ false (by kernel_rfl) w) (by unfold RP lD lS lI lZ lG lC lT; omega)
  · by_cases h1 : size ≠ 0
    · exact fin_false (rr_of _ (nT 3 0 h1 (nF 1 0 h0 base)) 20 true ⟨⟨b :: bs⟩⟩ false (by kernel_rfl) w) (by unfold RP lD lS lI lZ lG lC lT; omega)
    · exact fin_false (rr_of _ (nF 3 0 h1 (nF 1 0 h0 base)) 20 true ⟨⟨b :: bs⟩⟩ false (by kernel_rfl) w) (by unfold RP lD lS lI lZ lG lC lT; omega)
theorem rr_20_11 (dst src imm size cond : Int) (w : World) (d1 : 0 ≤ dst) (d2 : dst ≤ 15) (s1 : 0 ≤ src) (s2 : src ≤ 15) (i1 : -2147483648 ≤ imm) (i2 : imm ≤ 2147483647) :
    Calls Tryd.prog 11 #[.agg #[.int .i64 20, .int .i64 dst, .int .i64 src, .int .i64 imm, .int .i64 size, .bool true, .int .i64 cond, .string ⟨⟨[]⟩⟩]] w fun en w' => RightIs (RP 20 dst src imm size 1 cond 1) en ∧ Below w.heap.size w w' := by
  have base := rbase dst src imm size cond d1 d2 s1 s2 i1 i2
  by_cases h0 : src ≠ 0
  · exact fin_false (rr_of _ (nT 1 0 h0 base) 20 true ⟨⟨[]⟩⟩ false (by kernel_rfl) w) (by unfold RP lD lS lI lZ lG lC lT; omega)
  · by_cases h1 : size ≠ 0
    · exact fin_false (rr_of _ (nT 3 0 h1 (nF 1 0 h0 base)) 20 true ⟨⟨[]⟩⟩ false (by kernel_rfl) w) (by unfold RP lD lS lI lZ lG lC lT; omega)
    · exact fin_false (rr_of _ (nF 3 0 h1 (nF 1 0 h0 base)) 20 true ⟨⟨[]⟩⟩ false (by kernel_rfl) w) (by unfold RP lD lS lI lZ lG lC lT; omega)
theorem rr_25_00 (dst src imm size cond : Int) (b : UInt8) (bs : List UInt8) (w : World) (d1 : 0 ≤ dst) (d2 : dst ≤ 15) (s1 : 0 ≤ src) (s2 : src ≤ 15) (i1 : -2147483648 ≤ imm) (i2 : imm ≤ 2147483647) :
    Calls Tryd.prog 11 #[.agg #[.int .i64 25, .int .i64 dst, .int .i64 src, .int .i64 imm, .int .i64 size, .bool false, .int .i64 cond, .string ⟨⟨b :: bs⟩⟩]] w fun en w' => RightIs (RP 25 dst src imm size 0 cond 0) en ∧ Below w.heap.size w w' := by
  have base := rbase dst src imm size cond d1 d2 s1 s2 i1 i2
  by_cases h0 : src ≠ 0
  · exact fin_false (rr_of _ (nT 1 0 h0 base) 25 false ⟨⟨b :: bs⟩⟩ false (by kernel_rfl) w) (by unfold RP lD lS lI lZ lG lC lT; omega)
  · by_cases h1 : size ≠ 0
    · exact fin_false (rr_of _ (nT 3 0 h1 (nF 1 0 h0 base)) 25 false ⟨⟨b :: bs⟩⟩ false (by kernel_rfl) w) (by unfold RP lD lS lI lZ lG lC lT; omega)
    · by_cases h2 : cond ≠ 0
      · exact fin_false (rr_of _ (nT 4 0 h2 (nF 3 0 h1 (nF 1 0 h0 base))) 25 false ⟨⟨b :: bs⟩⟩ false (by kernel_rfl) w) (by unfold RP lD lS lI lZ lG lC lT; omega)
      · exact fin_false (rr_of _ (nF 4 0 h2 (nF 3 0 h1 (nF 1 0 h0 base))) 25 false ⟨⟨b :: bs⟩⟩ false (by kernel_rfl) w) (by unfold RP lD lS lI lZ lG lC lT; omega)
theorem rr_25_01 (dst src imm size cond : Int) (w : World) (d1 : 0 ≤ dst) (d2 : dst ≤ 15) (s1 : 0 ≤ src) (s2 : src ≤ 15) (i1 : -2147483648 ≤ imm) (i2 : imm ≤ 2147483647) :
    Calls Tryd.prog 11 #[.agg #[.int .i64 25, .int .i64 dst, .int .i64 src, .int .i64 imm, .int .i64 size, .bool false, .int .i64 cond, .string ⟨⟨[]⟩⟩]] w fun en w' => RightIs (RP 25 dst src imm size 0 cond 1) en ∧ Below w.heap.size w w' := by
  have base := rbase dst src imm size cond d1 d2 s1 s2 i1 i2
  by_cases h0 : src ≠ 0
  · exact fin_false (rr_of _ (nT 1 0 h0 base) 25 false ⟨⟨[]⟩⟩ false (by kernel_rfl) w) (by unfold RP lD lS lI lZ lG lC lT; omega)
  · by_cases h1 : size ≠ 0
    · exact fin_false (rr_of _ (nT 3 0 h1 (nF 1 0 h0 base)) 25 false ⟨⟨[]⟩⟩ false (by kernel_rfl) w) (by unfold RP lD lS lI lZ lG lC lT; omega)
    · by_cases h2 : cond ≠ 0
      · exact fin_false (rr_of _ (nT 4 0 h2 (nF 3 0 h1 (nF 1 0 h0 base))) 25 false ⟨⟨[]⟩⟩ false (by kernel_rfl) w) (by unfold RP lD lS lI lZ lG lC lT; omega)
      · by_cases h3 : imm ≥ 0
        · by_cases h4 : imm ≤ 63
          · exact fin_true (rr_of _ (kn_cons (kn_leq 2 63 true (decide_eq_true (h4))) (kn_cons (kn_geq 2 0 true (decide_eq_true (h3))) (nF 4 0 h2 (nF 3 0 h1 (nF 1 0 h0 base))))) 25 false ⟨⟨[]⟩⟩ true (by kernel_rfl) w) (by unfold RP lD lS lI lZ lG lC lT; omega)
          · exact fin_false (rr_of _ (kn_cons (kn_leq 2 63 false (decide_eq_false (h4))) (kn_cons (kn_geq 2 0 true (decide_eq_true (h3))) (nF 4 0 h2 (nF 3 0 h1 (nF 1 0 h0 base))))) 25 false ⟨⟨[]⟩⟩ false (by kernel_rfl) w) (by unfold RP lD lS lI lZ lG lC lT; omega)
        · exact fin_false (rr_of _ (kn_cons (kn_geq 2 0 false (decide_eq_false (h3))) (nF 4 0 h2 (nF 3 0 h1 (nF 1 0 h0 base)))) 25 false ⟨⟨[]⟩⟩ false (by kernel_rfl) w) (by unfold RP lD lS lI lZ lG lC lT; omega)
theorem rr_25_10 (dst src imm size cond : Int) (b : UInt8) (bs : List UInt8) (w : World) (d1 : 0 ≤ dst) (d2 : dst ≤ 15) (s1 : 0 ≤ src) (s2 : src ≤ 15) (i1 : -2147483648 ≤ imm) (i2 : imm ≤ 2147483647) :
    Calls Tryd.prog 11 #[.agg #[.int .i64 25, .int .i64 dst, .int .i64 src, .int .i64 imm, .int .i64 size, .bool true, .int .i64 cond, .string ⟨⟨b :: bs⟩⟩]] w fun en w' => RightIs (RP 25 dst src imm size 1 cond 0) en ∧ Below w.heap.size w w' := by
  have base := rbase dst src imm size cond d1 d2 s1 s2 i1 i2
  by_cases h0 : src ≠ 0
  · exact fin_false (rr_of _ (nT 1 0 h0 base) 25 true ⟨⟨b :: bs⟩⟩ false (by kernel_rfl) w) (by unfold RP lD lS lI lZ lG lC lT; omega)
  · by_cases h1 : size ≠ 0
    · exact fin_false (rr_of _ (nT 3 0 h1 (nF 1 0 h0 base)) 25 true ⟨⟨b :: bs⟩⟩ false (by kernel_rfl) w) (by unfold RP lD lS lI lZ lG lC lT; omega)
    · exact fin_false (rr_of _ (nF 3 0 h1 (nF 1 0 h0 base)) 25 true ⟨⟨b :: bs⟩⟩ false (by kernel_rfl) w) (by unfold RP lD lS lI lZ lG lC lT; omega)
theorem rr_25_11 (dst src imm size cond : Int) (w : World) (d1 : 0 ≤ dst) (d2 : dst ≤ 15) (s1 : 0 ≤ src) (s2 : src ≤ 15) (i1 : -2147483648 ≤ imm) (i2 : imm ≤ 2147483647) :
    Calls Tryd.prog 11 #[.agg #[.int .i64 25, .int .i64 dst, .int .i64 src, .int .i64 imm, .int .i64 size, .bool true, .int .i64 cond, .string ⟨⟨[]⟩⟩]] w fun en w' => RightIs (RP 25 dst src imm size 1 cond 1) en ∧ Below w.heap.size w w' := by
  have base := rbase dst src imm size cond d1 d2 s1 s2 i1 i2
  by_cases h0 : src ≠ 0
  · exact fin_false (rr_of _ (nT 1 0 h0 base) 25 true ⟨⟨[]⟩⟩ false (by kernel_rfl) w) (by unfold RP lD lS lI lZ lG lC lT; omega)
  · by_cases h1 : size ≠ 0
    · exact fin_false (rr_of _ (nT 3 0 h1 (nF 1 0 h0 base)) 25 true ⟨⟨[]⟩⟩ false (by kernel_rfl) w) (by unfold RP lD lS lI lZ lG lC lT; omega)
    · exact fin_false (rr_of _ (nF 3 0 h1 (nF 1 0 h0 base)) 25 true ⟨⟨[]⟩⟩ false (by kernel_rfl) w) (by unfold RP lD lS lI lZ lG lC lT; omega)
theorem rr_28_00 (dst src imm size cond : Int) (b : UInt8) (bs : List UInt8) (w : World) (d1 : 0 ≤ dst) (d2 : dst ≤ 15) (s1 : 0 ≤ src) (s2 : src ≤ 15) (i1 : -2147483648 ≤ imm) (i2 : imm ≤ 2147483647) :
    Calls Tryd.prog 11 #[.agg #[.int .i64 28, .int .i64 dst, .int .i64 src, .int .i64 imm, .int .i64 size, .bool false, .int .i64 cond, .string ⟨⟨b :: bs⟩⟩]] w fun en w' => RightIs (RP 28 dst src imm size 0 cond 0) en ∧ Below w.heap.size w w' := by
  have base := rbase dst src imm size cond d1 d2 s1 s2 i1 i2
  by_cases h0 : src ≠ 0
  · exact fin_false (rr_of _ (nT 1 0 h0 base) 28 false ⟨⟨b :: bs⟩⟩ false (by kernel_rfl) w) (by unfold RP lD lS lI lZ lG lC lT; omega)
  · by_cases h1 : imm ≠ 0
    · exact fin_false (rr_of _ (nT 2 0 h1 (nF 1 0 h0 base)) 28 false ⟨⟨b :: bs⟩⟩ false (by kernel_rfl) w) (by unfold RP lD lS lI lZ lG lC lT; omega)
    · by_cases h2 : size ≠ 0
      · exact fin_false (rr_of _ (nT 3 0 h2 (nF 2 0 h1 (nF 1 0 h0 base))) 28 false ⟨⟨b :: bs⟩⟩ false (by kernel_rfl) w) (by unfold RP lD lS lI lZ lG lC lT; omega)
      · by_cases h3 : cond ≠ 0
        · exact fin_false (rr_of _ (nT 4 0 h3 (nF 3 0 h2 (nF 2 0 h1 (nF 1 0 h0 base)))) 28 false ⟨⟨b :: bs⟩⟩ false (by kernel_rfl) w) (by unfold RP lD lS lI lZ lG lC lT; omega)
        · exact fin_false (rr_of _ (nF 4 0 h3 (nF 3 0 h2 (nF 2 0 h1 (nF 1 0 h0 base)))) 28 false ⟨⟨b :: bs⟩⟩ false (by kernel_rfl) w) (by unfold RP lD lS lI lZ lG lC lT; omega)
theorem rr_28_01 (dst src imm size cond : Int) (w : World) (d1 : 0 ≤ dst) (d2 : dst ≤ 15) (s1 : 0 ≤ src) (s2 : src ≤ 15) (i1 : -2147483648 ≤ imm) (i2 : imm ≤ 2147483647) :
    Calls Tryd.prog 11 #[.agg #[.int .i64 28, .int .i64 dst, .int .i64 src, .int .i64 imm, .int .i64 size, .bool false, .int .i64 cond, .string ⟨⟨[]⟩⟩]] w fun en w' => RightIs (RP 28 dst src imm size 0 cond 1) en ∧ Below w.heap.size w w' := by
  have base := rbase dst src imm size cond d1 d2 s1 s2 i1 i2
  by_cases h0 : src ≠ 0
  · exact fin_false (rr_of _ (nT 1 0 h0 base) 28 false ⟨⟨[]⟩⟩ false (by kernel_rfl) w) (by unfold RP lD lS lI lZ lG lC lT; omega)
  · by_cases h1 : imm ≠ 0
    · exact fin_false (rr_of _ (nT 2 0 h1 (nF 1 0 h0 base)) 28 false ⟨⟨[]⟩⟩ false (by kernel_rfl) w) (by unfold RP lD lS lI lZ lG lC lT; omega)
    · by_cases h2 : size ≠ 0
      · exact fin_false (rr_of _ (nT 3 0 h2 (nF 2 0 h1 (nF 1 0 h0 base))) 28 false ⟨⟨[]⟩⟩ false (by kernel_rfl) w) (by unfold RP lD lS lI lZ lG lC lT; omega)
      · by_cases h3 : cond ≠ 0
        · exact fin_false (rr_of _ (nT 4 0 h3 (nF 3 0 h2 (nF 2 0 h1 (nF 1 0 h0 base)))) 28 false ⟨⟨[]⟩⟩ false (by kernel_rfl) w) (by unfold RP lD lS lI lZ lG lC lT; omega)
        · exact fin_true (rr_of _ (nF 4 0 h3 (nF 3 0 h2 (nF 2 0 h1 (nF 1 0 h0 base)))) 28 false ⟨⟨[]⟩⟩ true (by kernel_rfl) w) (by unfold RP lD lS lI lZ lG lC lT; omega)
theorem rr_28_10 (dst src imm size cond : Int) (b : UInt8) (bs : List UInt8) (w : World) (d1 : 0 ≤ dst) (d2 : dst ≤ 15) (s1 : 0 ≤ src) (s2 : src ≤ 15) (i1 : -2147483648 ≤ imm) (i2 : imm ≤ 2147483647) :
    Calls Tryd.prog 11 #[.agg #[.int .i64 28, .int .i64 dst, .int .i64 src, .int .i64 imm, .int .i64 size, .bool true, .int .i64 cond, .string ⟨⟨b :: bs⟩⟩]] w fun en w' => RightIs (RP 28 dst src imm size 1 cond 0) en ∧ Below w.heap.size w w' := by
  have base := rbase dst src imm size cond d1 d2 s1 s2 i1 i2
  by_cases h0 : src ≠ 0
  · exact fin_false (rr_of _ (nT 1 0 h0 base) 28 true ⟨⟨b :: bs⟩⟩ false (by kernel_rfl) w) (by unfold RP lD lS lI lZ lG lC lT; omega)
  · by_cases h1 : imm ≠ 0
    · exact fin_false (rr_of _ (nT 2 0 h1 (nF 1 0 h0 base)) 28 true ⟨⟨b :: bs⟩⟩ false (by kernel_rfl) w) (by unfold RP lD lS lI lZ lG lC lT; omega)
    · by_cases h2 : size ≠ 0
      · exact fin_false (rr_of _ (nT 3 0 h2 (nF 2 0 h1 (nF 1 0 h0 base))) 28 true ⟨⟨b :: bs⟩⟩ false (by kernel_rfl) w) (by unfold RP lD lS lI lZ lG lC lT; omega)
      · exact fin_false (rr_of _ (nF 3 0 h2 (nF 2 0 h1 (nF 1 0 h0 base))) 28 true ⟨⟨b :: bs⟩⟩ false (by kernel_rfl) w) (by unfold RP lD lS lI lZ lG lC lT; omega)
theorem rr_28_11 (dst src imm size cond : Int) (w : World) (d1 : 0 ≤ dst) (d2 : dst ≤ 15) (s1 : 0 ≤ src) (s2 : src ≤ 15) (i1 : -2147483648 ≤ imm) (i2 : imm ≤ 2147483647) :
    Calls Tryd.prog 11 #[.agg #[.int .i64 28, .int .i64 dst, .int .i64 src, .int .i64 imm, .int .i64 size, .bool true, .int .i64 cond, .string ⟨⟨[]⟩⟩]] w fun en w' => RightIs (RP 28 dst src imm size 1 cond 1) en ∧ Below w.heap.size w w' := by
  have base := rbase dst src imm size cond d1 d2 s1 s2 i1 i2
  by_cases h0 : src ≠ 0
  · exact fin_false (rr_of _ (nT 1 0 h0 base) 28 true ⟨⟨[]⟩⟩ false (by kernel_rfl) w) (by unfold RP lD lS lI lZ lG lC lT; omega)
  · by_cases h1 : imm ≠ 0
    · exact fin_false (rr_of _ (nT 2 0 h1 (nF 1 0 h0 base)) 28 true ⟨⟨[]⟩⟩ false (by kernel_rfl) w) (by unfold RP lD lS lI lZ lG lC lT; omega)
    · by_cases h2 : size ≠ 0
      · exact fin_false (rr_of _ (nT 3 0 h2 (nF 2 0 h1 (nF 1 0 h0 base))) 28 true ⟨⟨[]⟩⟩ false (by kernel_rfl) w) (by unfold RP lD lS lI lZ lG lC lT; omega)
      · exact fin_false (rr_of _ (nF 3 0 h2 (nF 2 0 h1 (nF 1 0 h0 base))) 28 true ⟨⟨[]⟩⟩ false (by kernel_rfl) w) (by unfold RP lD lS lI lZ lG lC lT; omega)
theorem rr_38_00 (dst src imm size cond : Int) (b : UInt8) (bs : List UInt8) (w : World) (d1 : 0 ≤ dst) (d2 : dst ≤ 15) (s1 : 0 ≤ src) (s2 : src ≤ 15) (i1 : -2147483648 ≤ imm) (i2 : imm ≤ 2147483647) :
    Calls Tryd.prog 11 #[.agg #[.int .i64 38, .int .i64 dst, .int .i64 src, .int .i64 imm, .int .i64 size, .bool false, .int .i64 cond, .string ⟨⟨b :: bs⟩⟩]] w fun en w' => RightIs (RP 38 dst src imm size 0 cond 0) en ∧ Below w.heap.size w w' := by
  have base := rbase dst src imm size cond d1 d2 s1 s2 i1 i2
  by_cases h0 : dst ≠ 0
  · exact fin_false (rr_of _ (nT 0 0 h0 base) 38 false ⟨⟨b :: bs⟩⟩ false (by kernel_rfl) w) (by unfold RP lD lS lI lZ lG lC lT; omega)
  · by_cases h1 : src ≠ 0
    · exact fin_false (rr_of _ (nT 1 0 h1 (nF 0 0 h0 base)) 38 false ⟨⟨b :: bs⟩⟩ false (by kernel_rfl) w) (by unfold RP lD lS lI lZ lG lC lT; omega)
    · by_cases h2 : imm ≠ 0
      · exact fin_false (rr_of _ (nT 2 0 h2 (nF 1 0 h1 (nF 0 0 h0 base))) 38 false ⟨⟨b :: bs⟩⟩ false (by kernel_rfl) w) (by unfold RP lD lS lI lZ lG lC lT; omega)
      · by_cases h3 : size ≠ 0
        · exact fin_false (rr_of _ (nT 3 0 h3 (nF 2 0 h2 (nF 1 0 h1 (nF 0 0 h0 base)))) 38 false ⟨⟨b :: bs⟩⟩ false (by kernel_rfl) w) (by unfold RP lD lS lI lZ lG lC lT; omega)
        · by_cases h4 : cond ≠ 0
          · exact fin_false (rr_of _ (nT 4 0 h4 (nF 3 0 h3 (nF 2 0 h2 (nF 1 0 h1 (nF 0 0 h0 base))))) 38 false ⟨⟨b :: bs⟩⟩ false (by kernel_rfl) w) (by unfold RP lD lS lI lZ lG lC lT; omega)
          · exact fin_false (rr_of _ (nF 4 0 h4 (nF 3 0 h3 (nF 2 0 h2 (nF 1 0 h1 (nF 0 0 h0 base))))) 38 false ⟨⟨b :: bs⟩⟩ false (by kernel_rfl) w) (by unfold RP lD lS lI lZ lG lC lT; omega)
theorem rr_38_01 (dst src imm size cond : Int) (w : World) (d1 : 0 ≤ dst) (d2 : dst ≤ 15) (s1 : 0 ≤ src) (s2 : src ≤ 15) (i1 : -2147483648 ≤ imm) (i2 : imm ≤ 2147483647) :
    Calls Tryd.prog 11 #[.agg #[.int .i64 38, .int .i64 dst, .int .i64 src, .int .i64 imm, .int .i64 size, .bool false, .int .i64 cond, .string ⟨⟨[]⟩⟩]] w fun en w' => RightIs (RP 38 dst src imm size 0 cond 1) en ∧ Below w.heap.size w w' := by
  have base := rbase dst src imm size cond d1 d2 s1 s2 i1 i2
  by_cases h0 : dst ≠ 0
  · exact fin_false (rr_of _ (nT 0 0 h0 base) 38 false ⟨⟨[]⟩⟩ false (by kernel_rfl) w) (by unfold RP lD lS lI lZ lG lC lT; omega)
  · by_cases h1 : src ≠ 0
    · exact fin_false (rr_of _ (nT 1 0 h1 (nF 0 0 h0 base)) 38 false ⟨⟨[]⟩⟩ false (by kernel_rfl) w) (by unfold RP lD lS lI lZ lG lC lT; omega)
    · by_cases h2 : imm ≠ 0
      · exact fin_false (rr_of _ (nT 2 0 h2 (nF 1 0 h1 (nF 0 0 h0 base))) 38 false ⟨⟨[]⟩⟩ false (by kernel_rfl) w) (by unfold RP lD lS lI lZ lG lC lT; omega)
      · by_cases h3 : size ≠ 0
        · exact fin_false (rr_of _ (nT 3 0 h3 (nF 2 0 h2 (nF 1 0 h1 (nF 0 0 h0 base)))) 38 false ⟨⟨[]⟩⟩ false (by kernel_rfl) w) (by unfold RP lD lS lI lZ lG lC lT; omega)
        · by_cases h4 : cond ≠ 0
          · exact fin_false (rr_of _ (nT 4 0 h4 (nF 3 0 h3 (nF 2 0 h2 (nF 1 0 h1 (nF 0 0 h0 base))))) 38 false ⟨⟨[]⟩⟩ false (by kernel_rfl) w) (by unfold RP lD lS lI lZ lG lC lT; omega)
          · exact fin_true (rr_of _ (nF 4 0 h4 (nF 3 0 h3 (nF 2 0 h2 (nF 1 0 h1 (nF 0 0 h0 base))))) 38 false ⟨⟨[]⟩⟩ true (by kernel_rfl) w) (by unfold RP lD lS lI lZ lG lC lT; omega)
theorem rr_38_10 (dst src imm size cond : Int) (b : UInt8) (bs : List UInt8) (w : World) (d1 : 0 ≤ dst) (d2 : dst ≤ 15) (s1 : 0 ≤ src) (s2 : src ≤ 15) (i1 : -2147483648 ≤ imm) (i2 : imm ≤ 2147483647) :
    Calls Tryd.prog 11 #[.agg #[.int .i64 38, .int .i64 dst, .int .i64 src, .int .i64 imm, .int .i64 size, .bool true, .int .i64 cond, .string ⟨⟨b :: bs⟩⟩]] w fun en w' => RightIs (RP 38 dst src imm size 1 cond 0) en ∧ Below w.heap.size w w' := by
  have base := rbase dst src imm size cond d1 d2 s1 s2 i1 i2
  by_cases h0 : dst ≠ 0
  · exact fin_false (rr_of _ (nT 0 0 h0 base) 38 true ⟨⟨b :: bs⟩⟩ false (by kernel_rfl) w) (by unfold RP lD lS lI lZ lG lC lT; omega)
  · by_cases h1 : src ≠ 0
    · exact fin_false (rr_of _ (nT 1 0 h1 (nF 0 0 h0 base)) 38 true ⟨⟨b :: bs⟩⟩ false (by kernel_rfl) w) (by unfold RP lD lS lI lZ lG lC lT; omega)
    · by_cases h2 : imm ≠ 0
      · exact fin_false (rr_of _ (nT 2 0 h2 (nF 1 0 h1 (nF 0 0 h0 base))) 38 true ⟨⟨b :: bs⟩⟩ false (by kernel_rfl) w) (by unfold RP lD lS lI lZ lG lC lT; omega)
      · by_cases h3 : size ≠ 0
        · exact fin_false (rr_of _ (nT 3 0 h3 (nF 2 0 h2 (nF 1 0 h1 (nF 0 0 h0 base)))) 38 true ⟨⟨b :: bs⟩⟩ false (by kernel_rfl) w) (by unfold RP lD lS lI lZ lG lC lT; omega)
        · exact fin_false (rr_of _ (nF 3 0 h3 (nF 2 0 h2 (nF 1 0 h1 (nF 0 0 h0 base)))) 38 true ⟨⟨b :: bs⟩⟩ false (by kernel_rfl) w) (by unfold RP lD lS lI lZ lG lC lT; omega)
theorem rr_38_11 (dst src imm size cond : Int) (w : World) (d1 : 0 ≤ dst) (d2 : dst ≤ 15) (s1 : 0 ≤ src) (s2 : src ≤ 15) (i1 : -2147483648 ≤ imm) (i2 : imm ≤ 2147483647) :
    Calls Tryd.prog 11 #[.agg #[.int .i64 38, .int .i64 dst, .int .i64 src, .int .i64 imm, .int .i64 size, .bool true, .int .i64 cond, .string ⟨⟨[]⟩⟩]] w fun en w' => RightIs (RP 38 dst src imm size 1 cond 1) en ∧ Below w.heap.size w w' := by
  have base := rbase dst src imm size cond d1 d2 s1 s2 i1 i2
  by_cases h0 : dst ≠ 0
  · exact fin_false (rr_of _ (nT 0 0 h0 base) 38 true ⟨⟨[]⟩⟩ false (by kernel_rfl) w) (by unfold RP lD lS lI lZ lG lC lT; omega)
  · by_cases h1 : src ≠ 0
    · exact fin_false (rr_of _ (nT 1 0 h1 (nF 0 0 h0 base)) 38 true ⟨⟨[]⟩⟩ false (by kernel_rfl) w) (by unfold RP lD lS lI lZ lG lC lT; omega)
    · by_cases h2 : imm ≠ 0
      · exact fin_false (rr_of _ (nT 2 0 h2 (nF 1 0 h1 (nF 0 0 h0 base))) 38 true ⟨⟨[]⟩⟩ false (by kernel_rfl) w) (by unfold RP lD lS lI lZ lG lC lT; omega)
      · by_cases h3 : size ≠ 0
        · exact fin_false (rr_of _ (nT 3 0 h3 (nF 2 0 h2 (nF 1 0 h1 (nF 0 0 h0 base)))) 38 true ⟨⟨[]⟩⟩ false (by kernel_rfl) w) (by unfold RP lD lS lI lZ lG lC lT; omega)
        · exact fin_false (rr_of _ (nF 3 0 h3 (nF 2 0 h2 (nF 1 0 h1 (nF 0 0 h0 base)))) 38 true ⟨⟨[]⟩⟩ false (by kernel_rfl) w) (by unfold RP lD lS lI lZ lG lC lT; omega)
end Go.Proofs.YtpkbkmppkgeklaaDoor
namespace Go.Proofs.YtpkbkmppkgeklaaDoor
open Go.RowKit
set_option linter.unusedVariables false
theorem rr_13_00 (dst src imm size cond : Int) (b : UInt8) (bs : List UInt8) (w : World) (d1 : 0 ≤ dst) (d2 : dst ≤ 15) (s1 : 0 ≤ src) (s2 : src ≤ 15) (i1 : -2147483648 ≤ imm) (i2 : imm ≤ 2147483647) :
    Calls Tryd.prog 11 #[.agg #[.int .i64 13, .int .i64 dst, .int .i64 src, .int .i64 imm, .int .i64 size, .bool false, .int .i64 cond, .string ⟨⟨b :: bs⟩⟩]] w fun en w' => RightIs (RP 13 dst src imm size 0 cond 0) en ∧ Below w.heap.size w w' := by
  have base := rbase dst src imm size cond d1 d2 s1 s2 i1 i2
  by_cases h0 : imm ≠ 0
  · exact fin_false (rr_of _ (nT 2 0 h0 base) 13 false ⟨⟨b :: bs⟩⟩ false (by kernel_rfl) w) (by unfold RP lD lS lI lZ lG lC lT; omega)
  · by_cases h1 : size ≠ 0
    · exact fin_false (rr_of _ (nT 3 0 h1 (nF 2 0 h0 base)) 13 false ⟨⟨b :: bs⟩⟩ false (by kernel_rfl) w) (by unfold RP lD lS lI lZ lG lC lT; omega)
    · by_cases h2 : cond ≠ 0
      · exact fin_false (rr_of _ (nT 4 0 h2 (nF 3 0 h1 (nF 2 0 h0 base))) 13 false ⟨⟨b :: bs⟩⟩ false (by kernel_rfl) w) (by unfold RP lD lS lI lZ lG lC lT; omega)
      · exact fin_false (rr_of _ (nF 4 0 h2 (nF 3 0 h1 (nF 2 0 h0 base))) 13 false ⟨⟨b :: bs⟩⟩ false (by kernel_rfl) w) (by unfold RP lD lS lI lZ lG lC lT; omega)
theorem rr_13_01 (dst src imm size cond : Int) (w : World) (d1 : 0 ≤ dst) (d2 : dst ≤ 15) (s1 : 0 ≤ src) (s2 : src ≤ 15) (i1 : -2147483648 ≤ imm) (i2 : imm ≤ 2147483647) :
    Calls Tryd.prog 11 #[.agg #[.int .i64 13, .int .i64 dst, .int .i64 src, .int .i64 imm, .int .i64 size, .bool false, .int .i64 cond, .string ⟨⟨[]⟩⟩]] w fun en w' => RightIs (RP 13 dst src imm size 0 cond 1) en ∧ Below w.heap.size w w' := by
  have base := rbase dst src imm size cond d1 d2 s1 s2 i1 i2
  by_cases h0 : imm ≠ 0
  · exact fin_false (rr_of _ (nT 2 0 h0 base) 13 false ⟨⟨[]⟩⟩ false (by kernel_rfl) w) (by unfold RP lD lS lI lZ lG lC lT; omega)
  · by_cases h1 : size ≠ 0
    · exact fin_false (rr_of _ (nT 3 0 h1 (nF 2 0 h0 base)) 13 false ⟨⟨[]⟩⟩ false (by kernel_rfl) w) (by unfold RP lD lS lI lZ lG lC lT; omega)
    · by_cases h2 : cond ≠ 0
      · exact fin_false (rr_of _ (nT 4 0 h2 (nF 3 0 h1 (nF 2 0 h0 base))) 13 false ⟨⟨[]⟩⟩ false (by kernel_rfl) w) (by unfold RP lD lS lI lZ lG lC lT; omega)
      · exact fin_true (rr_of _ (nF 4 0 h2 (nF 3 0 h1 (nF 2 0 h0 base))) 13 false ⟨⟨[]⟩⟩ true (by kernel_rfl) w) (by unfold RP lD lS lI lZ lG lC lT; omega)
theorem rr_13_10 (dst src imm size cond : Int) (b : UInt8) (bs : List UInt8) (w : World) (d1 : 0 ≤ dst) (d2 : dst ≤ 15) (s1 : 0 ≤ src) (s2 : src ≤ 15) (i1 : -2147483648 ≤ imm) (i2 : imm ≤ 2147483647) :
    Calls Tryd.prog 11 #[.agg #[.int .i64 13, .int .i64 dst, .int .i64 src, .int .i64 imm, .int .i64 size, .bool true, .int .i64 cond, .string ⟨⟨b :: bs⟩⟩]] w fun en w' => RightIs (RP 13 dst src imm size 1 cond 0) en ∧ Below w.heap.size w w' := by
  have base := rbase dst src imm size cond d1 d2 s1 s2 i1 i2
  by_cases h0 : imm ≠ 0
  · exact fin_false (rr_of _ (nT 2 0 h0 base) 13 true ⟨⟨b :: bs⟩⟩ false (by kernel_rfl) w) (by unfold RP lD lS lI lZ lG lC lT; omega)
  · by_cases h1 : size ≠ 0
    · exact fin_false (rr_of _ (nT 3 0 h1 (nF 2 0 h0 base)) 13 true ⟨⟨b :: bs⟩⟩ false (by kernel_rfl) w) (by unfold RP lD lS lI lZ lG lC lT; omega)
    · exact fin_false (rr_of _ (nF 3 0 h1 (nF 2 0 h0 base)) 13 true ⟨⟨b :: bs⟩⟩ false (by kernel_rfl) w) (by unfold RP lD lS lI lZ lG lC lT; omega)
theorem rr_13_11 (dst src imm size cond : Int) (w : World) (d1 : 0 ≤ dst) (d2 : dst ≤ 15) (s1 : 0 ≤ src) (s2 : src ≤ 15) (i1 : -2147483648 ≤ imm) (i2 : imm ≤ 2147483647) :
    Calls Tryd.prog 11 #[.agg #[.int .i64 13, .int .i64 dst, .int .i64 src, .int .i64 imm, .int .i64 size, .bool true, .int .i64 cond, .string ⟨⟨[]⟩⟩]] w fun en w' => RightIs (RP 13 dst src imm size 1 cond 1) en ∧ Below w.heap.size w w' := by
  have base := rbase dst src imm size cond d1 d2 s1 s2 i1 i2
  by_cases h0 : imm ≠ 0
  · exact fin_false (rr_of _ (nT 2 0 h0 base) 13 true ⟨⟨[]⟩⟩ false (by kernel_rfl) w) (by unfold RP lD lS lI lZ lG lC lT; omega)
  · by_cases h1 : size ≠ 0
    · exact fin_false (rr_of _ (nT 3 0 h1 (nF 2 0 h0 base)) 13 true ⟨⟨[]⟩⟩ false (by kernel_rfl) w) (by unfold RP lD lS lI lZ lG lC lT; omega)
    · exact fin_false (rr_of _ (nF 3 0 h1 (nF 2 0 h0 base)) 13 true ⟨⟨[]⟩⟩ false (by kernel_rfl) w) (by unfold RP lD lS lI lZ lG lC lT; omega)
theorem rr_26_00 (dst src imm size cond : Int) (b : UInt8) (bs : List UInt8) (w : World) (d1 : 0 ≤ dst) (d2 : dst ≤ 15) (s1 : 0 ≤ src) (s2 : src ≤ 15) (i1 : -2147483648 ≤ imm) (i2 : imm ≤ 2147483647) :
    Calls Tryd.prog 11 #[.agg #[.int .i64 26, .int .i64 dst, .int .i64 src, .int .i64 imm, .int .i64 size, .bool false, .int .i64 cond, .string ⟨⟨b :: bs⟩⟩]] w fun en w' => RightIs (RP 26 dst src imm size 0 cond 0) en ∧ Below w.heap.size w w' := by
  have base := rbase dst src imm size cond d1 d2 s1 s2 i1 i2
  by_cases h0 : src ≠ 0
  · exact fin_false (rr_of _ (nT 1 0 h0 base) 26 false ⟨⟨b :: bs⟩⟩ false (by kernel_rfl) w) (by unfold RP lD lS lI lZ lG lC lT; omega)
  · by_cases h1 : size ≠ 0
    · exact fin_false (rr_of _ (nT 3 0 h1 (nF 1 0 h0 base)) 26 false ⟨⟨b :: bs⟩⟩ false (by kernel_rfl) w) (by unfold RP lD lS lI lZ lG lC lT; omega)
    · by_cases h2 : cond ≠ 0
      · exact fin_false (rr_of _ (nT 4 0 h2 (nF 3 0 h1 (nF 1 0 h0 base))) 26 false ⟨⟨b :: bs⟩⟩ false (by kernel_rfl) w) (by unfold RP lD lS lI lZ lG lC lT; omega)
      · exact fin_false (rr_of _ (nF 4 0 h2 (nF 3 0 h1 (nF 1 0 h0 base))) 26 false ⟨⟨b :: bs⟩⟩ false (by kernel_rfl) w) (by unfold RP lD lS lI lZ lG lC lT; omega)
theorem rr_26_01 (dst src imm size cond : Int) (w : World) (d1 : 0 ≤ dst) (d2 : dst ≤ 15) (s1 : 0 ≤ src) (s2 : src ≤ 15) (i1 : -2147483648 ≤ imm) (i2 : imm ≤ 2147483647) :
    Calls Tryd.prog 11 #[.agg #[.int .i64 26, .int .i64 dst, .int .i64 src, .int .i64 imm, .int .i64 size, .bool false, .int .i64 cond, .string ⟨⟨[]⟩⟩]] w fun en w' => RightIs (RP 26 dst src imm size 0 cond 1) en ∧ Below w.heap.size w w' := by
  have base := rbase dst src imm size cond d1 d2 s1 s2 i1 i2
  by_cases h0 : src ≠ 0
  · exact fin_false (rr_of _ (nT 1 0 h0 base) 26 false ⟨⟨[]⟩⟩ false (by kernel_rfl) w) (by unfold RP lD lS lI lZ lG lC lT; omega)
  · by_cases h1 : size ≠ 0
    · exact fin_false (rr_of _ (nT 3 0 h1 (nF 1 0 h0 base)) 26 false ⟨⟨[]⟩⟩ false (by kernel_rfl) w) (by unfold RP lD lS lI lZ lG lC lT; omega)
    · by_cases h2 : cond ≠ 0
      · exact fin_false (rr_of _ (nT 4 0 h2 (nF 3 0 h1 (nF 1 0 h0 base))) 26 false ⟨⟨[]⟩⟩ false (by kernel_rfl) w) (by unfold RP lD lS lI lZ lG lC lT; omega)
      · by_cases h3 : imm ≥ 0
        · by_cases h4 : imm ≤ 63
          · exact fin_true (rr_of _ (kn_cons (kn_leq 2 63 true (decide_eq_true (h4))) (kn_cons (kn_geq 2 0 true (decide_eq_true (h3))) (nF 4 0 h2 (nF 3 0 h1 (nF 1 0 h0 base))))) 26 false ⟨⟨[]⟩⟩ true (by kernel_rfl) w) (by unfold RP lD lS lI lZ lG lC lT; omega)
          · exact fin_false (rr_of _ (kn_cons (kn_leq 2 63 false (decide_eq_false (h4))) (kn_cons (kn_geq 2 0 true (decide_eq_true (h3))) (nF 4 0 h2 (nF 3 0 h1 (nF 1 0 h0 base))))) 26 false ⟨⟨[]⟩⟩ false (by kernel_rfl) w) (by unfold RP lD lS lI lZ lG lC lT; omega)
        · exact fin_false (rr_of _ (kn_cons (kn_geq 2 0 false (decide_eq_false (h3))) (nF 4 0 h2 (nF 3 0 h1 (nF 1 0 h0 base)))) 26 false ⟨⟨[]⟩⟩ false (by kernel_rfl) w) (by unfold RP lD lS lI lZ lG lC lT; omega)
theorem rr_26_10 (dst src imm size cond : Int) (b : UInt8) (bs : List UInt8) (w : World) (d1 : 0 ≤ dst) (d2 : dst ≤ 15) (s1 : 0 ≤ src) (s2 : src ≤ 15) (i1 : -2147483648 ≤ imm) (i2 : imm ≤ 2147483647) :
    Calls Tryd.prog 11 #[.agg #[.int .i64 26, .int .i64 dst, .int .i64 src, .int .i64 imm, .int .i64 size, .bool true, .int .i64 cond, .string ⟨⟨b :: bs⟩⟩]] w fun en w' => RightIs (RP 26 dst src imm size 1 cond 0) en ∧ Below w.heap.size w w' := by
  have base := rbase dst src imm size cond d1 d2 s1 s2 i1 i2
  by_cases h0 : src ≠ 0
  · exact fin_false (rr_of _ (nT 1 0 h0 base) 26 true ⟨⟨b :: bs⟩⟩ false (by kernel_rfl) w) (by unfold RP lD lS lI lZ lG lC lT; omega)
  · by_cases h1 : size ≠ 0
    · exact fin_false (rr_of _ (nT 3 0 h1 (nF 1 0 h0 base)) 26 true ⟨⟨b :: bs⟩⟩ false (by kernel_rfl) w) (by unfold RP lD lS lI lZ lG lC lT; omega)
    · exact fin_false (rr_of _ (nF 3 0 h1 (nF 1 0 h0 base)) 26 true ⟨⟨b :: bs⟩⟩ false (by kernel_rfl) w) (by unfold RP lD lS lI lZ lG lC lT; omega)
theorem rr_26_11 (dst src imm size cond : Int) (w : World) (d1 : 0 ≤ dst) (d2 : dst ≤ 15) (s1 : 0 ≤ src) (s2 : src ≤ 15) (i1 : -2147483648 ≤ imm) (i2 : imm ≤ 2147483647) :
    Calls Tryd.prog 11 #[.agg #[.int .i64 26, .int .i64 dst, .int .i64 src, .int .i64 imm, .int .i64 size, .bool true, .int .i64 cond, .string ⟨⟨[]⟩⟩]] w fun en w' => RightIs (RP 26 dst src imm size 1 cond 1) en ∧ Below w.heap.size w w' := by
  have base := rbase dst src imm size cond d1 d2 s1 s2 i1 i2
  by_cases h0 : src ≠ 0
  · exact fin_false (rr_of _ (nT 1 0 h0 base) 26 true ⟨⟨[]⟩⟩ false (by kernel_rfl) w) (by unfold RP lD lS lI lZ lG lC lT; omega)
  · by_cases h1 : size ≠ 0
    · exact fin_false (rr_of _ (nT 3 0 h1 (nF 1 0 h0 base)) 26 true ⟨⟨[]⟩⟩ false (by kernel_rfl) w) (by unfold RP lD lS lI lZ lG lC lT; omega)
    · exact fin_false (rr_of _ (nF 3 0 h1 (nF 1 0 h0 base)) 26 true ⟨⟨[]⟩⟩ false (by kernel_rfl) w) (by unfold RP lD lS lI lZ lG lC lT; omega)
theorem rr_29_00 (dst src imm size cond : Int) (b : UInt8) (bs : List UInt8) (w : World) (d1 : 0 ≤ dst) (d2 : dst ≤ 15) (s1 : 0 ≤ src) (s2 : src ≤ 15) (i1 : -2147483648 ≤ imm) (i2 : imm ≤ 2147483647) :
    Calls Tryd.prog 11 #[.agg #[.int .i64 29, .int .i64 dst, .int .i64 src, .int .i64 imm, .int .i64 size, .bool false, .int .i64 cond, .string ⟨⟨b :: bs⟩⟩]] w fun en w' => RightIs (RP 29 dst src imm size 0 cond 0) en ∧ Below w.heap.size w w' := by
  have base := rbase dst src imm size cond d1 d2 s1 s2 i1 i2
  by_cases h0 : src ≠ 0
  · exact fin_false (rr_of _ (nT 1 0 h0 base) 29 false ⟨⟨b :: bs⟩⟩ false (by kernel_rfl) w) (by unfold RP lD lS lI lZ lG lC lT; omega)
  · by_cases h1 : imm ≠ 0
    · exact fin_false (rr_of _ (nT 2 0 h1 (nF 1 0 h0 base)) 29 false ⟨⟨b :: bs⟩⟩ false (by kernel_rfl) w) (by unfold RP lD lS lI lZ lG lC lT; omega)
    · by_cases h2 : size ≠ 0
      · exact fin_false (rr_of _ (nT 3 0 h2 (nF 2 0 h1 (nF 1 0 h0 base))) 29 false ⟨⟨b :: bs⟩⟩ false (by kernel_rfl) w) (by unfold RP lD lS lI lZ lG lC lT; omega)
      · by_cases h3 : cond ≠ 0
        · exact fin_false (rr_of _ (nT 4 0 h3 (nF 3 0 h2 (nF 2 0 h1 (nF 1 0 h0 base)))) 29 false ⟨⟨b :: bs⟩⟩ false (by kernel_rfl) w) (by unfold RP lD lS lI lZ lG lC lT; omega)
        · exact fin_false (rr_of _ (nF 4 0 h3 (nF 3 0 h2 (nF 2 0 h1 (nF 1 0 h0 base)))) 29 false ⟨⟨b :: bs⟩⟩ false (by kernel_rfl) w) (by unfold RP lD lS lI lZ lG lC lT; omega)
theorem rr_29_01 (dst src imm size cond : Int) (w : World) (d1 : 0 ≤ dst) (d2 : dst ≤ 15) (s1 : 0 ≤ src) (s2 : src ≤ 15) (i1 : -2147483648 ≤ imm) (i2 : imm ≤ 2147483647) :
    Calls Tryd.prog 11 #[.agg #[.int .i64 29, .int .i64 dst, .int .i64 src, .int .i64 imm, .int .i64 size, .bool false, .int .i64 cond, .string ⟨⟨[]⟩⟩]] w fun en w' => RightIs (RP 29 dst src imm size 0 cond 1) en ∧ Below w.heap.size w w' := by
  have base := rbase dst src imm size cond d1 d2 s1 s2 i1 i2
  by_cases h0 : src ≠ 0
  · exact fin_false (rr_of _ (nT 1 0 h0 base) 29 false ⟨⟨[]⟩⟩ false (by kernel_rfl) w) (by unfold RP lD lS lI lZ lG lC lT; omega)
  · by_cases h1 : imm ≠ 0
    · exact fin_false (rr_of _ (nT 2 0 h1 (nF 1 0 h0 base)) 29 false ⟨⟨[]⟩⟩ false (by kernel_rfl) w) (by unfold RP lD lS lI lZ lG lC lT; omega)
    · by_cases h2 : size ≠ 0
      · exact fin_false (rr_of _ (nT 3 0 h2 (nF 2 0 h1 (nF 1 0 h0 base))) 29 false ⟨⟨[]⟩⟩ false (by kernel_rfl) w) (by unfold RP lD lS lI lZ lG lC lT; omega)
      · by_cases h3 : cond ≠ 0
        · exact fin_false (rr_of _ (nT 4 0 h3 (nF 3 0 h2 (nF 2 0 h1 (nF 1 0 h0 base)))) 29 false ⟨⟨[]⟩⟩ false (by kernel_rfl) w) (by unfold RP lD lS lI lZ lG lC lT; omega)
        · exact fin_true (rr_of _ (nF 4 0 h3 (nF 3 0 h2 (nF 2 0 h1 (nF 1 0 h0 base)))) 29 false ⟨⟨[]⟩⟩ true (by kernel_rfl) w) (by unfold RP lD lS lI lZ lG lC lT; omega)
theorem rr_29_10 (dst src imm size cond : Int) (b : UInt8) (bs : List UInt8) (w : World) (d1 : 0 ≤ dst) (d2 : dst ≤ 15) (s1 : 0 ≤ src) (s2 : src ≤ 15) (i1 : -2147483648 ≤ imm) (i2 : imm ≤ 2147483647) :
    Calls Tryd.prog 11 #[.agg #[.int .i64 29, .int .i64 dst, .int .i64 src, .int .i64 imm, .int .i64 size, .bool true, .int .i64 cond, .string ⟨⟨b :: bs⟩⟩]] w fun en w' => RightIs (RP 29 dst src imm size 1 cond 0) en ∧ Below w.heap.size w w' := by
  have base := rbase dst src imm size cond d1 d2 s1 s2 i1 i2
  by_cases h0 : src ≠ 0
  · exact fin_false (rr_of _ (nT 1 0 h0 base) 29 true ⟨⟨b :: bs⟩⟩ false (by kernel_rfl) w) (by unfold RP lD lS lI lZ lG lC lT; omega)
  · by_cases h1 : imm ≠ 0
    · exact fin_false (rr_of _ (nT 2 0 h1 (nF 1 0 h0 base)) 29 true ⟨⟨b :: bs⟩⟩ false (by kernel_rfl) w) (by unfold RP lD lS lI lZ lG lC lT; omega)
    · by_cases h2 : size ≠ 0
      · exact fin_false (rr_of _ (nT 3 0 h2 (nF 2 0 h1 (nF 1 0 h0 base))) 29 true ⟨⟨b :: bs⟩⟩ false (by kernel_rfl) w) (by unfold RP lD lS lI lZ lG lC lT; omega)
      · exact fin_false (rr_of _ (nF 3 0 h2 (nF 2 0 h1 (nF 1 0 h0 base))) 29 true ⟨⟨b :: bs⟩⟩ false (by kernel_rfl) w) (by unfold RP lD lS lI lZ lG lC lT; omega)
theorem rr_29_11 (dst src imm size cond : Int) (w : World) (d1 : 0 ≤ dst) (d2 : dst ≤ 15) (s1 : 0 ≤ src) (s2 : src ≤ 15) (i1 : -2147483648 ≤ imm) (i2 : imm ≤ 2147483647) :
    Calls Tryd.prog 11 #[.agg #[.int .i64 29, .int .i64 dst, .int .i64 src, .int .i64 imm, .int .i64 size, .bool true, .int .i64 cond, .string ⟨⟨[]⟩⟩]] w fun en w' => RightIs (RP 29 dst src imm size 1 cond 1) en ∧ Below w.heap.size w w' := by
  have base := rbase dst src imm size cond d1 d2 s1 s2 i1 i2
  by_cases h0 : src ≠ 0
  · exact fin_false (rr_of _ (nT 1 0 h0 base) 29 true ⟨⟨[]⟩⟩ false (by kernel_rfl) w) (by unfold RP lD lS lI lZ lG lC lT; omega)
  · by_cases h1 : imm ≠ 0
    · exact fin_false (rr_of _ (nT 2 0 h1 (nF 1 0 h0 base)) 29 true ⟨⟨[]⟩⟩ false (by kernel_rfl) w) (by unfold RP lD lS lI lZ lG lC lT; omega)
    · by_cases h2 : size ≠ 0
      · exact fin_false (rr_of _ (nT 3 0 h2 (nF 2 0 h1 (nF 1 0 h0 base))) 29 true ⟨⟨[]⟩⟩ false (by kernel_rfl) w) (by unfold RP lD lS lI lZ lG lC lT; omega)
      · exact fin_false (rr_of _ (nF 3 0 h2 (nF 2 0 h1 (nF 1 0 h0 base))) 29 true ⟨⟨[]⟩⟩ false (by kernel_rfl) w) (by unfold RP lD lS lI lZ lG lC lT; omega)
theorem rr_32_00 (dst src imm size cond : Int) (b : UInt8) (bs : List UInt8) (w : World) (d1 : 0 ≤ dst) (d2 : dst ≤ 15) (s1 : 0 ≤ src) (s2 : src ≤ 15) (i1 : -2147483648 ≤ imm) (i2 : imm ≤ 2147483647) :
    Calls Tryd.prog 11 #[.agg #[.int .i64 32, .int .i64 dst, .int .i64 src, .int .i64 imm, .int .i64 size, .bool false, .int .i64 cond, .string ⟨⟨b :: bs⟩⟩]] w fun en w' => RightIs (RP 32 dst src imm size 0 cond 0) en ∧ Below w.heap.size w w' := by
  have base := rbase dst src imm size cond d1 d2 s1 s2 i1 i2
  by_cases h0 : imm ≠ 0
  · exact fin_false (rr_of _ (nT 2 0 h0 base) 32 false ⟨⟨b :: bs⟩⟩ false (by kernel_rfl) w) (by unfold RP lD lS lI lZ lG lC lT; omega)
  · by_cases h1 : size ≠ 0
    · exact fin_false (rr_of _ (nT 3 0 h1 (nF 2 0 h0 base)) 32 false ⟨⟨b :: bs⟩⟩ false (by kernel_rfl) w) (by unfold RP lD lS lI lZ lG lC lT; omega)
    · exact fin_false (rr_of _ (nF 3 0 h1 (nF 2 0 h0 base)) 32 false ⟨⟨b :: bs⟩⟩ false (by kernel_rfl) w) (by unfold RP lD lS lI lZ lG lC lT; omega)
theorem rr_32_01 (dst src imm size cond : Int) (w : World) (d1 : 0 ≤ dst) (d2 : dst ≤ 15) (s1 : 0 ≤ src) (s2 : src ≤ 15) (i1 : -2147483648 ≤ imm) (i2 : imm ≤ 2147483647) :
    Calls Tryd.prog 11 #[.agg #[.int .i64 32, .int .i64 dst, .int .i64 src, .int .i64 imm, .int .i64 size, .bool false, .int .i64 cond, .string ⟨⟨[]⟩⟩]] w fun en w' => RightIs (RP 32 dst src imm size 0 cond 1) en ∧ Below w.heap.size w w' := by
  have base := rbase dst src imm size cond d1 d2 s1 s2 i1 i2
  by_cases h0 : imm ≠ 0
  · exact fin_false (rr_of _ (nT 2 0 h0 base) 32 false ⟨⟨[]⟩⟩ false (by kernel_rfl) w) (by unfold RP lD lS lI lZ lG lC lT; omega)
  · by_cases h1 : size ≠ 0
    · exact fin_false (rr_of _ (nT 3 0 h1 (nF 2 0 h0 base)) 32 false ⟨⟨[]⟩⟩ false (by kernel_rfl) w) (by unfold RP lD lS lI lZ lG lC lT; omega)
    · by_cases h2 : cond < 0
      · exact fin_false (rr_of _ (kn_cons (kn_lss 4 0 true (decide_eq_true (h2))) (nF 3 0 h1 (nF 2 0 h0 base))) 32 false ⟨⟨[]⟩⟩ false (by kernel_rfl) w) (by unfold RP lD lS lI lZ lG lC lT; omega)
      · by_cases h3 : cond > 9
        · exact fin_false (rr_of _ (kn_cons (kn_gtr 4 9 true (decide_eq_true (h3))) (kn_cons (kn_lss 4 0 false (decide_eq_false (h2))) (nF 3 0 h1 (nF 2 0 h0 base)))) 32 false ⟨⟨[]⟩⟩ false (by kernel_rfl) w) (by unfold RP lD lS lI lZ lG lC lT; omega)
        · exact fin_true (rr_of _ (kn_cons (kn_gtr 4 9 false (decide_eq_false (h3))) (kn_cons (kn_lss 4 0 false (decide_eq_false (h2))) (nF 3 0 h1 (nF 2 0 h0 base)))) 32 false ⟨⟨[]⟩⟩ true (by kernel_rfl) w) (by unfold RP lD lS lI lZ lG lC lT; omega)
theorem rr_32_10 (dst src imm size cond : Int) (b : UInt8) (bs : List UInt8) (w : World) (d1 : 0 ≤ dst) (d2 : dst ≤ 15) (s1 : 0 ≤ src) (s2 : src ≤ 15) (i1 : -2147483648 ≤ imm) (i2 : imm ≤ 2147483647) :
    Calls Tryd.prog 11 #[.agg #[.int .i64 32, .int .i64 dst, .int .i64 src, .int .i64 imm, .int .i64 size, .bool true, .int .i64 cond, .string ⟨⟨b :: bs⟩⟩]] w fun en w' => RightIs (RP 32 dst src imm size 1 cond 0) en ∧ Below w.heap.size w w' := by
  have base := rbase dst src imm size cond d1 d2 s1 s2 i1 i2
  by_cases h0 : imm ≠ 0
  · exact fin_false (rr_of _ (nT 2 0 h0 base) 32 true ⟨⟨b :: bs⟩⟩ false (by kernel_rfl) w) (by unfold RP lD lS lI lZ lG lC lT; omega)
  · by_cases h1 : size ≠ 0
    · exact fin_false (rr_of _ (nT 3 0 h1 (nF 2 0 h0 base)) 32 true ⟨⟨b :: bs⟩⟩ false (by kernel_rfl) w) (by unfold RP lD lS lI lZ lG lC lT; omega)
    · exact fin_false (rr_of _ (nF 3 0 h1 (nF 2 0 h0 base)) 32 true ⟨⟨b :: bs⟩⟩ false (by kernel_rfl) w) (by unfold RP lD lS lI lZ lG lC lT; omega)
theorem rr_32_11 (dst src imm size cond : Int) (w : World) (d1 : 0 ≤ dst) (d2 : dst ≤ 15) (s1 : 0 ≤ src) (s2 : src ≤ 15) (i1 : -2147483648 ≤ imm) (i2 : imm ≤ 2147483647) :
    Calls Tryd.prog 11 #[.agg #[.int .i64 32, .int .i64 dst, .int .i64 src, .int .i64 imm, .int .i64 size, .bool true, .int .i64 cond, .string ⟨⟨[]⟩⟩]] w fun en w' => RightIs (RP 32 dst src imm size 1 cond 1) en ∧ Below w.heap.size w w' := by
  have base := rbase dst src imm size cond d1 d2 s1 s2 i1 i2
  by_cases h0 : imm ≠ 0
  · exact fin_false (rr_of _ (nT 2 0 h0 base) 32 true ⟨⟨[]⟩⟩ false (by kernel_rfl) w) (by unfold RP lD lS lI lZ lG lC lT; omega)
  · by_cases h1 : size ≠ 0
    · exact fin_false (rr_of _ (nT 3 0 h1 (nF 2 0 h0 base)) 32 true ⟨⟨[]⟩⟩ false (by kernel_rfl) w) (by unfold RP lD lS lI lZ lG lC lT; omega)
    · exact fin_false (rr_of _ (nF 3 0 h1 (nF 2 0 h0 base)) 32 true ⟨⟨[]⟩⟩ false (by kernel_rfl) w) (by unfold RP lD lS lI lZ lG lC lT; omega)
theorem rr_39_00 (dst src imm size cond : Int) (b : UInt8) (bs : List UInt8) (w : World) (d1 : 0 ≤ dst) (d2 : dst ≤ 15) (s1 : 0 ≤ src) (s2 : src ≤ 15) (i1 : -2147483648 ≤ imm) (i2 : imm ≤ 2147483647) :
    Calls Tryd.prog 11 #[.agg #[.int .i64 39, .int .i64 dst, .int .i64 src, .int .i64 imm, .int .i64 size, .bool false, .int .i64 cond, .string ⟨⟨b :: bs⟩⟩]] w fun en w' => RightIs (RP 39 dst src imm size 0 cond 0) en ∧ Below w.heap.size w w' := by
  have base := rbase dst src imm size cond d1 d2 s1 s2 i1 i2
  by_cases h0 : dst ≠ 0
  · exact fin_false (rr_of _ (nT 0 0 h0 base) 39 false ⟨⟨b :: bs⟩⟩ false (by kernel_rfl) w) (by unfold RP lD lS lI lZ lG lC lT; omega)
  · by_cases h1 : src ≠ 0
    · exact fin_false (rr_of _ (nT 1 0 h1 (nF 0 0 h0 base)) 39 false ⟨⟨b :: bs⟩⟩ false (by kernel_rfl) w) (by unfold RP lD lS lI lZ lG lC lT; omega)
    · by_cases h2 : imm ≠ 0
      · exact fin_false (rr_of _ (nT 2 0 h2 (nF 1 0 h1 (nF 0 0 h0 base))) 39 false ⟨⟨b :: bs⟩⟩ false (by kernel_rfl) w) (by unfold RP lD lS lI lZ lG lC lT; omega)
      · by_cases h3 : size ≠ 0
        · exact fin_false (rr_of _ (nT 3 0 h3 (nF 2 0 h2 (nF 1 0 h1 (nF 0 0 h0 base)))) 39 false ⟨⟨b :: bs⟩⟩ false (by kernel_rfl) w) (by unfold RP lD lS lI lZ lG lC lT; omega)
        · by_cases h4 : cond ≠ 0
          · exact fin_false (rr_of _ (nT 4 0 h4 (nF 3 0 h3 (nF 2 0 h2 (nF 1 0 h1 (nF 0 0 h0 base))))) 39 false ⟨⟨b :: bs⟩⟩ false (by kernel_rfl) w) (by unfold RP lD lS lI lZ lG lC lT; omega)
          · exact fin_false (rr_of _ (nF 4 0 h4 (nF 3 0 h3 (nF 2 0 h2 (nF 1 0 h1 (nF 0 0 h0 base))))) 39 false ⟨⟨b :: bs⟩⟩ false (by kernel_rfl) w) (by unfold RP lD lS lI lZ lG lC lT; omega)
theorem rr_39_01 (dst src imm size cond : Int) (w : World) (d1 : 0 ≤ dst) (d2 : dst ≤ 15) (s1 : 0 ≤ src) (s2 : src ≤ 15) (i1 : -2147483648 ≤ imm) (i2 : imm ≤ 2147483647) :
    Calls Tryd.prog 11 #[.agg #[.int .i64 39, .int .i64 dst, .int .i64 src, .int .i64 imm, .int .i64 size, .bool false, .int .i64 cond, .string ⟨⟨[]⟩⟩]] w fun en w' => RightIs (RP 39 dst src imm size 0 cond 1) en ∧ Below w.heap.size w w' := by
  have base := rbase dst src imm size cond d1 d2 s1 s2 i1 i2
  by_cases h0 : dst ≠ 0
  · exact fin_false (rr_of _ (nT 0 0 h0 base) 39 false ⟨⟨[]⟩⟩ false (by kernel_rfl) w) (by unfold RP lD lS lI lZ lG lC lT; omega)
  · by_cases h1 : src ≠ 0
    · exact fin_false (rr_of _ (nT 1 0 h1 (nF 0 0 h0 base)) 39 false ⟨⟨[]⟩⟩ false (by kernel_rfl) w) (by unfold RP lD lS lI lZ lG lC lT; omega)
    · by_cases h2 : imm ≠ 0
      · exact fin_false (rr_of _ (nT 2 0 h2 (nF 1 0 h1 (nF 0 0 h0 base))) 39 false ⟨⟨[]⟩⟩ false (by kernel_rfl) w) (by unfold RP lD lS lI lZ lG lC lT; omega)
      · by_cases h3 : size ≠ 0
        · exact fin_false (rr_of _ (nT 3 0 h3 (nF 2 0 h2 (nF 1 0 h1 (nF 0 0 h0 base)))) 39 false ⟨⟨[]⟩⟩ false (by kernel_rfl) w) (by unfold RP lD lS lI lZ lG lC lT; omega)
        · by_cases h4 : cond ≠ 0
          · exact fin_false (rr_of _ (nT 4 0 h4 (nF 3 0 h3 (nF 2 0 h2 (nF 1 0 h1 (nF 0 0 h0 base))))) 39 false ⟨⟨[]⟩⟩ false (by kernel_rfl) w) (by unfold RP lD lS lI lZ lG lC lT; omega)
          · exact fin_true (rr_of _ (nF 4 0 h4 (nF 3 0 h3 (nF 2 0 h2 (nF 1 0 h1 (nF 0 0 h0 base))))) 39 false ⟨⟨[]⟩⟩ true (by kernel_rfl) w) (by unfold RP lD lS lI lZ lG lC lT; omega)
theorem rr_39_10 (dst src imm size cond : Int) (b : UInt8) (bs : List UInt8) (w : World) (d1 : 0 ≤ dst) (d2 : dst ≤ 15) (s1 : 0 ≤ src) (s2 : src ≤ 15) (i1 : -2147483648 ≤ imm) (i2 : imm ≤ 2147483647) :
    Calls Tryd.prog 11 #[.agg #[.int .i64 39, .int .i64 dst, .int .i64 src, .int .i64 imm, .int .i64 size, .bool true, .int .i64 cond, .string ⟨⟨b :: bs⟩⟩]] w fun en w' => RightIs (RP 39 dst src imm size 1 cond 0) en ∧ Below w.heap.size w w' := by
  have base := rbase dst src imm size cond d1 d2 s1 s2 i1 i2
  by_cases h0 : dst ≠ 0
  · exact fin_false (rr_of _ (nT 0 0 h0 base) 39 true ⟨⟨b :: bs⟩⟩ false (by kernel_rfl) w) (by unfold RP lD lS lI lZ lG lC lT; omega)
  · by_cases h1 : src ≠ 0
    · exact fin_false (rr_of _ (nT 1 0 h1 (nF 0 0 h0 base)) 39 true ⟨⟨b :: bs⟩⟩ false (by kernel_rfl) w) (by unfold RP lD lS lI lZ lG lC lT; omega)
    · by_cases h2 : imm ≠ 0
      · exact fin_false (rr_of _ (nT 2 0 h2 (nF 1 0 h1 (nF 0 0 h0 base))) 39 true ⟨⟨b :: bs⟩⟩ false (by kernel_rfl) w) (by unfold RP lD lS lI lZ lG lC lT; omega)
      · by_cases h3 : size ≠ 0
        · exact fin_false (rr_of _ (nT 3 0 h3 (nF 2 0 h2 (nF 1 0 h1 (nF 0 0 h0 base)))) 39 true ⟨⟨b :: bs⟩⟩ false (by kernel_rfl) w) (by unfold RP lD lS lI lZ lG lC lT; omega)
        · exact fin_false (rr_of _ (nF 3 0 h3 (nF 2 0 h2 (nF 1 0 h1 (nF 0 0 h0 base)))) 39 true ⟨⟨b :: bs⟩⟩ false (by kernel_rfl) w) (by unfold RP lD lS lI lZ lG lC lT; omega)
theorem rr_39_11 (dst src imm size cond : Int) (w : World) (d1 : 0 ≤ dst) (d2 : dst ≤ 15) (s1 : 0 ≤ src) (s2 : src ≤ 15) (i1 : -2147483648 ≤ imm) (i2 : imm ≤ 2147483647) :
    Calls Tryd.prog 11 #[.agg #[.int .i64 39, .int .i64 dst, .int .i64 src, .int .i64 imm, .int .i64 size, .bool true, .int .i64 cond, .string ⟨⟨[]⟩⟩]] w fun en w' => RightIs (RP 39 dst src imm size 1 cond 1) en ∧ Below w.heap.size w w' := by
  have base := rbase dst src imm size cond d1 d2 s1 s2 i1 i2
  by_cases h0 : dst ≠ 0
  · exact fin_false (rr_of _ (nT 0 0 h0 base) 39 true ⟨⟨[]⟩⟩ false (by kernel_rfl) w) (by unfold RP lD lS lI lZ lG lC lT; omega)
  · by_cases h1 : src ≠ 0
    · exact fin_false (rr_of _ (nT 1 0 h1 (nF 0 0 h0 base)) 39 true ⟨⟨[]⟩⟩ false (by kernel_rfl) w) (by unfold RP lD lS lI lZ lG lC lT; omega)
    · by_cases h2 : imm ≠ 0
      · exact fin_false (rr_of _ (nT 2 0 h2 (nF 1 0 h1 (nF 0 0 h0 base))) 39 true ⟨⟨[]⟩⟩ false (by kernel_rfl) w) (by unfold RP lD lS lI lZ lG lC lT; omega)
      · by_cases h3 : size ≠ 0
        · exact fin_false (rr_of _ (nT 3 0 h3 (nF 2 0 h2 (nF 1 0 h1 (nF 0 0 h0 base)))) 39 true ⟨⟨[]⟩⟩ false (by kernel_rfl) w) (by unfold RP lD lS lI lZ lG lC lT; omega)
        · exact fin_false (rr_of _ (nF 3 0 h3 (nF 2 0 h2 (nF 1 0 h1 (nF 0 0 h0 base)))) 39 true ⟨⟨[]⟩⟩ false (by kernel_rfl) w) (by unfold RP lD lS lI lZ lG lC lT; omega)
end Go.Proofs.YtpkbkmppkgeklaaDoor
