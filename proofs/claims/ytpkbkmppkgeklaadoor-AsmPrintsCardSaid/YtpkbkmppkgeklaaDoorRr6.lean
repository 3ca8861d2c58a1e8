/- The document's Right, run: operations 1, 7, 15, 31, 41. The document's Right, run: operations 6, 8, 16, 30, 37. No condition. -/
import Derived.Test.YtpkbkmppkgeklaaDoorRr
namespace Go.Proofs.YtpkbkmppkgeklaaDoor
open Go.RowKit
set_option linter.unusedVariables false
theorem rr_1_00 (dst src imm size cond : Int) (b : UInt8) (bs : List UInt8) (w : World) (d1 : 0 ≤ dst) (d2 : dst ≤ 15) (s1 : 0 ≤ src) (s2 : src ≤ 15) (i1 : -2147483648 ≤ imm) (i2 : imm ≤ 2147483647) :
    Calls Tryd.prog 11 #[.agg #[.int .i64 1, .int .i64 dst, .int .i64 src, .int .i64 imm, .int .i64 size, .bool false, .int .i64 cond, .string ⟨⟨b :: bs⟩⟩]] w fun en w' => RightIs (RP 1 dst src imm size 0 cond 0) en ∧ Below w.heap.size w w' := by
  have base := rbase dst src imm size cond d1 d2 s1 s2 i1 i2
  by_cases h0 : imm ≠ 0
  · exact fin_false (rr_of _ (nT 2 0 h0 base) 1 false ⟨⟨b :: bs⟩⟩ false (by kernel_rfl) w) (by unfold RP lD lS lI lZ lG lC lT; omega)
  · by_cases h1 : size ≠ 0
    · exact fin_false (rr_of _ (nT 3 0 h1 (nF 2 0 h0 base)) 1 false ⟨⟨b :: bs⟩⟩ false (by kernel_rfl) w) (by unfold RP lD lS lI lZ lG lC lT; omega)
    · by_cases h2 : cond ≠ 0
      · exact fin_false (rr_of _ (nT 4 0 h2 (nF 3 0 h1 (nF 2 0 h0 base))) 1 false ⟨⟨b :: bs⟩⟩ false (by kernel_rfl) w) (by unfold RP lD lS lI lZ lG lC lT; omega)
      · exact fin_false (rr_of _ (nF 4 0 h2 (nF 3 0 h1 (nF 2 0 h0 base))) 1 false ⟨⟨b :: bs⟩⟩ false (by kernel_rfl) w) (by unfold RP lD lS lI lZ lG lC lT; omega)
theorem rr_1_01 (dst src imm size cond : Int) (w : World) (d1 : 0 ≤ dst) (d2 : dst ≤ 15) (s1 : 0 ≤ src) (s2 : src ≤ 15) (i1 : -2147483648 ≤ imm) (i2 : imm ≤ 2147483647) :
    Calls Tryd.prog 11 #[.agg #[.int .i64 1, .int .i64 dst, .int .i64 src, .int .i64 imm, .int .i64 size, .bool false, .int .i64 cond, .string ⟨⟨[]⟩⟩]] w fun en w' => RightIs (RP 1 dst src imm size 0 cond 1) en ∧ Below w.heap.size w w' := by
  have base := rbase dst src imm size cond d1 d2 s1 s2 i1 i2
  by_cases h0 : imm ≠ 0
  · exact fin_false (rr_of _ (nT 2 0 h0 base) 1 false ⟨⟨[]⟩⟩ false (by kernel_rfl) w) (by unfold RP lD lS lI lZ lG lC lT; omega)
  · by_cases h1 : size ≠ 0
    · exact fin_false (rr_of _ (nT 3 0 h1 (nF 2 0 h0 base)) 1 false ⟨⟨[]⟩⟩ false (by kernel_rfl) w) (by unfold RP lD lS lI lZ lG lC lT; omega)
    · by_cases h2 : cond ≠ 0
      · exact fin_false (rr_of _ (nT 4 0 h2 (nF 3 0 h1 (nF 2 0 h0 base))) 1 false ⟨⟨[]⟩⟩ false (by kernel_rfl) w) (by unfold RP lD lS lI lZ lG lC lT; omega)
      · exact fin_true (rr_of _ (nF 4 0 h2 (nF 3 0 h1 (nF 2 0 h0 base))) 1 false ⟨⟨[]⟩⟩ true (by kernel_rfl) w) (by unfold RP lD lS lI lZ lG lC lT; omega)
theorem rr_1_10 (dst src imm size cond : Int) (b : UInt8) (bs : List UInt8) (w : World) (d1 : 0 ≤ dst) (d2 : dst ≤ 15) (s1 : 0 ≤ src) (s2 : src ≤ 15) (i1 : -2147483648 ≤ imm) (i2 : imm ≤ 2147483647) :
    Calls Tryd.prog 11 #[.agg #[.int .i64 1, .int .i64 dst, .int .i64 src, .int .i64 imm, .int .i64 size, .bool true, .int .i64 cond, .string ⟨⟨b :: bs⟩⟩]] w fun en w' => RightIs (RP 1 dst src imm size 1 cond 0) en ∧ Below w.heap.size w w' := by
  have base := rbase dst src imm size cond d1 d2 s1 s2 i1 i2
  by_cases h0 : imm ≠ 0
  · exact fin_false (rr_of _ (nT 2 0 h0 base) 1 true ⟨⟨b :: bs⟩⟩ false (by kernel_rfl) w) (by unfold RP lD lS lI lZ lG lC lT; omega)
  · by_cases h1 : size ≠ 0
    · exact fin_false (rr_of _ (nT 3 0 h1 (nF 2 0 h0 base)) 1 true ⟨⟨b :: bs⟩⟩ false (by kernel_rfl) w) (by unfold RP lD lS lI lZ lG lC lT; omega)
    · exact fin_false (rr_of _ (nF 3 0 h1 (nF 2 0 h0 base)) 1 true ⟨⟨b :: bs⟩⟩ false (by kernel_rfl) w) (by unfold RP lD lS lI lZ lG lC lT; omega)
theorem rr_1_11 (dst src imm size cond : Int) (w : World) (d1 : 0 ≤ dst) (d2 : dst ≤ 15) (s1 : 0 ≤ src) (s2 : src ≤ 15) (i1 : -2147483648 ≤ imm) (i2 : imm ≤ 2147483647) :
    Calls Tryd.prog 11 #[.agg #[.int .i64 1, .int .i64 dst, .int .i64 src, .int .i64 imm, .int .i64 size, .bool true, .int .i64 cond, .string ⟨⟨[]⟩⟩]] w fun en w' => RightIs (RP 1 dst src imm size 1 cond 1) en ∧ Below w.heap.size w w' := by
  have base := rbase dst src imm size cond d1 d2 s1 s2 i1 i2
  by_cases h0 : imm ≠ 0
  · exact fin_false (rr_of _ (nT 2 0 h0 base) 1 true ⟨⟨[]⟩⟩ false (by kernel_rfl) w) (by unfold RP lD lS lI lZ lG lC lT; omega)
  · by_cases h1 : size ≠ 0
    · exact fin_false (rr_of _ (nT 3 0 h1 (nF 2 0 h0 base)) 1 true ⟨⟨[]⟩⟩ false (by kernel_rfl) w) (by unfold RP lD lS lI lZ lG lC lT; omega)
    · exact fin_false (rr_of _ (nF 3 0 h1 (nF 2 0 h0 base)) 1 true ⟨⟨[]⟩⟩ false (by kernel_rfl) w) (by unfold RP lD lS lI lZ lG lC lT; omega)
theorem rr_7_00 (dst src imm size cond : Int) (b : UInt8) (bs : List UInt8) (w : World) (d1 : 0 ≤ dst) (d2 : dst ≤ 15) (s1 : 0 ≤ src) (s2 : src ≤ 15) (i1 : -2147483648 ≤ imm) (i2 : imm ≤ 2147483647) :
    Calls Tryd.prog 11 #[.agg #[.int .i64 7, .int .i64 dst, .int .i64 src, .int .i64 imm, .int .i64 size, .bool false, .int .i64 cond, .string ⟨⟨b :: bs⟩⟩]] w fun en w' => RightIs (RP 7 dst src imm size 0 cond 0) en ∧ Below w.heap.size w w' := by
  have base := rbase dst src imm size cond d1 d2 s1 s2 i1 i2
  by_cases h0 : imm ≠ 0
  · exact fin_false (rr_of _ (nT 2 0 h0 base) 7 false ⟨⟨b :: bs⟩⟩ false (by kernel_rfl) w) (by unfold RP lD lS lI lZ lG lC lT; omega)
  · by_cases h1 : size ≠ 0
    · exact fin_false (rr_of _ (nT 3 0 h1 (nF 2 0 h0 base)) 7 false ⟨⟨b :: bs⟩⟩ false (by kernel_rfl) w) (by unfold RP lD lS lI lZ lG lC lT; omega)
    · by_cases h2 : cond ≠ 0
      · exact fin_false (rr_of _ (nT 4 0 h2 (nF 3 0 h1 (nF 2 0 h0 base))) 7 false ⟨⟨b :: bs⟩⟩ false (by kernel_rfl) w) (by unfold RP lD lS lI lZ lG lC lT; omega)
      · exact fin_false (rr_of _ (nF 4 0 h2 (nF 3 0 h1 (nF 2 0 h0 base))) 7 false ⟨⟨b :: bs⟩⟩ false (by kernel_rfl) w) (by unfold RP lD lS lI lZ lG lC lT; omega)
theorem rr_7_01 (dst src imm size cond : Int) (w : World) (d1 : 0 ≤ dst) (d2 : dst ≤ 15) (s1 : 0 ≤ src) (s2 : src ≤ 15) (i1 : -2147483648 ≤ imm) (i2 : imm ≤ 2147483647) :
    Calls Tryd.prog 11 #[.agg #[.int .i64 7, .int .i64 dst, .int .i64 src, .int .i64 imm, .int .i64 size, .bool false, .int .i64 cond, .string ⟨⟨[]⟩⟩]] w fun en w' => RightIs (RP 7 dst src imm size 0 cond 1) en ∧ Below w.heap.size w w' := by
  have base := rbase dst src imm size cond d1 d2 s1 s2 i1 i2
  by_cases h0 : imm ≠ 0
  · exact fin_false (rr_of _ (nT 2 0 h0 base) 7 false ⟨⟨[]⟩⟩ false (by kernel_rfl) w) (by unfold RP lD lS lI lZ lG lC lT; omega)
  · by_cases h1 : size ≠ 0
    · exact fin_false (rr_of _ (nT 3 0 h1 (nF 2 0 h0 base)) 7 false ⟨⟨[]⟩⟩ false (by kernel_rfl) w) (by unfold RP lD lS lI lZ lG lC lT; omega)
    · by_cases h2 : cond ≠ 0
      · exact fin_false (rr_of _ (nT 4 0 h2 (nF 3 0 h1 (nF 2 0 h0 base))) 7 false ⟨⟨[]⟩⟩ false (by kernel_rfl) w) (by unfold RP lD lS lI lZ lG lC lT; omega)
      · exact fin_true (rr_of _ (nF 4 0 h2 (nF 3 0 h1 (nF 2 0 h0 base))) 7 false ⟨⟨[]⟩⟩ true (by kernel_rfl) w) (by unfold RP lD lS lI lZ lG lC lT; omega)
theorem rr_7_10 (dst src imm size cond : Int) (b : UInt8) (bs : List UInt8) (w : World) (d1 : 0 ≤ dst) (d2 : dst ≤ 15) (s1 : 0 ≤ src) (s2 : src ≤ 15) (i1 : -2147483648 ≤ imm) (i2 : imm ≤ 2147483647) :
    Calls Tryd.prog 11 #[.agg #[.int .i64 7, .int .i64 dst, .int .i64 src, .int .i64 imm, .int .i64 size, .bool true, .int .i64 cond, .string ⟨⟨b :: bs⟩⟩]] w fun en w' => RightIs (RP 7 dst src imm size 1 cond 0) en ∧ Below w.heap.size w w' := by
  have base := rbase dst src imm size cond d1 d2 s1 s2 i1 i2
  by_cases h0 : imm ≠ 0
  · exact fin_false (rr_of _ (nT 2 0 h0 base) 7 true ⟨⟨b :: bs⟩⟩ false (by kernel_rfl) w) (by unfold RP lD lS lI lZ lG lC lT; omega)
  · by_cases h1 : size ≠ 0
    · exact fin_false (rr_of _ (nT 3 0 h1 (nF 2 0 h0 base)) 7 true ⟨⟨b :: bs⟩⟩ false (by kernel_rfl) w) (by unfold RP lD lS lI lZ lG lC lT; omega)
    · exact fin_false (rr_of _ (nF 3 0 h1 (nF 2 0 h0 base)) 7 true ⟨⟨b :: bs⟩⟩ false (by kernel_rfl) w) (by unfold RP lD lS lI lZ lG lC lT; omega)
theorem rr_7_11 (dst src imm size cond : Int) (w : World) (d1 : 0 ≤ dst) (d2 : dst ≤ 15) (s1 : 0 ≤ src) (s2 : src ≤ 15) (i1 : -2147483648 ≤ imm) (i2 : imm ≤ 2147483647) :
    Calls Tryd.prog 11 #[.agg #[.int .i64 7, .int .i64 dst, .int .i64 src, .int .i64 imm, .int .i64 size, .bool true, .int .i64 cond, .string ⟨⟨[]⟩⟩]] w fun en w' => RightIs (RP 7 dst src imm size 1 cond 1) en ∧ Below w.heap.size w w' := by
  have base := rbase dst src imm size cond d1 d2 s1 s2 i1 i2
  by_cases h0 : imm ≠ 0
  · exact fin_false (rr_of _ (nT 2 0 h0 base) 7 true ⟨⟨[]⟩⟩ false (by kernel_rfl) w) (by unfold RP lD lS lI lZ lG lC lT; omega)
  · by_cases h1 : size ≠ 0
    · exact fin_false (rr_of _ (nT 3 0 h1 (nF 2 0 h0 base)) 7 true ⟨⟨[]⟩⟩ false (by kernel_rfl) w) (by unfold RP lD lS lI lZ lG lC lT; omega)
    · exact fin_false (rr_of _ (nF 3 0 h1 (nF 2 0 h0 base)) 7 true ⟨⟨[]⟩⟩ false (by kernel_rfl) w) (by unfold RP lD lS lI lZ lG lC lT; omega)
theorem rr_15_00 (dst src imm size cond : Int) (b : UInt8) (bs : List UInt8) (w : World) (d1 : 0 ≤ dst) (d2 : dst ≤ 15) (s1 : 0 ≤ src) (s2 : src ≤ 15) (i1 : -2147483648 ≤ imm) (i2 : imm ≤ 2147483647) :
    Calls Tryd.prog 11 #[.agg #[.int .i64 15, .int .i64 dst, .int .i64 src, .int .i64 imm, .int .i64 size, .bool false, .int .i64 cond, .string ⟨⟨b :: bs⟩⟩]] w fun en w' => RightIs (RP 15 dst src imm size 0 cond 0) en ∧ Below w.heap.size w w' := by
  have base := rbase dst src imm size cond d1 d2 s1 s2 i1 i2
  by_cases h0 : src ≠ 0
  · exact fin_false (rr_of _ (nT 1 0 h0 base) 15 false ⟨⟨b :: bs⟩⟩ false (by kernel_rfl) w) (by unfold RP lD lS lI lZ lG lC lT; omega)
  · by_cases h1 : size ≠ 0
    · exact fin_false (rr_of _ (nT 3 0 h1 (nF 1 0 h0 base)) 15 false ⟨⟨b :: bs⟩⟩ false (by kernel_rfl) w) (by unfold RP lD lS lI lZ lG lC lT; omega)
    · by_cases h2 : cond ≠ 0
      · exact fin_false (rr_of _ (nT 4 0 h2 (nF 3 0 h1 (nF 1 0 h0 base))) 15 false ⟨⟨b :: bs⟩⟩ false (by kernel_rfl) w) (by unfold RP lD lS lI lZ lG lC lT; omega)
      · exact fin_false (rr_of _ (nF 4 0 h2 (nF 3 0 h1 (nF 1 0 h0 base))) 15 false ⟨⟨b :: bs⟩⟩ false (by kernel_rfl) w) (by unfold RP lD lS lI lZ lG lC lT; omega)
theorem rr_15_01 (dst src imm size cond : Int) (w : World) (d1 : 0 ≤ dst) (d2 : dst ≤ 15) (s1 : 0 ≤ src) (s2 : src ≤ 15) (i1 : -2147483648 ≤ imm) (i2 : imm ≤ 2147483647) :
    Calls Tryd.prog 11 #[.agg #[.int .i64 15, .int .i64 dst, .int .i64 src, .int .i64 imm, .int .i64 size, .bool false, .int .i64 cond, .string ⟨⟨[]⟩⟩]] w fun en w' => RightIs (RP 15 dst src imm size 0 cond 1) en ∧ Below w.heap.size w w' := by
  have base := rbase dst src imm size cond d1 d2 s1 s2 i1 i2
  by_cases h0 : src ≠ 0
  · exact fin_false (rr_of _ (nT 1 0 h0 base) 15 false ⟨⟨[]⟩⟩ false (by kernel_rfl) w) (by unfold RP lD lS lI lZ lG lC lT; omega)
  · by_cases h1 : size ≠ 0
    · exact fin_false (rr_of _ (nT 3 0 h1 (nF 1 0 h0 base)) 15 false ⟨⟨[]⟩⟩ false (by kernel_rfl) w) (by unfold RP lD lS lI lZ lG lC lT; omega)
    · by_cases h2 : cond ≠ 0
      · exact fin_false (rr_of _ (nT 4 0 h2 (nF 3 0 h1 (nF 1 0 h0 base))) 15 false ⟨⟨[]⟩⟩ false (by kernel_rfl) w) (by unfold RP lD lS lI lZ lG lC lT; omega)
      · exact fin_true (rr_of _ (nF 4 0 h2 (nF 3 0 h1 (nF 1 0 h0 base))) 15 false ⟨⟨[]⟩⟩ true (by kernel_rfl) w) (by unfold RP lD lS lI lZ lG lC lT; omega)
theorem rr_15_10 (dst src imm size cond : Int) (b : UInt8) (bs : List UInt8) (w : World) (d1 : 0 ≤ dst) (d2 : dst ≤ 15) (s1 : 0 ≤ src) (s2 : src ≤ 15) (i1 : -2147483648 ≤ imm) (i2 : imm ≤ 2147483647) :
    Calls Tryd.prog 11 #[.agg #[.int .i64 15, .int .i64 dst, .int .i64 src, .int .i64 imm, .int .i64 size, .bool true, .int .i64 cond, .string ⟨⟨b :: bs⟩⟩]] w fun en w' => RightIs (RP 15 dst src imm size 1 cond 0) en ∧ Below w.heap.size w w' := by
  have base := rbase dst src imm size cond d1 d2 s1 s2 i1 i2
  by_cases h0 : src ≠ 0
  · exact fin_false (rr_of _ (nT 1 0 h0 base) 15 true ⟨⟨b :: bs⟩⟩ false (by kernel_rfl) w) (by unfold RP lD lS lI lZ lG lC lT; omega)
  · by_cases h1 : size ≠ 0
    · exact fin_false (rr_of _ (nT 3 0 h1 (nF 1 0 h0 base)) 15 true ⟨⟨b :: bs⟩⟩ false (by kernel_rfl) w) (by unfold RP lD lS lI lZ lG lC lT; omega)
    · exact fin_false (rr_of _ (nF 3 0 h1 (nF 1 0 h0 base)) 15 true ⟨⟨b :: bs⟩⟩ false (by kernel_rfl) w) (by unfold RP lD lS lI lZ lG lC lT; omega)
theorem rr_15_11 (dst src imm size cond : Int) (w : World) (d1 : 0 ≤ dst) (d2 : dst ≤ 15) (s1 : 0 ≤ src) (s2 : src ≤ 15) (i1 : -2147483648 ≤ imm) (i2 : imm ≤ 2147483647) :
    Calls Tryd.prog 11 #[.agg #[.int .i64 15, .int .i64 dst, .int .i64 src, .int .i64 imm, .int .i64 size, .bool true, .int .i64 cond, .string ⟨⟨[]⟩⟩]] w fun en w' => RightIs (RP 15 dst src imm size 1 cond 1) en ∧ Below w.heap.size w w' := by
  have base := rbase dst src imm size cond d1 d2 s1 s2 i1 i2
  by_cases h0 : src ≠ 0
  · exact fin_false (rr_of _ (nT 1 0 h0 base) 15 true ⟨⟨[]⟩⟩ false (by kernel_rfl) w) (by unfold RP lD lS lI lZ lG lC lT; omega)
  · by_cases h1 : size ≠ 0
    · exact fin_false (rr_of _ (nT 3 0 h1 (nF 1 0 h0 base)) 15 true ⟨⟨[]⟩⟩ false (by kernel_rfl) w) (by unfold RP lD lS lI lZ lG lC lT; omega)
    · exact fin_false (rr_of _ (nF 3 0 h1 (nF 1 0 h0 base)) 15 true ⟨⟨[]⟩⟩ false (by kernel_rfl) w) (by unfold RP lD lS lI lZ lG lC lT; omega)
theorem rr_31_00 (dst src imm size cond : Int) (b : UInt8) (bs : List UInt8) (w : World) (d1 : 0 ≤ dst) (d2 : dst ≤ 15) (s1 : 0 ≤ src) (s2 : src ≤ 15) (i1 : -2147483648 ≤ imm) (i2 : imm ≤ 2147483647) :
    Calls Tryd.prog 11 #[.agg #[.int .i64 31, .int .i64 dst, .int .i64 src, .int .i64 imm, .int .i64 size, .bool false, .int .i64 cond, .string ⟨⟨b :: bs⟩⟩]] w fun en w' => RightIs (RP 31 dst src imm size 0 cond 0) en ∧ Below w.heap.size w w' := by
  have base := rbase dst src imm size cond d1 d2 s1 s2 i1 i2
  by_cases h0 : src ≠ 0
  · exact fin_false (rr_of _ (nT 1 0 h0 base) 31 false ⟨⟨b :: bs⟩⟩ false (by kernel_rfl) w) (by unfold RP lD lS lI lZ lG lC lT; omega)
  · by_cases h1 : imm ≠ 0
    · exact fin_false (rr_of _ (nT 2 0 h1 (nF 1 0 h0 base)) 31 false ⟨⟨b :: bs⟩⟩ false (by kernel_rfl) w) (by unfold RP lD lS lI lZ lG lC lT; omega)
    · by_cases h2 : size ≠ 0
      · exact fin_false (rr_of _ (nT 3 0 h2 (nF 2 0 h1 (nF 1 0 h0 base))) 31 false ⟨⟨b :: bs⟩⟩ false (by kernel_rfl) w) (by unfold RP lD lS lI lZ lG lC lT; omega)
      · exact fin_false (rr_of _ (nF 3 0 h2 (nF 2 0 h1 (nF 1 0 h0 base))) 31 false ⟨⟨b :: bs⟩⟩ false (by kernel_rfl) w) (by unfold RP lD lS lI lZ lG lC lT; omega)
theorem rr_31_01 (dst src imm size cond : Int) (w : World) (d1 : 0 ≤ dst) (d2 : dst ≤ 15) (s1 : 0 ≤ src) (s2 : src ≤ 15) (i1 : -2147483648 ≤ imm) (i2 : imm ≤ 2147483647) :
    Calls Tryd.prog 11 #[.agg #[.int .i64 31, .int .i64 dst, .int .i64 src, .int .i64 imm, .int .i64 size, .bool false, .int .i64 cond, .string ⟨⟨[]⟩⟩]] w fun en w' => RightIs (RP 31 dst src imm size 0 cond 1) en ∧ Below w.heap.size w w' := by
  have base := rbase dst src imm size cond d1 d2 s1 s2 i1 i2
  by_cases h0 : src ≠ 0
  · exact fin_false (rr_of _ (nT 1 0 h0 base) 31 false ⟨⟨[]⟩⟩ false (by kernel_rfl) w) (by unfold RP lD lS lI lZ lG lC lT; omega)
  · by_cases h1 : imm ≠ 0
    · exact fin_false (rr_of _ (nT 2 0 h1 (nF 1 0 h0 base)) 31 false ⟨⟨[]⟩⟩ false (by kernel_rfl) w) (by unfold RP lD lS lI lZ lG lC lT; omega)
    · by_cases h2 : size ≠ 0
      · exact fin_false (rr_of _ (nT 3 0 h2 (nF 2 0 h1 (nF 1 0 h0 base))) 31 false ⟨⟨[]⟩⟩ false (by kernel_rfl) w) (by unfold RP lD lS lI lZ lG lC lT; omega)
      · by_cases h3 : cond < 0
        · exact fin_false (rr_of _ (kn_cons (kn_lss 4 0 true (decide_eq_true (h3))) (nF 3 0 h2 (nF 2 0 h1 (nF 1 0 h0 base)))) 31 false ⟨⟨[]⟩⟩ false (by kernel_rfl) w) (by unfold RP lD lS lI lZ lG lC lT; omega)
        · by_cases h4 : cond > 9
          · exact fin_false (rr_of _ (kn_cons (kn_gtr 4 9 true (decide_eq_true (h4))) (kn_cons (kn_lss 4 0 false (decide_eq_false (h3))) (nF 3 0 h2 (nF 2 0 h1 (nF 1 0 h0 base))))) 31 false ⟨⟨[]⟩⟩ false (by kernel_rfl) w) (by unfold RP lD lS lI lZ lG lC lT; omega)
          · exact fin_true (rr_of _ (kn_cons (kn_gtr 4 9 false (decide_eq_false (h4))) (kn_cons (kn_lss 4 0 false (decide_eq_false (h3))) (nF 3 0 h2 (nF 2 0 h1 (nF 1 0 h0 base))))) 31 false ⟨⟨[]⟩⟩ true (by kernel_rfl) w) (by unfold RP lD lS lI lZ lG lC lT; omega)
theorem rr_31_10 (dst src imm size cond : Int) (b : UInt8) (bs : List UInt8) (w : World) (d1 : 0 ≤ dst) (d2 : dst ≤ 15) (s1 : 0 ≤ src) (s2 : src ≤ 15) (i1 : -2147483648 ≤ imm) (i2 : imm ≤ 2147483647) :
    Calls Tryd.prog 11 #[.agg #[.int .i64 31, .int .i64 dst, .int .i64 src, .int .i64 imm, .int .i64 size, .bool true, .int .i64 cond, .string ⟨⟨b :: bs⟩⟩]] w fun en w' => RightIs (RP 31 dst src imm size 1 cond 0) en ∧ Below w.heap.size w w' := by
  have base := rbase dst src imm size cond d1 d2 s1 s2 i1 i2
  by_cases h0 : src ≠ 0
  · exact fin_false (rr_of _ (nT 1 0 h0 base) 31 true ⟨⟨b :: bs⟩⟩ false (by kernel_rfl) w) (by unfold RP lD lS lI lZ lG lC lT; omega)
  · by_cases h1 : imm ≠ 0
    · exact fin_false (rr_of _ (nT 2 0 h1 (nF 1 0 h0 base)) 31 true ⟨⟨b :: bs⟩⟩ false (by kernel_rfl) w) (by unfold RP lD lS lI lZ lG lC lT; omega)
    · by_cases h2 : size ≠ 0
      · exact fin_false (rr_of _ (nT 3 0 h2 (nF 2 0 h1 (nF 1 0 h0 base))) 31 true ⟨⟨b :: bs⟩⟩ false (by kernel_rfl) w) (by unfold RP lD lS lI lZ lG lC lT; omega)
      · exact fin_false (rr_of _ (nF 3 0 h2 (nF 2 0 h1 (nF 1 0 h0 base))) 31 true ⟨⟨b :: bs⟩⟩ false (by kernel_rfl) w) (by unfold RP lD lS lI lZ lG lC lT; omega)
theorem rr_31_11 (dst src imm size cond : Int) (w : World) (d1 : 0 ≤ dst) (d2 : dst ≤ 15) (s1 : 0 ≤ src) (s2 : src ≤ 15) (i1 : -2147483648 ≤ imm) (i2 : imm ≤ 2147483647) :
    Calls Tryd.prog 11 #[.agg #[.int .i64 31, .int .i64 dst, .int .i64 src, .int .i64 imm, .int .i64 size, .bool true, .int .i64 cond, .string ⟨⟨[]⟩⟩]] w fun en w' => RightIs (RP 31 dst src imm size 1 cond 1) en ∧ Below w.heap.size w w' := by
  have base := rbase dst src imm size cond d1 d2 s1 s2 i1 i2
  by_cases h0 : src ≠ 0
  · exact fin_false (rr_of _ (nT 1 0 h0 base) 31 true ⟨⟨[]⟩⟩ false (by kernel_rfl) w) (by unfold RP lD lS lI lZ lG lC lT; omega)
  · by_cases h1 : imm ≠ 0
    · exact fin_false (rr_of _ (nT 2 0 h1 (nF 1 0 h0 base)) 31 true ⟨⟨[]⟩⟩ false (by kernel_rfl) w) (by unfold RP lD lS lI lZ lG lC lT; omega)
    · by_cases h2 : size ≠ 0
      · exact fin_false (rr_of _ (nT 3 0 h2 (nF 2 0 h1 (nF 1 0 h0 base))) 31 true ⟨⟨[]⟩⟩ false (by kernel_rfl) w) (by unfold RP lD lS lI lZ lG lC lT; omega)
      · exact fin_false (rr_of _ (nF 3 0 h2 (nF 2 0 h1 (nF 1 0 h0 base))) 31 true ⟨⟨[]⟩⟩ false (by kernel_rfl) w) (by unfold RP lD lS lI lZ lG lC lT; omega)
theorem rr_41_00 (dst src imm size cond : Int) (b : UInt8) (bs : List UInt8) (w : World) (d1 : 0 ≤ dst) (d2 : dst ≤ 15) (s1 : 0 ≤ src) (s2 : src ≤ 15) (i1 : -2147483648 ≤ imm) (i2 : imm ≤ 2147483647) :
    Calls Tryd.prog 11 #[.agg #[.int .i64 41, .int .i64 dst, .int .i64 src, .int .i64 imm, .int .i64 size, .bool false, .int .i64 cond, .string ⟨⟨b :: bs⟩⟩]] w fun en w' => RightIs (RP 41 dst src imm size 0 cond 0) en ∧ Below w.heap.size w w' := by
  have base := rbase dst src imm size cond d1 d2 s1 s2 i1 i2
  by_cases h0 : dst ≠ 0
  · exact fin_false (rr_of _ (nT 0 0 h0 base) 41 false ⟨⟨b :: bs⟩⟩ false (by kernel_rfl) w) (by unfold RP lD lS lI lZ lG lC lT; omega)
  · by_cases h1 : src ≠ 0
    · exact fin_false (rr_of _ (nT 1 0 h1 (nF 0 0 h0 base)) 41 false ⟨⟨b :: bs⟩⟩ false (by kernel_rfl) w) (by unfold RP lD lS lI lZ lG lC lT; omega)
    · by_cases h2 : imm ≠ 0
      · exact fin_false (rr_of _ (nT 2 0 h2 (nF 1 0 h1 (nF 0 0 h0 base))) 41 false ⟨⟨b :: bs⟩⟩ false (by kernel_rfl) w) (by unfold RP lD lS lI lZ lG lC lT; omega)
      · by_cases h3 : size ≠ 0
        · exact fin_false (rr_of _ (nT 3 0 h3 (nF 2 0 h2 (nF 1 0 h1 (nF 0 0 h0 base)))) 41 false ⟨⟨b :: bs⟩⟩ false (by kernel_rfl) w) (by unfold RP lD lS lI lZ lG lC lT; omega)
        · by_cases h4 : cond ≠ 0
          · exact fin_false (rr_of _ (nT 4 0 h4 (nF 3 0 h3 (nF 2 0 h2 (nF 1 0 h1 (nF 0 0 h0 base))))) 41 false ⟨⟨b :: bs⟩⟩ false (by kernel_rfl) w) (by unfold RP lD lS lI lZ lG lC lT; omega)
          · exact fin_false (rr_of _ (nF 4 0 h4 (nF 3 0 h3 (nF 2 0 h2 (nF 1 0 h1 (nF 0 0 h0 base))))) 41 false ⟨⟨b :: bs⟩⟩ false (by kernel_rfl) w) (by unfold RP lD lS lI lZ lG lC lT; omega)
theorem rr_41_01 (dst src imm size cond : Int) (w : World) (d1 : 0 ≤ dst) (d2 : dst ≤ 15) (s1 : 0 ≤ src) (s2 : src ≤ 15) (i1 : -2147483648 ≤ imm) (i2 : imm ≤ 2147483647) :
    Calls Tryd.prog 11 #[.agg #[.int .i64 41, .int .i64 dst, .int .i64 src, .int .i64 imm, .int .i64 size, .bool false, .int .i64 cond, .string ⟨⟨[]⟩⟩]] w fun en w' => RightIs (RP 41 dst src imm size 0 cond 1) en ∧ Below w.heap.size w w' := by
  have base := rbase dst src imm size cond d1 d2 s1 s2 i1 i2
  by_cases h0 : dst ≠ 0
  · exact fin_false (rr_of _ (nT 0 0 h0 base) 41 false ⟨⟨[]⟩⟩ false (by kernel_rfl) w) (by unfold RP lD lS lI lZ lG lC lT; omega)
  · by_cases h1 : src ≠ 0
    · exact fin_false (rr_of _ (nT 1 0 h1 (nF 0 0 h0 base)) 41 false ⟨⟨[]⟩⟩ false (by kernel_rfl) w) (by unfold RP lD lS lI lZ lG lC lT; omega)
    · by_cases h2 : imm ≠ 0
      · exact fin_false (rr_of _ (nT 2 0 h2 (nF 1 0 h1 (nF 0 0 h0 base))) 41 false ⟨⟨[]⟩⟩ false (by kernel_rfl) w) (by unfold RP lD lS lI lZ lG lC lT; omega)
      · by_cases h3 : size ≠ 0
        · exact fin_false (rr_of _ (nT 3 0 h3 (nF 2 0 h2 (nF 1 0 h1 (nF 0 0 h0 base)))) 41 false ⟨⟨[]⟩⟩ false (by kernel_rfl) w) (by unfold RP lD lS lI lZ lG lC lT; omega)
        · by_cases h4 : cond ≠ 0
          · exact fin_false (rr_of _ (nT 4 0 h4 (nF 3 0 h3 (nF 2 0 h2 (nF 1 0 h1 (nF 0 0 h0 base))))) 41 false ⟨⟨[]⟩⟩ false (by kernel_rfl) w) (by unfold RP lD lS lI lZ lG lC lT; omega)
          · exact fin_true (rr_of _ (nF 4 0 h4 (nF 3 0 h3 (nF 2 0 h2 (nF 1 0 h1 (nF 0 0 h0 base))))) 41 false ⟨⟨[]⟩⟩ true (by kernel_rfl) w) (by unfold RP lD lS lI lZ lG lC lT; omega)
theorem rr_41_10 (dst src imm size cond : Int) (b : UInt8) (bs : List UInt8) (w : World) (d1 : 0 ≤ dst) (d2 : dst ≤ 15) (s1 : 0 ≤ src) (s2 : src ≤ 15) (i1 : -2147483648 ≤ imm) (i2 : imm ≤ 2147483647) :
    Calls Tryd.prog 11 #[.agg #[.int .i64 41, .int .i64 dst, .int .i64 src, .int .i64 imm, .int .i64 size, .bool true, .int .i64 cond, .string ⟨⟨b :: bs⟩⟩]] w fun en w' => RightIs (RP 41 dst src imm size 1 cond 0) en ∧ Below w.heap.size w w' := by
  have base := rbase dst src imm size cond d1 d2 s1 s2 i1 i2
  by_cases h0 : dst ≠ 0
  · exact fin_false (rr_of _ (nT 0 0 h0 base) 41 true ⟨⟨b :: bs⟩⟩ false (by kernel_rfl) w) (by unfold RP lD lS lI lZ lG lC lT; omega)
  · by_cases h1 : src ≠ 0
    · exact fin_false (rr_of _ (nT 1 0 h1 (nF 0 0 h0 base)) 41 true ⟨⟨b :: bs⟩⟩ false (by kernel_rfl) w) (by unfold RP lD lS lI lZ lG lC lT; omega)
    · by_cases h2 : imm ≠ 0
      · exact fin_false (rr_of _ (nT 2 0 h2 (nF 1 0 h1 (nF 0 0 h0 base))) 41 true ⟨⟨b :: bs⟩⟩ false (by kernel_rfl) w) (by unfold RP lD lS lI lZ lG lC lT; omega)
      · by_cases h3 : size ≠ 0
        · exact fin_false (rr_of _ (nT 3 0 h3 (nF 2 0 h2 (nF 1 0 h1 (nF 0 0 h0 base)))) 41 true ⟨⟨b :: bs⟩⟩ false (by kernel_rfl) w) (by unfold RP lD lS lI lZ lG lC lT; omega)
        · exact fin_false (rr_of _ (nF 3 0 h3 (nF 2 0 h2 (nF 1 0 h1 (nF 0 0 h0 base)))) 41 true ⟨⟨b :: bs⟩⟩ false (by kernel_rfl) w) (by unfold RP lD lS lI lZ lG lC lT; omega)
theorem rr_41_11 (dst src imm size cond : Int) (w : World) (d1 : 0 ≤ dst) (d2 : dst ≤ 15) (s1 : 0 ≤ src) (s2 : src ≤ 15) (i1 : -2147483648 ≤ imm) (i2 : imm ≤ 2147483647) :
    Calls Tryd.prog 11 #[.agg #[.int .i64 41, .int .i64 dst, .int .i64 src, .int .i64 imm, .int .i64 size, .bool true, .int .i64 cond, .string ⟨⟨[]⟩⟩]] w fun en w' => RightIs (RP 41 dst src imm size 1 cond 1) en ∧ Below w.heap.size w w' := by
  have base := rbase dst src imm size cond d1 d2 s1 s2 i1 i2
  by_cases h0 : dst ≠ 0
  · exact fin_false (rr_of _ (nT 0 0 h0 base) 41 true ⟨⟨[]⟩⟩ false (by kernel_rfl) w) (by unfold RP lD lS lI lZ lG lC lT; omega)
  · by_cases h1 : src ≠ 0
    · exact fin_false (rr_of _ (nT 1 0 h1 (nF 0 0 h0 base)) 41 true ⟨⟨[]⟩⟩ false (by kernel_rfl) w) (by unfold RP lD lS lI lZ lG lC lT; omega)
    · by_cases h2 : imm ≠ 0
      · exact fin_false (rr_of _ (nT 2 0 h2 (nF 1 0 h1 (nF 0 0 h0 base))) 41 true ⟨⟨[]⟩⟩ false (by kernel_rfl) w) (by unfold RP lD lS lI lZ lG lC lT; omega)
      · by_cases h3 : size ≠ 0
        · exact fin_false (rr_of _ (nT 3 0 h3 (nF 2 0 h2 (nF 1 0 h1 (nF 0 0 h0 base)))) 41 true ⟨⟨[]⟩⟩ false (by kernel_rfl) w) (by unfold RP lD lS lI lZ lG lC lT; omega)
        · exact fin_false (rr_of _ (nF 3 0 h3 (nF 2 0 h2 (nF 1 0 h1 (nF 0 0 h0 base)))) 41 true ⟨⟨[]⟩⟩ false (by kernel_rfl) w) (by unfold RP lD lS lI lZ lG lC lT; omega)
end Go.Proofs.YtpkbkmppkgeklaaDoor
namespace Go.Proofs.YtpkbkmppkgeklaaDoor
open Go.RowKit
set_option linter.unusedVariables false
theorem rr_6_00 (dst src imm size cond : Int) (b : UInt8) (bs : List UInt8) (w : World) (d1 : 0 ≤ dst) (d2 : dst ≤ 15) (s1 : 0 ≤ src) (s2 : src ≤ 15) (i1 : -2147483648 ≤ imm) (i2 : imm ≤ 2147483647) :
    Calls Tryd.prog 11 #[.agg #[.int .i64 6, .int .i64 dst, .int .i64 src, .int .i64 imm, .int .i64 size, .bool false, .int .i64 cond, .string ⟨⟨b :: bs⟩⟩]] w fun en w' => RightIs (RP 6 dst src imm size 0 cond 0) en ∧ Below w.heap.size w w' := by
  have base := rbase dst src imm size cond d1 d2 s1 s2 i1 i2
  by_cases h0 : src ≠ 0
  · exact fin_false (rr_of _ (nT 1 0 h0 base) 6 false ⟨⟨b :: bs⟩⟩ false (by kernel_rfl) w) (by unfold RP lD lS lI lZ lG lC lT; omega)
  · by_cases h1 : imm ≠ 0
    · exact fin_false (rr_of _ (nT 2 0 h1 (nF 1 0 h0 base)) 6 false ⟨⟨b :: bs⟩⟩ false (by kernel_rfl) w) (by unfold RP lD lS lI lZ lG lC lT; omega)
    · by_cases h2 : size ≠ 0
      · exact fin_false (rr_of _ (nT 3 0 h2 (nF 2 0 h1 (nF 1 0 h0 base))) 6 false ⟨⟨b :: bs⟩⟩ false (by kernel_rfl) w) (by unfold RP lD lS lI lZ lG lC lT; omega)
      · by_cases h3 : cond ≠ 0
        · exact fin_false (rr_of _ (nT 4 0 h3 (nF 3 0 h2 (nF 2 0 h1 (nF 1 0 h0 base)))) 6 false ⟨⟨b :: bs⟩⟩ false (by kernel_rfl) w) (by unfold RP lD lS lI lZ lG lC lT; omega)
        · exact fin_true (rr_of _ (nF 4 0 h3 (nF 3 0 h2 (nF 2 0 h1 (nF 1 0 h0 base)))) 6 false ⟨⟨b :: bs⟩⟩ true (by kernel_rfl) w) (by unfold RP lD lS lI lZ lG lC lT; omega)
theorem rr_6_01 (dst src imm size cond : Int) (w : World) (d1 : 0 ≤ dst) (d2 : dst ≤ 15) (s1 : 0 ≤ src) (s2 : src ≤ 15) (i1 : -2147483648 ≤ imm) (i2 : imm ≤ 2147483647) :
    Calls Tryd.prog 11 #[.agg #[.int .i64 6, .int .i64 dst, .int .i64 src, .int .i64 imm, .int .i64 size, .bool false, .int .i64 cond, .string ⟨⟨[]⟩⟩]] w fun en w' => RightIs (RP 6 dst src imm size 0 cond 1) en ∧ Below w.heap.size w w' := by
  have base := rbase dst src imm size cond d1 d2 s1 s2 i1 i2
  by_cases h0 : src ≠ 0
  · exact fin_false (rr_of _ (nT 1 0 h0 base) 6 false ⟨⟨[]⟩⟩ false (by kernel_rfl) w) (by unfold RP lD lS lI lZ lG lC lT; omega)
  · by_cases h1 : imm ≠ 0
    · exact fin_false (rr_of _ (nT 2 0 h1 (nF 1 0 h0 base)) 6 false ⟨⟨[]⟩⟩ false (by kernel_rfl) w) (by unfold RP lD lS lI lZ lG lC lT; omega)
    · by_cases h2 : size ≠ 0
      · exact fin_false (rr_of _ (nT 3 0 h2 (nF 2 0 h1 (nF 1 0 h0 base))) 6 false ⟨⟨[]⟩⟩ false (by kernel_rfl) w) (by unfold RP lD lS lI lZ lG lC lT; omega)
      · by_cases h3 : cond ≠ 0
        · exact fin_false (rr_of _ (nT 4 0 h3 (nF 3 0 h2 (nF 2 0 h1 (nF 1 0 h0 base)))) 6 false ⟨⟨[]⟩⟩ false (by kernel_rfl) w) (by unfold RP lD lS lI lZ lG lC lT; omega)
        · exact fin_true (rr_of _ (nF 4 0 h3 (nF 3 0 h2 (nF 2 0 h1 (nF 1 0 h0 base)))) 6 false ⟨⟨[]⟩⟩ true (by kernel_rfl) w) (by unfold RP lD lS lI lZ lG lC lT; omega)
theorem rr_6_10 (dst src imm size cond : Int) (b : UInt8) (bs : List UInt8) (w : World) (d1 : 0 ≤ dst) (d2 : dst ≤ 15) (s1 : 0 ≤ src) (s2 : src ≤ 15) (i1 : -2147483648 ≤ imm) (i2 : imm ≤ 2147483647) :
    Calls Tryd.prog 11 #[.agg #[.int .i64 6, .int .i64 dst, .int .i64 src, .int .i64 imm, .int .i64 size, .bool true, .int .i64 cond, .string ⟨⟨b :: bs⟩⟩]] w fun en w' => RightIs (RP 6 dst src imm size 1 cond 0) en ∧ Below w.heap.size w w' := by
  have base := rbase dst src imm size cond d1 d2 s1 s2 i1 i2
  by_cases h0 : src ≠ 0
  · exact fin_false (rr_of _ (nT 1 0 h0 base) 6 true ⟨⟨b :: bs⟩⟩ false (by kernel_rfl) w) (by unfold RP lD lS lI lZ lG lC lT; omega)
  · by_cases h1 : imm ≠ 0
    · exact fin_false (rr_of _ (nT 2 0 h1 (nF 1 0 h0 base)) 6 true ⟨⟨b :: bs⟩⟩ false (by kernel_rfl) w) (by unfold RP lD lS lI lZ lG lC lT; omega)
    · by_cases h2 : size ≠ 0
      · exact fin_false (rr_of _ (nT 3 0 h2 (nF 2 0 h1 (nF 1 0 h0 base))) 6 true ⟨⟨b :: bs⟩⟩ false (by kernel_rfl) w) (by unfold RP lD lS lI lZ lG lC lT; omega)
      · exact fin_false (rr_of _ (nF 3 0 h2 (nF 2 0 h1 (nF 1 0 h0 base))) 6 true ⟨⟨b :: bs⟩⟩ false (by kernel_rfl) w) (by unfold RP lD lS lI lZ lG lC lT; omega)
theorem rr_6_11 (dst src imm size cond : Int) (w : World) (d1 : 0 ≤ dst) (d2 : dst ≤ 15) (s1 : 0 ≤ src) (s2 : src ≤ 15) (i1 : -2147483648 ≤ imm) (i2 : imm ≤ 2147483647) :
    Calls Tryd.prog 11 #[.agg #[.int .i64 6, .int .i64 dst, .int .i64 src, .int .i64 imm, .int .i64 size, .bool true, .int .i64 cond, .string ⟨⟨[]⟩⟩]] w fun en w' => RightIs (RP 6 dst src imm size 1 cond 1) en ∧ Below w.heap.size w w' := by
  have base := rbase dst src imm size cond d1 d2 s1 s2 i1 i2
  by_cases h0 : src ≠ 0
  · exact fin_false (rr_of _ (nT 1 0 h0 base) 6 true ⟨⟨[]⟩⟩ false (by kernel_rfl) w) (by unfold RP lD lS lI lZ lG lC lT; omega)
  · by_cases h1 : imm ≠ 0
    · exact fin_false (rr_of _ (nT 2 0 h1 (nF 1 0 h0 base)) 6 true ⟨⟨[]⟩⟩ false (by kernel_rfl) w) (by unfold RP lD lS lI lZ lG lC lT; omega)
    · by_cases h2 : size ≠ 0
      · exact fin_false (rr_of _ (nT 3 0 h2 (nF 2 0 h1 (nF 1 0 h0 base))) 6 true ⟨⟨[]⟩⟩ false (by kernel_rfl) w) (by unfold RP lD lS lI lZ lG lC lT; omega)
      · exact fin_false (rr_of _ (nF 3 0 h2 (nF 2 0 h1 (nF 1 0 h0 base))) 6 true ⟨⟨[]⟩⟩ false (by kernel_rfl) w) (by unfold RP lD lS lI lZ lG lC lT; omega)
theorem rr_8_00 (dst src imm size cond : Int) (b : UInt8) (bs : List UInt8) (w : World) (d1 : 0 ≤ dst) (d2 : dst ≤ 15) (s1 : 0 ≤ src) (s2 : src ≤ 15) (i1 : -2147483648 ≤ imm) (i2 : imm ≤ 2147483647) :
    Calls Tryd.prog 11 #[.agg #[.int .i64 8, .int .i64 dst, .int .i64 src, .int .i64 imm, .int .i64 size, .bool false, .int .i64 cond, .string ⟨⟨b :: bs⟩⟩]] w fun en w' => RightIs (RP 8 dst src imm size 0 cond 0) en ∧ Below w.heap.size w w' := by
  have base := rbase dst src imm size cond d1 d2 s1 s2 i1 i2
  by_cases h0 : imm ≠ 0
  · exact fin_false (rr_of _ (nT 2 0 h0 base) 8 false ⟨⟨b :: bs⟩⟩ false (by kernel_rfl) w) (by unfold RP lD lS lI lZ lG lC lT; omega)
  · by_cases h1 : size ≠ 0
    · exact fin_false (rr_of _ (nT 3 0 h1 (nF 2 0 h0 base)) 8 false ⟨⟨b :: bs⟩⟩ false (by kernel_rfl) w) (by unfold RP lD lS lI lZ lG lC lT; omega)
    · by_cases h2 : cond ≠ 0
      · exact fin_false (rr_of _ (nT 4 0 h2 (nF 3 0 h1 (nF 2 0 h0 base))) 8 false ⟨⟨b :: bs⟩⟩ false (by kernel_rfl) w) (by unfold RP lD lS lI lZ lG lC lT; omega)
      · exact fin_false (rr_of _ (nF 4 0 h2 (nF 3 0 h1 (nF 2 0 h0 base))) 8 false ⟨⟨b :: bs⟩⟩ false (by kernel_rfl) w) (by unfold RP lD lS lI lZ lG lC lT; omega)
theorem rr_8_01 (dst src imm size cond : Int) (w : World) (d1 : 0 ≤ dst) (d2 : dst ≤ 15) (s1 : 0 ≤ src) (s2 : src ≤ 15) (i1 : -2147483648 ≤ imm) (i2 : imm ≤ 2147483647) :
    Calls Tryd.prog 11 #[.agg #[.int .i64 8, .int .i64 dst, .int .i64 src, .int .i64 imm, .int .i64 size, .bool false, .int .i64 cond, .string ⟨⟨[]⟩⟩]] w fun en w' => RightIs (RP 8 dst src imm size 0 cond 1) en ∧ Below w.heap.size w w' := by
  have base := rbase dst src imm size cond d1 d2 s1 s2 i1 i2
  by_cases h0 : imm ≠ 0
  · exact fin_false (rr_of _ (nT 2 0 h0 base) 8 false ⟨⟨[]⟩⟩ false (by kernel_rfl) w) (by unfold RP lD lS lI lZ lG lC lT; omega)
  · by_cases h1 : size ≠ 0
    · exact fin_false (rr_of _ (nT 3 0 h1 (nF 2 0 h0 base)) 8 false ⟨⟨[]⟩⟩ false (by kernel_rfl) w) (by unfold RP lD lS lI lZ lG lC lT; omega)
    · by_cases h2 : cond ≠ 0
      · exact fin_false (rr_of _ (nT 4 0 h2 (nF 3 0 h1 (nF 2 0 h0 base))) 8 false ⟨⟨[]⟩⟩ false (by kernel_rfl) w) (by unfold RP lD lS lI lZ lG lC lT; omega)
      · exact fin_true (rr_of _ (nF 4 0 h2 (nF 3 0 h1 (nF 2 0 h0 base))) 8 false ⟨⟨[]⟩⟩ true (by kernel_rfl) w) (by unfold RP lD lS lI lZ lG lC lT; omega)
theorem rr_8_10 (dst src imm size cond : Int) (b : UInt8) (bs : List UInt8) (w : World) (d1 : 0 ≤ dst) (d2 : dst ≤ 15) (s1 : 0 ≤ src) (s2 : src ≤ 15) (i1 : -2147483648 ≤ imm) (i2 : imm ≤ 2147483647) :
    Calls Tryd.prog 11 #[.agg #[.int .i64 8, .int .i64 dst, .int .i64 src, .int .i64 imm, .int .i64 size, .bool true, .int .i64 cond, .string ⟨⟨b :: bs⟩⟩]] w fun en w' => RightIs (RP 8 dst src imm size 1 cond 0) en ∧ Below w.heap.size w w' := by
  have base := rbase dst src imm size cond d1 d2 s1 s2 i1 i2
  by_cases h0 : imm ≠ 0
  · exact fin_false (rr_of _ (nT 2 0 h0 base) 8 true ⟨⟨b :: bs⟩⟩ false (by kernel_rfl) w) (by unfold RP lD lS lI lZ lG lC lT; omega)
  · by_cases h1 : size ≠ 0
    · exact fin_false (rr_of _ (nT 3 0 h1 (nF 2 0 h0 base)) 8 true ⟨⟨b :: bs⟩⟩ false (by kernel_rfl) w) (by unfold RP lD lS lI lZ lG lC lT; omega)
    · exact fin_false (rr_of _ (nF 3 0 h1 (nF 2 0 h0 base)) 8 true ⟨⟨b :: bs⟩⟩ false (by kernel_rfl) w) (by unfold RP lD lS lI lZ lG lC lT; omega)
theorem rr_8_11 (dst src imm size cond : Int) (w : World) (d1 : 0 ≤ dst) (d2 : dst ≤ 15) (s1 : 0 ≤ src) (s2 : src ≤ 15) (i1 : -2147483648 ≤ imm) (i2 : imm ≤ 2147483647) :
    Calls Tryd.prog 11 #[.agg #[.int .i64 8, .int .i64 dst, .int .i64 src, .int .i64 imm, .int .i64 size, .bool true, .int .i64 cond, .string ⟨⟨[]⟩⟩]] w fun en w' => RightIs (RP 8 dst src imm size 1 cond 1) en ∧ Below w.heap.size w w' := by
  have base := rbase dst src imm size cond d1 d2 s1 s2 i1 i2
  by_cases h0 : imm ≠ 0
  · exact fin_false (rr_of _ (nT 2 0 h0 base) 8 true ⟨⟨[]⟩⟩ false (by kernel_rfl) w) (by unfold RP lD lS lI lZ lG lC lT; omega)
  · by_cases h1 : size ≠ 0
    · exact fin_false (rr_of _ (nT 3 0 h1 (nF 2 0 h0 base)) 8 true ⟨⟨[]⟩⟩ false (by kernel_rfl) w) (by unfold RP lD lS lI lZ lG lC lT; omega)
    · exact fin_false (rr_of _ (nF 3 0 h1 (nF 2 0 h0 base)) 8 true ⟨⟨[]⟩⟩ false (by kernel_rfl) w) (by unfold RP lD lS lI lZ lG lC lT; omega)
theorem rr_16_00 (dst src imm size cond : Int) (b : UInt8) (bs : List UInt8) (w : World) (d1 : 0 ≤ dst) (d2 : dst ≤ 15) (s1 : 0 ≤ src) (s2 : src ≤ 15) (i1 : -2147483648 ≤ imm) (i2 : imm ≤ 2147483647) :
    Calls Tryd.prog 11 #[.agg #[.int .i64 16, .int .i64 dst, .int .i64 src, .int .i64 imm, .int .i64 size, .bool false, .int .i64 cond, .string ⟨⟨b :: bs⟩⟩]] w fun en w' => RightIs (RP 16 dst src imm size 0 cond 0) en ∧ Below w.heap.size w w' := by
  have base := rbase dst src imm size cond d1 d2 s1 s2 i1 i2
  by_cases h0 : src ≠ 0
  · exact fin_false (rr_of _ (nT 1 0 h0 base) 16 false ⟨⟨b :: bs⟩⟩ false (by kernel_rfl) w) (by unfold RP lD lS lI lZ lG lC lT; omega)
  · by_cases h1 : size ≠ 0
    · exact fin_false (rr_of _ (nT 3 0 h1 (nF 1 0 h0 base)) 16 false ⟨⟨b :: bs⟩⟩ false (by kernel_rfl) w) (by unfold RP lD lS lI lZ lG lC lT; omega)
    · by_cases h2 : cond ≠ 0
      · exact fin_false (rr_of _ (nT 4 0 h2 (nF 3 0 h1 (nF 1 0 h0 base))) 16 false ⟨⟨b :: bs⟩⟩ false (by kernel_rfl) w) (by unfold RP lD lS lI lZ lG lC lT; omega)
      · exact fin_false (rr_of _ (nF 4 0 h2 (nF 3 0 h1 (nF 1 0 h0 base))) 16 false ⟨⟨b :: bs⟩⟩ false (by kernel_rfl) w) (by unfold RP lD lS lI lZ lG lC lT; omega)
theorem rr_16_01 (dst src imm size cond : Int) (w : World) (d1 : 0 ≤ dst) (d2 : dst ≤ 15) (s1 : 0 ≤ src) (s2 : src ≤ 15) (i1 : -2147483648 ≤ imm) (i2 : imm ≤ 2147483647) :
    Calls Tryd.prog 11 #[.agg #[.int .i64 16, .int .i64 dst, .int .i64 src, .int .i64 imm, .int .i64 size, .bool false, .int .i64 cond, .string ⟨⟨[]⟩⟩]] w fun en w' => RightIs (RP 16 dst src imm size 0 cond 1) en ∧ Below w.heap.size w w' := by
  have base := rbase dst src imm size cond d1 d2 s1 s2 i1 i2
  by_cases h0 : src ≠ 0
  · exact fin_false (rr_of _ (nT 1 0 h0 base) 16 false ⟨⟨[]⟩⟩ false (by kernel_rfl) w) (by unfold RP lD lS lI lZ lG lC lT; omega)
  · by_cases h1 : size ≠ 0
    · exact fin_false (rr_of _ (nT 3 0 h1 (nF 1 0 h0 base)) 16 false ⟨⟨[]⟩⟩ false (by kernel_rfl) w) (by unfold RP lD lS lI lZ lG lC lT; omega)
    · by_cases h2 : cond ≠ 0
      · exact fin_false (rr_of _ (nT 4 0 h2 (nF 3 0 h1 (nF 1 0 h0 base))) 16 false ⟨⟨[]⟩⟩ false (by kernel_rfl) w) (by unfold RP lD lS lI lZ lG lC lT; omega)
      · exact fin_true (rr_of _ (nF 4 0 h2 (nF 3 0 h1 (nF 1 0 h0 base))) 16 false ⟨⟨[]⟩⟩ true (by kernel_rfl) w) (by unfold RP lD lS lI lZ lG lC lT; omega)
theorem rr_16_10 (dst src imm size cond : Int) (b : UInt8) (bs : List UInt8) (w : World) (d1 : 0 ≤ dst) (d2 : dst ≤ 15) (s1 : 0 ≤ src) (s2 : src ≤ 15) (i1 : -2147483648 ≤ imm) (i2 : imm ≤ 2147483647) :
    Calls Tryd.prog 11 #[.agg #[.int .i64 16, .int .i64 dst, .int .i64 src, .int .i64 imm, .int .i64 size, .bool true, .int .i64 cond, .string ⟨⟨b :: bs⟩⟩]] w fun en w' => RightIs (RP 16 dst src imm size 1 cond 0) en ∧ Below w.heap.size w w' := by
  have base := rbase dst src imm size cond d1 d2 s1 s2 i1 i2
  by_cases h0 : src ≠ 0
  · exact fin_false (rr_of _ (nT 1 0 h0 base) 16 true ⟨⟨b :: bs⟩⟩ false (by kernel_rfl) w) (by unfold RP lD lS lI lZ lG lC lT; omega)
  · by_cases h1 : size ≠ 0
    · exact fin_false (rr_of _ (nT 3 0 h1 (nF 1 0 h0 base)) 16 true ⟨⟨b :: bs⟩⟩ false (by kernel_rfl) w) (by unfold RP lD lS lI lZ lG lC lT; omega)
    · exact fin_false (rr_of _ (nF 3 0 h1 (nF 1 0 h0 base)) 16 true ⟨⟨b :: bs⟩⟩ false (by kernel_rfl) w) (by unfold RP lD lS lI lZ lG lC lT; omega)
theorem rr_16_11 (dst src imm size cond : Int) (w : World) (d1 : 0 ≤ dst) (d2 : dst ≤ 15) (s1 : 0 ≤ src) (s2 : src ≤ 15) (i1 : -2147483648 ≤ imm) (i2 : imm ≤ 2147483647) :
    Calls Tryd.prog 11 #[.agg #[.int .i64 16, .int .i64 dst, .int .i64 src, .int .i64 imm, .int .i64 size, .bool true, .int .i64 cond, .string ⟨⟨[]⟩⟩]] w fun en w' => RightIs (RP 16 dst src imm size 1 cond 1) en ∧ Below w.heap.size w w' := by
  have base := rbase dst src imm size cond d1 d2 s1 s2 i1 i2
  by_cases h0 : src ≠ 0
  · exact fin_false (rr_of _ (nT 1 0 h0 base) 16 true ⟨⟨[]⟩⟩ false (by kernel_rfl) w) (by unfold RP lD lS lI lZ lG lC lT; omega)
  · by_cases h1 : size ≠ 0
    · exact fin_false (rr_of _ (nT 3 0 h1 (nF 1 0 h0 base)) 16 true ⟨⟨[]⟩⟩ false (by kernel_rfl) w) (by unfold RP lD lS lI lZ lG lC lT; omega)
    · exact fin_false (rr_of _ (nF 3 0 h1 (nF 1 0 h0 base)) 16 true ⟨⟨[]⟩⟩ false (by kernel_rfl) w) (by unfold RP lD lS lI lZ lG lC lT; omega)
theorem rr_30_00 (dst src imm size cond : Int) (b : UInt8) (bs : List UInt8) (w : World) (d1 : 0 ≤ dst) (d2 : dst ≤ 15) (s1 : 0 ≤ src) (s2 : src ≤ 15) (i1 : -2147483648 ≤ imm) (i2 : imm ≤ 2147483647) :
    Calls Tryd.prog 11 #[.agg #[.int .i64 30, .int .i64 dst, .int .i64 src, .int .i64 imm, .int .i64 size, .bool false, .int .i64 cond, .string ⟨⟨b :: bs⟩⟩]] w fun en w' => RightIs (RP 30 dst src imm size 0 cond 0) en ∧ Below w.heap.size w w' := by
  have base := rbase dst src imm size cond d1 d2 s1 s2 i1 i2
  by_cases h0 : imm ≠ 0
  · exact fin_false (rr_of _ (nT 2 0 h0 base) 30 false ⟨⟨b :: bs⟩⟩ false (by kernel_rfl) w) (by unfold RP lD lS lI lZ lG lC lT; omega)
  · by_cases h1 : cond ≠ 0
    · exact fin_false (rr_of _ (nT 4 0 h1 (nF 2 0 h0 base)) 30 false ⟨⟨b :: bs⟩⟩ false (by kernel_rfl) w) (by unfold RP lD lS lI lZ lG lC lT; omega)
    · exact fin_false (rr_of _ (nF 4 0 h1 (nF 2 0 h0 base)) 30 false ⟨⟨b :: bs⟩⟩ false (by kernel_rfl) w) (by unfold RP lD lS lI lZ lG lC lT; omega)
theorem rr_30_01 (dst src imm size cond : Int) (w : World) (d1 : 0 ≤ dst) (d2 : dst ≤ 15) (s1 : 0 ≤ src) (s2 : src ≤ 15) (i1 : -2147483648 ≤ imm) (i2 : imm ≤ 2147483647) :
    Calls Tryd.prog 11 #[.agg #[.int .i64 30, .int .i64 dst, .int .i64 src, .int .i64 imm, .int .i64 size, .bool false, .int .i64 cond, .string ⟨⟨[]⟩⟩]] w fun en w' => RightIs (RP 30 dst src imm size 0 cond 1) en ∧ Below w.heap.size w w' := by
  have base := rbase dst src imm size cond d1 d2 s1 s2 i1 i2
  by_cases h0 : imm ≠ 0
  · exact fin_false (rr_of _ (nT 2 0 h0 base) 30 false ⟨⟨[]⟩⟩ false (by kernel_rfl) w) (by unfold RP lD lS lI lZ lG lC lT; omega)
  · by_cases h1 : cond ≠ 0
    · exact fin_false (rr_of _ (nT 4 0 h1 (nF 2 0 h0 base)) 30 false ⟨⟨[]⟩⟩ false (by kernel_rfl) w) (by unfold RP lD lS lI lZ lG lC lT; omega)
    · by_cases h2 : size ≠ 1
      · by_cases h3 : size ≠ 2
        · by_cases h4 : size ≠ 4
          · by_cases h5 : size ≠ 8
            · exact fin_false (rr_of _ (nT 3 8 h5 (nT 3 4 h4 (nT 3 2 h3 (nT 3 1 h2 (nF 4 0 h1 (nF 2 0 h0 base)))))) 30 false ⟨⟨[]⟩⟩ false (by kernel_rfl) w) (by unfold RP lD lS lI lZ lG lC lT; omega)
            · exact fin_false (rr_of _ (nF 3 8 h5 (nT 3 4 h4 (nT 3 2 h3 (nT 3 1 h2 (nF 4 0 h1 (nF 2 0 h0 base)))))) 30 false ⟨⟨[]⟩⟩ false (by kernel_rfl) w) (by unfold RP lD lS lI lZ lG lC lT; omega)
          · exact fin_true (rr_of _ (nF 3 4 h4 (nT 3 2 h3 (nT 3 1 h2 (nF 4 0 h1 (nF 2 0 h0 base))))) 30 false ⟨⟨[]⟩⟩ true (by kernel_rfl) w) (by unfold RP lD lS lI lZ lG lC lT; omega)
        · exact fin_true (rr_of _ (nF 3 2 h3 (nT 3 1 h2 (nF 4 0 h1 (nF 2 0 h0 base)))) 30 false ⟨⟨[]⟩⟩ true (by kernel_rfl) w) (by unfold RP lD lS lI lZ lG lC lT; omega)
      · exact fin_true (rr_of _ (nF 3 1 h2 (nF 4 0 h1 (nF 2 0 h0 base))) 30 false ⟨⟨[]⟩⟩ true (by kernel_rfl) w) (by unfold RP lD lS lI lZ lG lC lT; omega)
theorem rr_30_10 (dst src imm size cond : Int) (b : UInt8) (bs : List UInt8) (w : World) (d1 : 0 ≤ dst) (d2 : dst ≤ 15) (s1 : 0 ≤ src) (s2 : src ≤ 15) (i1 : -2147483648 ≤ imm) (i2 : imm ≤ 2147483647) :
    Calls Tryd.prog 11 #[.agg #[.int .i64 30, .int .i64 dst, .int .i64 src, .int .i64 imm, .int .i64 size, .bool true, .int .i64 cond, .string ⟨⟨b :: bs⟩⟩]] w fun en w' => RightIs (RP 30 dst src imm size 1 cond 0) en ∧ Below w.heap.size w w' := by
  have base := rbase dst src imm size cond d1 d2 s1 s2 i1 i2
  by_cases h0 : imm ≠ 0
  · exact fin_false (rr_of _ (nT 2 0 h0 base) 30 true ⟨⟨b :: bs⟩⟩ false (by kernel_rfl) w) (by unfold RP lD lS lI lZ lG lC lT; omega)
  · by_cases h1 : cond ≠ 0
    · exact fin_false (rr_of _ (nT 4 0 h1 (nF 2 0 h0 base)) 30 true ⟨⟨b :: bs⟩⟩ false (by kernel_rfl) w) (by unfold RP lD lS lI lZ lG lC lT; omega)
    · exact fin_false (rr_of _ (nF 4 0 h1 (nF 2 0 h0 base)) 30 true ⟨⟨b :: bs⟩⟩ false (by kernel_rfl) w) (by unfold RP lD lS lI lZ lG lC lT; omega)
theorem rr_30_11 (dst src imm size cond : Int) (w : World) (d1 : 0 ≤ dst) (d2 : dst ≤ 15) (s1 : 0 ≤ src) (s2 : src ≤ 15) (i1 : -2147483648 ≤ imm) (i2 : imm ≤ 2147483647) :
    Calls Tryd.prog 11 #[.agg #[.int .i64 30, .int .i64 dst, .int .i64 src, .int .i64 imm, .int .i64 size, .bool true, .int .i64 cond, .string ⟨⟨[]⟩⟩]] w fun en w' => RightIs (RP 30 dst src imm size 1 cond 1) en ∧ Below w.heap.size w w' := by
  have base := rbase dst src imm size cond d1 d2 s1 s2 i1 i2
  by_cases h0 : imm ≠ 0
  · exact fin_false (rr_of _ (nT 2 0 h0 base) 30 true ⟨⟨[]⟩⟩ false (by kernel_rfl) w) (by unfold RP lD lS lI lZ lG lC lT; omega)
  · by_cases h1 : cond ≠ 0
    · exact fin_false (rr_of _ (nT 4 0 h1 (nF 2 0 h0 base)) 30 true ⟨⟨[]⟩⟩ false (by kernel_rfl) w) (by unfold RP lD lS lI lZ lG lC lT; omega)
    · by_cases h2 : size ≠ 1
      · by_cases h3 : size ≠ 2
        · by_cases h4 : size ≠ 4
          · by_cases h5 : size ≠ 8
            · exact fin_false (rr_of _ (nT 3 8 h5 (nT 3 4 h4 (nT 3 2 h3 (nT 3 1 h2 (nF 4 0 h1 (nF 2 0 h0 base)))))) 30 true ⟨⟨[]⟩⟩ false (by kernel_rfl) w) (by unfold RP lD lS lI lZ lG lC lT; omega)
            · exact fin_false (rr_of _ (nF 3 8 h5 (nT 3 4 h4 (nT 3 2 h3 (nT 3 1 h2 (nF 4 0 h1 (nF 2 0 h0 base)))))) 30 true ⟨⟨[]⟩⟩ false (by kernel_rfl) w) (by unfold RP lD lS lI lZ lG lC lT; omega)
          · exact fin_true (rr_of _ (kn_cons (kn_eql 3 8 false (decide_eq_false (show ¬ (size = 8) by omega))) (nF 3 4 h4 (nT 3 2 h3 (nT 3 1 h2 (nF 4 0 h1 (nF 2 0 h0 base)))))) 30 true ⟨⟨[]⟩⟩ true (by kernel_rfl) w) (by unfold RP lD lS lI lZ lG lC lT; omega)
        · exact fin_true (rr_of _ (kn_cons (kn_eql 3 8 false (decide_eq_false (show ¬ (size = 8) by omega))) (nF 3 2 h3 (nT 3 1 h2 (nF 4 0 h1 (nF 2 0 h0 base))))) 30 true ⟨⟨[]⟩⟩ true (by kernel_rfl) w) (by unfold RP lD lS lI lZ lG lC lT; omega)
      · exact fin_true (rr_of _ (kn_cons (kn_eql 3 8 false (decide_eq_false (show ¬ (size = 8) by omega))) (nF 3 1 h2 (nF 4 0 h1 (nF 2 0 h0 base)))) 30 true ⟨⟨[]⟩⟩ true (by kernel_rfl) w) (by unfold RP lD lS lI lZ lG lC lT; omega)
theorem rr_37_00 (dst src imm size cond : Int) (b : UInt8) (bs : List UInt8) (w : World) (d1 : 0 ≤ dst) (d2 : dst ≤ 15) (s1 : 0 ≤ src) (s2 : src ≤ 15) (i1 : -2147483648 ≤ imm) (i2 : imm ≤ 2147483647) :
    Calls Tryd.prog 11 #[.agg #[.int .i64 37, .int .i64 dst, .int .i64 src, .int .i64 imm, .int .i64 size, .bool false, .int .i64 cond, .string ⟨⟨b :: bs⟩⟩]] w fun en w' => RightIs (RP 37 dst src imm size 0 cond 0) en ∧ Below w.heap.size w w' := by
  have base := rbase dst src imm size cond d1 d2 s1 s2 i1 i2
  by_cases h0 : src ≠ 0
  · exact fin_false (rr_of _ (nT 1 0 h0 base) 37 false ⟨⟨b :: bs⟩⟩ false (by kernel_rfl) w) (by unfold RP lD lS lI lZ lG lC lT; omega)
  · by_cases h1 : imm ≠ 0
    · exact fin_false (rr_of _ (nT 2 0 h1 (nF 1 0 h0 base)) 37 false ⟨⟨b :: bs⟩⟩ false (by kernel_rfl) w) (by unfold RP lD lS lI lZ lG lC lT; omega)
    · by_cases h2 : size ≠ 0
      · exact fin_false (rr_of _ (nT 3 0 h2 (nF 2 0 h1 (nF 1 0 h0 base))) 37 false ⟨⟨b :: bs⟩⟩ false (by kernel_rfl) w) (by unfold RP lD lS lI lZ lG lC lT; omega)
      · by_cases h3 : cond ≠ 0
        · exact fin_false (rr_of _ (nT 4 0 h3 (nF 3 0 h2 (nF 2 0 h1 (nF 1 0 h0 base)))) 37 false ⟨⟨b :: bs⟩⟩ false (by kernel_rfl) w) (by unfold RP lD lS lI lZ lG lC lT; omega)
        · exact fin_false (rr_of _ (nF 4 0 h3 (nF 3 0 h2 (nF 2 0 h1 (nF 1 0 h0 base)))) 37 false ⟨⟨b :: bs⟩⟩ false (by kernel_rfl) w) (by unfold RP lD lS lI lZ lG lC lT; omega)
theorem rr_37_01 (dst src imm size cond : Int) (w : World) (d1 : 0 ≤ dst) (d2 : dst ≤ 15) (s1 : 0 ≤ src) (s2 : src ≤ 15) (i1 : -2147483648 ≤ imm) (i2 : imm ≤ 2147483647) :
    Calls Tryd.prog 11 #[.agg #[.int .i64 37, .int .i64 dst, .int .i64 src, .int .i64 imm, .int .i64 size, .bool false, .int .i64 cond, .string ⟨⟨[]⟩⟩]] w fun en w' => RightIs (RP 37 dst src imm size 0 cond 1) en ∧ Below w.heap.size w w' := by
  have base := rbase dst src imm size cond d1 d2 s1 s2 i1 i2
  by_cases h0 : src ≠ 0
  · exact fin_false (rr_of _ (nT 1 0 h0 base) 37 false ⟨⟨[]⟩⟩ false (by kernel_rfl) w) (by unfold RP lD lS lI lZ lG lC lT; omega)
  · by_cases h1 : imm ≠ 0
    · exact fin_false (rr_of _ (nT 2 0 h1 (nF 1 0 h0 base)) 37 false ⟨⟨[]⟩⟩ false (by kernel_rfl) w) (by unfold RP lD lS lI lZ lG lC lT; omega)
    · by_cases h2 : size ≠ 0
      · exact fin_false (rr_of _ (nT 3 0 h2 (nF 2 0 h1 (nF 1 0 h0 base))) 37 false ⟨⟨[]⟩⟩ false (by kernel_rfl) w) (by unfold RP lD lS lI lZ lG lC lT; omega)
      · by_cases h3 : cond ≠ 0
        · exact fin_false (rr_of _ (nT 4 0 h3 (nF 3 0 h2 (nF 2 0 h1 (nF 1 0 h0 base)))) 37 false ⟨⟨[]⟩⟩ false (by kernel_rfl) w) (by unfold RP lD lS lI lZ lG lC lT; omega)
        · exact fin_true (rr_of _ (nF 4 0 h3 (nF 3 0 h2 (nF 2 0 h1 (nF 1 0 h0 base)))) 37 false ⟨⟨[]⟩⟩ true (by kernel_rfl) w) (by unfold RP lD lS lI lZ lG lC lT; omega)
theorem rr_37_10 (dst src imm size cond : Int) (b : UInt8) (bs : List UInt8) (w : World) (d1 : 0 ≤ dst) (d2 : dst ≤ 15) (s1 : 0 ≤ src) (s2 : src ≤ 15) (i1 : -2147483648 ≤ imm) (i2 : imm ≤ 2147483647) :
    Calls Tryd.prog 11 #[.agg #[.int .i64 37, .int .i64 dst, .int .i64 src, .int .i64 imm, .int .i64 size, .bool true, .int .i64 cond, .string ⟨⟨b :: bs⟩⟩]] w fun en w' => RightIs (RP 37 dst src imm size 1 cond 0) en ∧ Below w.heap.size w w' := by
  have base := rbase dst src imm size cond d1 d2 s1 s2 i1 i2
  by_cases h0 : src ≠ 0
  · exact fin_false (rr_of _ (nT 1 0 h0 base) 37 true ⟨⟨b :: bs⟩⟩ false (by kernel_rfl) w) (by unfold RP lD lS lI lZ lG lC lT; omega)
  · by_cases h1 : imm ≠ 0
    · exact fin_false (rr_of _ (nT 2 0 h1 (nF 1 0 h0 base)) 37 true ⟨⟨b :: bs⟩⟩ false (by kernel_rfl) w) (by unfold RP lD lS lI lZ lG lC lT; omega)
    · by_cases h2 : size ≠ 0
      · exact fin_false (rr_of _ (nT 3 0 h2 (nF 2 0 h1 (nF 1 0 h0 base))) 37 true ⟨⟨b :: bs⟩⟩ false (by kernel_rfl) w) (by unfold RP lD lS lI lZ lG lC lT; omega)
      · exact fin_false (rr_of _ (nF 3 0 h2 (nF 2 0 h1 (nF 1 0 h0 base))) 37 true ⟨⟨b :: bs⟩⟩ false (by kernel_rfl) w) (by unfold RP lD lS lI lZ lG lC lT; omega)
theorem rr_37_11 (dst src imm size cond : Int) (w : World) (d1 : 0 ≤ dst) (d2 : dst ≤ 15) (s1 : 0 ≤ src) (s2 : src ≤ 15) (i1 : -2147483648 ≤ imm) (i2 : imm ≤ 2147483647) :
    Calls Tryd.prog 11 #[.agg #[.int .i64 37, .int .i64 dst, .int .i64 src, .int .i64 imm, .int .i64 size, .bool true, .int .i64 cond, .string ⟨⟨[]⟩⟩]] w fun en w' => RightIs (RP 37 dst src imm size 1 cond 1) en ∧ Below w.heap.size w w' := by
  have base := rbase dst src imm size cond d1 d2 s1 s2 i1 i2
  by_cases h0 : src ≠ 0
  · exact fin_false (rr_of _ (nT 1 0 h0 base) 37 true ⟨⟨[]⟩⟩ false (by kernel_rfl) w) (by unfold RP lD lS lI lZ lG lC lT; omega)
  · by_cases h1 : imm ≠ 0
    · exact fin_false (rr_of _ (nT 2 0 h1 (nF 1 0 h0 base)) 37 true ⟨⟨[]⟩⟩ false (by kernel_rfl) w) (by unfold RP lD lS lI lZ lG lC lT; omega)
    · by_cases h2 : size ≠ 0
      · exact fin_false (rr_of _ (nT 3 0 h2 (nF 2 0 h1 (nF 1 0 h0 base))) 37 true ⟨⟨[]⟩⟩ false (by kernel_rfl) w) (by unfold RP lD lS lI lZ lG lC lT; omega)
      · exact fin_false (rr_of _ (nF 3 0 h2 (nF 2 0 h1 (nF 1 0 h0 base))) 37 true ⟨⟨[]⟩⟩ false (by kernel_rfl) w) (by unfold RP lD lS lI lZ lG lC lT; omega)
end Go.Proofs.YtpkbkmppkgeklaaDoor
