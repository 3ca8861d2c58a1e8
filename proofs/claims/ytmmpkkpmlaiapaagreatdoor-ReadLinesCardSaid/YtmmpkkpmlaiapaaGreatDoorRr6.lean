/- The document's Right, run: operations 1, 7, 15, 31, 41. The document's Right, run: operations 6, 8, 16, 30, 37. No condition. -/
import Derived.Test.YtmmpkkpmlaiapaaGreatDoorQg
namespace Go.Proofs.YtmmpkkpmlaiapaaGreatDoor
open Go.RowKit
set_option linter.unusedVariables false
theorem rr_1_00 (dst src imm size cond : Int) (b : UInt8) (bs : List UInt8) (w : World) (d1 : 0 ≤ dst) (d2 : dst ≤ 15) (s1 : 0 ≤ src) (s2 : src ≤ 15) (i1 : -2147483648 ≤ imm) (i2 : imm ≤ 2147483647) :
    RrG 1 dst src imm size cond 0 0 false ⟨⟨b :: bs⟩⟩ w := by
  have base := rbase dst src imm size cond d1 d2 s1 s2 i1 i2
  by_cases h0 : imm ≠ 0
  · exact rz0 (nT 2 0 h0 base)
  · by_cases h1 : size ≠ 0
    · exact rz0 (nT 3 0 h1 (nF 2 0 h0 base))
    · by_cases h2 : cond ≠ 0
      · exact rz0 (nT 4 0 h2 (nF 3 0 h1 (nF 2 0 h0 base)))
      · exact rz0 (nF 4 0 h2 (nF 3 0 h1 (nF 2 0 h0 base)))
theorem rr_1_01 (dst src imm size cond : Int) (w : World) (d1 : 0 ≤ dst) (d2 : dst ≤ 15) (s1 : 0 ≤ src) (s2 : src ≤ 15) (i1 : -2147483648 ≤ imm) (i2 : imm ≤ 2147483647) :
    RrG 1 dst src imm size cond 0 1 false ⟨⟨[]⟩⟩ w := by
  have base := rbase dst src imm size cond d1 d2 s1 s2 i1 i2
  by_cases h0 : imm ≠ 0
  · exact rz0 (nT 2 0 h0 base)
  · by_cases h1 : size ≠ 0
    · exact rz0 (nT 3 0 h1 (nF 2 0 h0 base))
    · by_cases h2 : cond ≠ 0
      · exact rz0 (nT 4 0 h2 (nF 3 0 h1 (nF 2 0 h0 base)))
      · exact rz1 (nF 4 0 h2 (nF 3 0 h1 (nF 2 0 h0 base)))
theorem rr_1_10 (dst src imm size cond : Int) (b : UInt8) (bs : List UInt8) (w : World) (d1 : 0 ≤ dst) (d2 : dst ≤ 15) (s1 : 0 ≤ src) (s2 : src ≤ 15) (i1 : -2147483648 ≤ imm) (i2 : imm ≤ 2147483647) :
    RrG 1 dst src imm size cond 1 0 true ⟨⟨b :: bs⟩⟩ w := by
  have base := rbase dst src imm size cond d1 d2 s1 s2 i1 i2
  by_cases h0 : imm ≠ 0
  · exact rz0 (nT 2 0 h0 base)
  · by_cases h1 : size ≠ 0
    · exact rz0 (nT 3 0 h1 (nF 2 0 h0 base))
    · exact rz0 (nF 3 0 h1 (nF 2 0 h0 base))
theorem rr_1_11 (dst src imm size cond : Int) (w : World) (d1 : 0 ≤ dst) (d2 : dst ≤ 15) (s1 : 0 ≤ src) (s2 : src ≤ 15) (i1 : -2147483648 ≤ imm) (i2 : imm ≤ 2147483647) :
    RrG 1 dst src imm size cond 1 1 true ⟨⟨[]⟩⟩ w := by
  have base := rbase dst src imm size cond d1 d2 s1 s2 i1 i2
  by_cases h0 : imm ≠ 0
  · exact rz0 (nT 2 0 h0 base)
  · by_cases h1 : size ≠ 0
    · exact rz0 (nT 3 0 h1 (nF 2 0 h0 base))
    · exact rz0 (nF 3 0 h1 (nF 2 0 h0 base))
theorem rr_7_00 (dst src imm size cond : Int) (b : UInt8) (bs : List UInt8) (w : World) (d1 : 0 ≤ dst) (d2 : dst ≤ 15) (s1 : 0 ≤ src) (s2 : src ≤ 15) (i1 : -2147483648 ≤ imm) (i2 : imm ≤ 2147483647) :
    RrG 7 dst src imm size cond 0 0 false ⟨⟨b :: bs⟩⟩ w := by
  have base := rbase dst src imm size cond d1 d2 s1 s2 i1 i2
  by_cases h0 : imm ≠ 0
  · exact rz0 (nT 2 0 h0 base)
  · by_cases h1 : size ≠ 0
    · exact rz0 (nT 3 0 h1 (nF 2 0 h0 base))
    · by_cases h2 : cond ≠ 0
      · exact rz0 (nT 4 0 h2 (nF 3 0 h1 (nF 2 0 h0 base)))
      · exact rz0 (nF 4 0 h2 (nF 3 0 h1 (nF 2 0 h0 base)))
theorem rr_7_01 (dst src imm size cond : Int) (w : World) (d1 : 0 ≤ dst) (d2 : dst ≤ 15) (s1 : 0 ≤ src) (s2 : src ≤ 15) (i1 : -2147483648 ≤ imm) (i2 : imm ≤ 2147483647) :
    RrG 7 dst src imm size cond 0 1 false ⟨⟨[]⟩⟩ w := by
  have base := rbase dst src imm size cond d1 d2 s1 s2 i1 i2
  by_cases h0 : imm ≠ 0
  · exact rz0 (nT 2 0 h0 base)
  · by_cases h1 : size ≠ 0
    · exact rz0 (nT 3 0 h1 (nF 2 0 h0 base))
    · by_cases h2 : cond ≠ 0
      · exact rz0 (nT 4 0 h2 (nF 3 0 h1 (nF 2 0 h0 base)))
      · exact rz1 (nF 4 0 h2 (nF 3 0 h1 (nF 2 0 h0 base)))
theorem rr_7_10 (dst src imm size cond : Int) (b : UInt8) (bs : List UInt8) (w : World) (d1 : 0 ≤ dst) (d2 : dst ≤ 15) (s1 : 0 ≤ src) (s2 : src ≤ 15) (i1 : -2147483648 ≤ imm) (i2 : imm ≤ 2147483647) :
    RrG 7 dst src imm size cond 1 0 true ⟨⟨b :: bs⟩⟩ w := by
  have base := rbase dst src imm size cond d1 d2 s1 s2 i1 i2
  by_cases h0 : imm ≠ 0
  · exact rz0 (nT 2 0 h0 base)
  · by_cases h1 : size ≠ 0
    · exact rz0 (nT 3 0 h1 (nF 2 0 h0 base))
    · exact rz0 (nF 3 0 h1 (nF 2 0 h0 base))
theorem rr_7_11 (dst src imm size cond : Int) (w : World) (d1 : 0 ≤ dst) (d2 : dst ≤ 15) (s1 : 0 ≤ src) (s2 : src ≤ 15) (i1 : -2147483648 ≤ imm) (i2 : imm ≤ 2147483647) :
    RrG 7 dst src imm size cond 1 1 true ⟨⟨[]⟩⟩ w := by
  have base := rbase dst src imm size cond d1 d2 s1 s2 i1 i2
  by_cases h0 : imm ≠ 0
  · exact rz0 (nT 2 0 h0 base)
  · by_cases h1 : size ≠ 0
    · exact rz0 (nT 3 0 h1 (nF 2 0 h0 base))
    · exact rz0 (nF 3 0 h1 (nF 2 0 h0 base))
theorem rr_15_00 (dst src imm size cond : Int) (b : UInt8) (bs : List UInt8) (w : World) (d1 : 0 ≤ dst) (d2 : dst ≤ 15) (s1 : 0 ≤ src) (s2 : src ≤ 15) (i1 : -2147483648 ≤ imm) (i2 : imm ≤ 2147483647) :
    RrG 15 dst src imm size cond 0 0 false ⟨⟨b :: bs⟩⟩ w := by
  have base := rbase dst src imm size cond d1 d2 s1 s2 i1 i2
  by_cases h0 : src ≠ 0
  · exact rz0 (nT 1 0 h0 base)
  · by_cases h1 : size ≠ 0
    · exact rz0 (nT 3 0 h1 (nF 1 0 h0 base))
    · by_cases h2 : cond ≠ 0
      · exact rz0 (nT 4 0 h2 (nF 3 0 h1 (nF 1 0 h0 base)))
      · exact rz0 (nF 4 0 h2 (nF 3 0 h1 (nF 1 0 h0 base)))
theorem rr_15_01 (dst src imm size cond : Int) (w : World) (d1 : 0 ≤ dst) (d2 : dst ≤ 15) (s1 : 0 ≤ src) (s2 : src ≤ 15) (i1 : -2147483648 ≤ imm) (i2 : imm ≤ 2147483647) :
    RrG 15 dst src imm size cond 0 1 false ⟨⟨[]⟩⟩ w := by
  have base := rbase dst src imm size cond d1 d2 s1 s2 i1 i2
  by_cases h0 : src ≠ 0
  · exact rz0 (nT 1 0 h0 base)
  · by_cases h1 : size ≠ 0
    · exact rz0 (nT 3 0 h1 (nF 1 0 h0 base))
    · by_cases h2 : cond ≠ 0
      · exact rz0 (nT 4 0 h2 (nF 3 0 h1 (nF 1 0 h0 base)))
      · exact rz1 (nF 4 0 h2 (nF 3 0 h1 (nF 1 0 h0 base)))
theorem rr_15_10 (dst src imm size cond : Int) (b : UInt8) (bs : List UInt8) (w : World) (d1 : 0 ≤ dst) (d2 : dst ≤ 15) (s1 : 0 ≤ src) (s2 : src ≤ 15) (i1 : -2147483648 ≤ imm) (i2 : imm ≤ 2147483647) :
    RrG 15 dst src imm size cond 1 0 true ⟨⟨b :: bs⟩⟩ w := by
  have base := rbase dst src imm size cond d1 d2 s1 s2 i1 i2
  by_cases h0 : src ≠ 0
  · exact rz0 (nT 1 0 h0 base)
  · by_cases h1 : size ≠ 0
    · exact rz0 (nT 3 0 h1 (nF 1 0 h0 base))
    · exact rz0 (nF 3 0 h1 (nF 1 0 h0 base))
theorem rr_15_11 (dst src imm size cond : Int) (w : World) (d1 : 0 ≤ dst) (d2 : dst ≤ 15) (s1 : 0 ≤ src) (s2 : src ≤ 15) (i1 : -2147483648 ≤ imm) (i2 : imm ≤ 2147483647) :
    RrG 15 dst src imm size cond 1 1 true ⟨⟨[]⟩⟩ w := by
  have base := rbase dst src imm size cond d1 d2 s1 s2 i1 i2
  by_cases h0 : src ≠ 0
  · exact rz0 (nT 1 0 h0 base)
  · by_cases h1 : size ≠ 0
    · exact rz0 (nT 3 0 h1 (nF 1 0 h0 base))
    · exact rz0 (nF 3 0 h1 (nF 1 0 h0 base))
theorem rr_31_00 (dst src imm size cond : Int) (b : UInt8) (bs : List UInt8) (w : World) (d1 : 0 ≤ dst) (d2 : dst ≤ 15) (s1 : 0 ≤ src) (s2 : src ≤ 15) (i1 : -2147483648 ≤ imm) (i2 : imm ≤ 2147483647) :
    RrG 31 dst src imm size cond 0 0 false ⟨⟨b :: bs⟩⟩ w := by
  have base := rbase dst src imm size cond d1 d2 s1 s2 i1 i2
  by_cases h0 : src ≠ 0
  · exact rz0 (nT 1 0 h0 base)
  · by_cases h1 : imm ≠ 0
    · exact rz0 (nT 2 0 h1 (nF 1 0 h0 base))
    · by_cases h2 : size ≠ 0
      · exact rz0 (nT 3 0 h2 (nF 2 0 h1 (nF 1 0 h0 base)))
      · exact rz0 (nF 3 0 h2 (nF 2 0 h1 (nF 1 0 h0 base)))
theorem rr_31_01 (dst src imm size cond : Int) (w : World) (d1 : 0 ≤ dst) (d2 : dst ≤ 15) (s1 : 0 ≤ src) (s2 : src ≤ 15) (i1 : -2147483648 ≤ imm) (i2 : imm ≤ 2147483647) :
    RrG 31 dst src imm size cond 0 1 false ⟨⟨[]⟩⟩ w := by
  have base := rbase dst src imm size cond d1 d2 s1 s2 i1 i2
  by_cases h0 : src ≠ 0
  · exact rz0 (nT 1 0 h0 base)
  · by_cases h1 : imm ≠ 0
    · exact rz0 (nT 2 0 h1 (nF 1 0 h0 base))
    · by_cases h2 : size ≠ 0
      · exact rz0 (nT 3 0 h2 (nF 2 0 h1 (nF 1 0 h0 base)))
      · by_cases h3 : cond < 0
        · exact rz0 (kn_cons (kn_lss 4 0 true (decide_eq_true (h3))) (nF 3 0 h2 (nF 2 0 h1 (nF 1 0 h0 base))))
        · by_cases h4 : cond > 9
          · exact rz0 (kn_cons (kn_gtr 4 9 true (decide_eq_true (h4))) (kn_cons (kn_lss 4 0 false (decide_eq_false (h3))) (nF 3 0 h2 (nF 2 0 h1 (nF 1 0 h0 base)))))
          · exact rz1 (kn_cons (kn_gtr 4 9 false (decide_eq_false (h4))) (kn_cons (kn_lss 4 0 false (decide_eq_false (h3))) (nF 3 0 h2 (nF 2 0 h1 (nF 1 0 h0 base)))))
theorem rr_31_10 (dst src imm size cond : Int) (b : UInt8) (bs : List UInt8) (w : World) (d1 : 0 ≤ dst) (d2 : dst ≤ 15) (s1 : 0 ≤ src) (s2 : src ≤ 15) (i1 : -2147483648 ≤ imm) (i2 : imm ≤ 2147483647) :
    RrG 31 dst src imm size cond 1 0 true ⟨⟨b :: bs⟩⟩ w := by
  have base := rbase dst src imm size cond d1 d2 s1 s2 i1 i2
  by_cases h0 : src ≠ 0
  · exact rz0 (nT 1 0 h0 base)
  · by_cases h1 : imm ≠ 0
    · exact rz0 (nT 2 0 h1 (nF 1 0 h0 base))
    · by_cases h2 : size ≠ 0
      · exact rz0 (nT 3 0 h2 (nF 2 0 h1 (nF 1 0 h0 base)))
      · exact rz0 (nF 3 0 h2 (nF 2 0 h1 (nF 1 0 h0 base)))
theorem rr_31_11 (dst src imm size cond : Int) (w : World) (d1 : 0 ≤ dst) (d2 : dst ≤ 15) (s1 : 0 ≤ src) (s2 : src ≤ 15) (i1 : -2147483648 ≤ imm) (i2 : imm ≤ 2147483647) :
    RrG 31 dst src imm size cond 1 1 true ⟨⟨[]⟩⟩ w := by
  have base := rbase dst src imm size cond d1 d2 s1 s2 i1 i2
  by_cases h0 : src ≠ 0
  · exact rz0 (nT 1 0 h0 base)
  · by_cases h1 : imm ≠ 0
    · exact rz0 (nT 2 0 h1 (nF 1 0 h0 base))
    · by_cases h2 : size ≠ 0
      · exact rz0 (nT 3 0 h2 (nF 2 0 h1 (nF 1 0 h0 base)))
      · exact rz0 (nF 3 0 h2 (nF 2 0 h1 (nF 1 0 h0 base)))
theorem rr_41_00 (dst src imm size cond : Int) (b : UInt8) (bs : List UInt8) (w : World) (d1 : 0 ≤ dst) (d2 : dst ≤ 15) (s1 : 0 ≤ src) (s2 : src ≤ 15) (i1 : -2147483648 ≤ imm) (i2 : imm ≤ 2147483647) :
    RrG 41 dst src imm size cond 0 0 false ⟨⟨b :: bs⟩⟩ w := by
  have base := rbase dst src imm size cond d1 d2 s1 s2 i1 i2
  by_cases h0 : dst ≠ 0
  · exact rz0 (nT 0 0 h0 base)
  · by_cases h1 : src ≠ 0
    · exact rz0 (nT 1 0 h1 (nF 0 0 h0 base))
    · by_cases h2 : imm ≠ 0
      · exact rz0 (nT 2 0 h2 (nF 1 0 h1 (nF 0 0 h0 base)))
      · by_cases h3 : size ≠ 0
        · exact rz0 (nT 3 0 h3 (nF 2 0 h2 (nF 1 0 h1 (nF 0 0 h0 base))))
        · by_cases h4 : cond ≠ 0
          · exact rz0 (nT 4 0 h4 (nF 3 0 h3 (nF 2 0 h2 (nF 1 0 h1 (nF 0 0 h0 base)))))
          · exact rz0 (nF 4 0 h4 (nF 3 0 h3 (nF 2 0 h2 (nF 1 0 h1 (nF 0 0 h0 base)))))
theorem rr_41_01 (dst src imm size cond : Int) (w : World) (d1 : 0 ≤ dst) (d2 : dst ≤ 15) (s1 : 0 ≤ src) (s2 : src ≤ 15) (i1 : -2147483648 ≤ imm) (i2 : imm ≤ 2147483647) :
    RrG 41 dst src imm size cond 0 1 false ⟨⟨[]⟩⟩ w := by
  have base := rbase dst src imm size cond d1 d2 s1 s2 i1 i2
  by_cases h0 : dst ≠ 0
  · exact rz0 (nT 0 0 h0 base)
  · by_cases h1 : src ≠ 0
    · exact rz0 (nT 1 0 h1 (nF 0 0 h0 base))
    · by_cases h2 : imm ≠ 0
      · exact rz0 (nT 2 0 h2 (nF 1 0 h1 (nF 0 0 h0 base)))
      · by_cases h3 : size ≠ 0
        · exact rz0 (nT 3 0 h3 (nF 2 0 h2 (nF 1 0 h1 (nF 0 0 h0 base))))
        · by_cases h4 : cond ≠ 0
          · exact rz0 (nT 4 0 h4 (nF 3 0 h3 (nF 2 0 h2 (nF 1 0 h1 (nF 0 0 h0 base)))))
          · exact rz1 (nF 4 0 h4 (nF 3 0 h3 (nF 2 0 h2 (nF 1 0 h1 (nF 0 0 h0 base)))))
theorem rr_41_10 (dst src imm size cond : Int) (b : UInt8) (bs : List UInt8) (w : World) (d1 : 0 ≤ dst) (d2 : dst ≤ 15) (s1 : 0 ≤ src) (s2 : src ≤ 15) (i1 : -2147483648 ≤ imm) (i2 : imm ≤ 2147483647) :
    RrG 41 dst src imm size cond 1 0 true ⟨⟨b :: bs⟩⟩ w := by
  have base := rbase dst src imm size cond d1 d2 s1 s2 i1 i2
  by_cases h0 : dst ≠ 0
  · exact rz0 (nT 0 0 h0 base)
  · by_cases h1 : src ≠ 0
    · exact rz0 (nT 1 0 h1 (nF 0 0 h0 base))
    · by_cases h2 : imm ≠ 0
      · exact rz0 (nT 2 0 h2 (nF 1 0 h1 (nF 0 0 h0 base)))
      · by_cases h3 : size ≠ 0
        · exact rz0 (nT 3 0 h3 (nF 2 0 h2 (nF 1 0 h1 (nF 0 0 h0 base))))
        · exact rz0 (nF 3 0 h3 (nF 2 0 h2 (nF 1 0 h1 (nF 0 0 h0 base))))
theorem rr_41_11 (dst src imm size cond : Int) (w : World) (d1 : 0 ≤ dst) (d2 : dst ≤ 15) (s1 : 0 ≤ src) (s2 : src ≤ 15) (i1 : -2147483648 ≤ imm) (i2 : imm ≤ 2147483647) :
    RrG 41 dst src imm size cond 1 1 true ⟨⟨[]⟩⟩ w := by
  have base := rbase dst src imm size cond d1 d2 s1 s2 i1 i2
  by_cases h0 : dst ≠ 0
  · exact rz0 (nT 0 0 h0 base)
  · by_cases h1 : src ≠ 0
    · exact rz0 (nT 1 0 h1 (nF 0 0 h0 base))
    · by_cases h2 : imm ≠ 0
      · exact rz0 (nT 2 0 h2 (nF 1 0 h1 (nF 0 0 h0 base)))
      · by_cases h3 : size ≠ 0
        · exact rz0 (nT 3 0 h3 (nF 2 0 h2 (nF 1 0 h1 (nF 0 0 h0 base))))
        · exact rz0 (nF 3 0 h3 (nF 2 0 h2 (nF 1 0 h1 (nF 0 0 h0 base))))
end Go.Proofs.YtmmpkkpmlaiapaaGreatDoor
namespace Go.Proofs.YtmmpkkpmlaiapaaGreatDoor
open Go.RowKit
set_option linter.unusedVariables false
theorem rr_6_00 (dst src imm size cond : Int) (b : UInt8) (bs : List UInt8) (w : World) (d1 : 0 ≤ dst) (d2 : dst ≤ 15) (s1 : 0 ≤ src) (s2 : src ≤ 15) (i1 : -2147483648 ≤ imm) (i2 : imm ≤ 2147483647) :
    RrG 6 dst src imm size cond 0 0 false ⟨⟨b :: bs⟩⟩ w := by
  have base := rbase dst src imm size cond d1 d2 s1 s2 i1 i2
  by_cases h0 : src ≠ 0
  · exact rz0 (nT 1 0 h0 base)
  · by_cases h1 : imm ≠ 0
    · exact rz0 (nT 2 0 h1 (nF 1 0 h0 base))
    · by_cases h2 : size ≠ 0
      · exact rz0 (nT 3 0 h2 (nF 2 0 h1 (nF 1 0 h0 base)))
      · by_cases h3 : cond ≠ 0
        · exact rz0 (nT 4 0 h3 (nF 3 0 h2 (nF 2 0 h1 (nF 1 0 h0 base))))
        · exact rz1 (nF 4 0 h3 (nF 3 0 h2 (nF 2 0 h1 (nF 1 0 h0 base))))
theorem rr_6_01 (dst src imm size cond : Int) (w : World) (d1 : 0 ≤ dst) (d2 : dst ≤ 15) (s1 : 0 ≤ src) (s2 : src ≤ 15) (i1 : -2147483648 ≤ imm) (i2 : imm ≤ 2147483647) :
    RrG 6 dst src imm size cond 0 1 false ⟨⟨[]⟩⟩ w := by
  have base := rbase dst src imm size cond d1 d2 s1 s2 i1 i2
  by_cases h0 : src ≠ 0
  · exact rz0 (nT 1 0 h0 base)
  · by_cases h1 : imm ≠ 0
    · exact rz0 (nT 2 0 h1 (nF 1 0 h0 base))
    · by_cases h2 : size ≠ 0
      · exact rz0 (nT 3 0 h2 (nF 2 0 h1 (nF 1 0 h0 base)))
      · by_cases h3 : cond ≠ 0
        · exact rz0 (nT 4 0 h3 (nF 3 0 h2 (nF 2 0 h1 (nF 1 0 h0 base))))
        · exact rz1 (nF 4 0 h3 (nF 3 0 h2 (nF 2 0 h1 (nF 1 0 h0 base))))
theorem rr_6_10 (dst src imm size cond : Int) (b : UInt8) (bs : List UInt8) (w : World) (d1 : 0 ≤ dst) (d2 : dst ≤ 15) (s1 : 0 ≤ src) (s2 : src ≤ 15) (i1 : -2147483648 ≤ imm) (i2 : imm ≤ 2147483647) :
    RrG 6 dst src imm size cond 1 0 true ⟨⟨b :: bs⟩⟩ w := by
  have base := rbase dst src imm size cond d1 d2 s1 s2 i1 i2
  by_cases h0 : src ≠ 0
  · exact rz0 (nT 1 0 h0 base)
  · by_cases h1 : imm ≠ 0
    · exact rz0 (nT 2 0 h1 (nF 1 0 h0 base))
    · by_cases h2 : size ≠ 0
      · exact rz0 (nT 3 0 h2 (nF 2 0 h1 (nF 1 0 h0 base)))
      · exact rz0 (nF 3 0 h2 (nF 2 0 h1 (nF 1 0 h0 base)))
theorem rr_6_11 (dst src imm size cond : Int) (w : World) (d1 : 0 ≤ dst) (d2 : dst ≤ 15) (s1 : 0 ≤ src) (s2 : src ≤ 15) (i1 : -2147483648 ≤ imm) (i2 : imm ≤ 2147483647) :
    RrG 6 dst src imm size cond 1 1 true ⟨⟨[]⟩⟩ w := by
  have base := rbase dst src imm size cond d1 d2 s1 s2 i1 i2
  by_cases h0 : src ≠ 0
  · exact rz0 (nT 1 0 h0 base)
  · by_cases h1 : imm ≠ 0
    · exact rz0 (nT 2 0 h1 (nF 1 0 h0 base))
    · by_cases h2 : size ≠ 0
      · exact rz0 (nT 3 0 h2 (nF 2 0 h1 (nF 1 0 h0 base)))
      · exact rz0 (nF 3 0 h2 (nF 2 0 h1 (nF 1 0 h0 base)))
theorem rr_8_00 (dst src imm size cond : Int) (b : UInt8) (bs : List UInt8) (w : World) (d1 : 0 ≤ dst) (d2 : dst ≤ 15) (s1 : 0 ≤ src) (s2 : src ≤ 15) (i1 : -2147483648 ≤ imm) (i2 : imm ≤ 2147483647) :
    RrG 8 dst src imm size cond 0 0 false ⟨⟨b :: bs⟩⟩ w := by
  have base := rbase dst src imm size cond d1 d2 s1 s2 i1 i2
  by_cases h0 : imm ≠ 0
  · exact rz0 (nT 2 0 h0 base)
  · by_cases h1 : size ≠ 0
    · exact rz0 (nT 3 0 h1 (nF 2 0 h0 base))
    · by_cases h2 : cond ≠ 0
      · exact rz0 (nT 4 0 h2 (nF 3 0 h1 (nF 2 0 h0 base)))
      · exact rz0 (nF 4 0 h2 (nF 3 0 h1 (nF 2 0 h0 base)))
theorem rr_8_01 (dst src imm size cond : Int) (w : World) (d1 : 0 ≤ dst) (d2 : dst ≤ 15) (s1 : 0 ≤ src) (s2 : src ≤ 15) (i1 : -2147483648 ≤ imm) (i2 : imm ≤ 2147483647) :
    RrG 8 dst src imm size cond 0 1 false ⟨⟨[]⟩⟩ w := by
  have base := rbase dst src imm size cond d1 d2 s1 s2 i1 i2
  by_cases h0 : imm ≠ 0
  · exact rz0 (nT 2 0 h0 base)
  · by_cases h1 : size ≠ 0
    · exact rz0 (nT 3 0 h1 (nF 2 0 h0 base))
    · by_cases h2 : cond ≠ 0
      · exact rz0 (nT 4 0 h2 (nF 3 0 h1 (nF 2 0 h0 base)))
      · exact rz1 (nF 4 0 h2 (nF 3 0 h1 (nF 2 0 h0 base)))
theorem rr_8_10 (dst src imm size cond : Int) (b : UInt8) (bs : List UInt8) (w : World) (d1 : 0 ≤ dst) (d2 : dst ≤ 15) (s1 : 0 ≤ src) (s2 : src ≤ 15) (i1 : -2147483648 ≤ imm) (i2 : imm ≤ 2147483647) :
    RrG 8 dst src imm size cond 1 0 true ⟨⟨b :: bs⟩⟩ w := by
  have base := rbase dst src imm size cond d1 d2 s1 s2 i1 i2
  by_cases h0 : imm ≠ 0
  · exact rz0 (nT 2 0 h0 base)
  · by_cases h1 : size ≠ 0
    · exact rz0 (nT 3 0 h1 (nF 2 0 h0 base))
    · exact rz0 (nF 3 0 h1 (nF 2 0 h0 base))
theorem rr_8_11 (dst src imm size cond : Int) (w : World) (d1 : 0 ≤ dst) (d2 : dst ≤ 15) (s1 : 0 ≤ src) (s2 : src ≤ 15) (i1 : -2147483648 ≤ imm) (i2 : imm ≤ 2147483647) :
    RrG 8 dst src imm size cond 1 1 true ⟨⟨[]⟩⟩ w := by
  have base := rbase dst src imm size cond d1 d2 s1 s2 i1 i2
  by_cases h0 : imm ≠ 0
  · exact rz0 (nT 2 0 h0 base)
  · by_cases h1 : size ≠ 0
    · exact rz0 (nT 3 0 h1 (nF 2 0 h0 base))
    · exact rz0 (nF 3 0 h1 (nF 2 0 h0 base))
theorem rr_16_00 (dst src imm size cond : Int) (b : UInt8) (bs : List UInt8) (w : World) (d1 : 0 ≤ dst) (d2 : dst ≤ 15) (s1 : 0 ≤ src) (s2 : src ≤ 15) (i1 : -2147483648 ≤ imm) (i2 : imm ≤ 2147483647) :
    RrG 16 dst src imm size cond 0 0 false ⟨⟨b :: bs⟩⟩ w := by
  have base := rbase dst src imm size cond d1 d2 s1 s2 i1 i2
  by_cases h0 : src ≠ 0
  · exact rz0 (nT 1 0 h0 base)
  · by_cases h1 : size ≠ 0
    · exact rz0 (nT 3 0 h1 (nF 1 0 h0 base))
    · by_cases h2 : cond ≠ 0
      · exact rz0 (nT 4 0 h2 (nF 3 0 h1 (nF 1 0 h0 base)))
      · exact rz0 (nF 4 0 h2 (nF 3 0 h1 (nF 1 0 h0 base)))
theorem rr_16_01 (dst src imm size cond : Int) (w : World) (d1 : 0 ≤ dst) (d2 : dst ≤ 15) (s1 : 0 ≤ src) (s2 : src ≤ 15) (i1 : -2147483648 ≤ imm) (i2 : imm ≤ 2147483647) :
    RrG 16 dst src imm size cond 0 1 false ⟨⟨[]⟩⟩ w := by
  have base := rbase dst src imm size cond d1 d2 s1 s2 i1 i2
  by_cases h0 : src ≠ 0
  · exact rz0 (nT 1 0 h0 base)
  · by_cases h1 : size ≠ 0
    · exact rz0 (nT 3 0 h1 (nF 1 0 h0 base))
    · by_cases h2 : cond ≠ 0
      · exact rz0 (nT 4 0 h2 (nF 3 0 h1 (nF 1 0 h0 base)))
      · exact rz1 (nF 4 0 h2 (nF 3 0 h1 (nF 1 0 h0 base)))
theorem rr_16_10 (dst src imm size cond : Int) (b : UInt8) (bs : List UInt8) (w : World) (d1 : 0 ≤ dst) (d2 : dst ≤ 15) (s1 : 0 ≤ src) (s2 : src ≤ 15) (i1 : -2147483648 ≤ imm) (i2 : imm ≤ 2147483647) :
    RrG 16 dst src imm size cond 1 0 true ⟨⟨b :: bs⟩⟩ w := by
  have base := rbase dst src imm size cond d1 d2 s1 s2 i1 i2
  by_cases h0 : src ≠ 0
  · exact rz0 (nT 1 0 h0 base)
  · by_cases h1 : size ≠ 0
    · exact rz0 (nT 3 0 h1 (nF 1 0 h0 base))
    · exact rz0 (nF 3 0 h1 (nF 1 0 h0 base))
theorem rr_16_11 (dst src imm size cond : Int) (w : World) (d1 : 0 ≤ dst) (d2 : dst ≤ 15) (s1 : 0 ≤ src) (s2 : src ≤ 15) (i1 : -2147483648 ≤ imm) (i2 : imm ≤ 2147483647) :
    RrG 16 dst src imm size cond 1 1 true ⟨⟨[]⟩⟩ w := by
  have base := rbase dst src imm size cond d1 d2 s1 s2 i1 i2
  by_cases h0 : src ≠ 0
  · exact rz0 (nT 1 0 h0 base)
  · by_cases h1 : size ≠ 0
    · exact rz0 (nT 3 0 h1 (nF 1 0 h0 base))
    · exact rz0 (nF 3 0 h1 (nF 1 0 h0 base))
theorem rr_30_00 (dst src imm size cond : Int) (b : UInt8) (bs : List UInt8) (w : World) (d1 : 0 ≤ dst) (d2 : dst ≤ 15) (s1 : 0 ≤ src) (s2 : src ≤ 15) (i1 : -2147483648 ≤ imm) (i2 : imm ≤ 2147483647) :
    RrG 30 dst src imm size cond 0 0 false ⟨⟨b :: bs⟩⟩ w := by
  have base := rbase dst src imm size cond d1 d2 s1 s2 i1 i2
  by_cases h0 : imm ≠ 0
  · exact rz0 (nT 2 0 h0 base)
  · by_cases h1 : cond ≠ 0
    · exact rz0 (nT 4 0 h1 (nF 2 0 h0 base))
    · exact rz0 (nF 4 0 h1 (nF 2 0 h0 base))
theorem rr_30_01 (dst src imm size cond : Int) (w : World) (d1 : 0 ≤ dst) (d2 : dst ≤ 15) (s1 : 0 ≤ src) (s2 : src ≤ 15) (i1 : -2147483648 ≤ imm) (i2 : imm ≤ 2147483647) :
    RrG 30 dst src imm size cond 0 1 false ⟨⟨[]⟩⟩ w := by
  have base := rbase dst src imm size cond d1 d2 s1 s2 i1 i2
  by_cases h0 : imm ≠ 0
  · exact rz0 (nT 2 0 h0 base)
  · by_cases h1 : cond ≠ 0
    · exact rz0 (nT 4 0 h1 (nF 2 0 h0 base))
    · by_cases h2 : size ≠ 1
      · by_cases h3 : size ≠ 2
        · by_cases h4 : size ≠ 4
          · by_cases h5 : size ≠ 8
            · exact rz0 (nT 3 8 h5 (nT 3 4 h4 (nT 3 2 h3 (nT 3 1 h2 (nF 4 0 h1 (nF 2 0 h0 base))))))
            · exact rz0 (nF 3 8 h5 (nT 3 4 h4 (nT 3 2 h3 (nT 3 1 h2 (nF 4 0 h1 (nF 2 0 h0 base))))))
          · exact rz1 (nF 3 4 h4 (nT 3 2 h3 (nT 3 1 h2 (nF 4 0 h1 (nF 2 0 h0 base)))))
        · exact rz1 (nF 3 2 h3 (nT 3 1 h2 (nF 4 0 h1 (nF 2 0 h0 base))))
      · exact rz1 (nF 3 1 h2 (nF 4 0 h1 (nF 2 0 h0 base)))
theorem rr_30_10 (dst src imm size cond : Int) (b : UInt8) (bs : List UInt8) (w : World) (d1 : 0 ≤ dst) (d2 : dst ≤ 15) (s1 : 0 ≤ src) (s2 : src ≤ 15) (i1 : -2147483648 ≤ imm) (i2 : imm ≤ 2147483647) :
    RrG 30 dst src imm size cond 1 0 true ⟨⟨b :: bs⟩⟩ w := by
  have base := rbase dst src imm size cond d1 d2 s1 s2 i1 i2
  by_cases h0 : imm ≠ 0
  · exact rz0 (nT 2 0 h0 base)
  · by_cases h1 : cond ≠ 0
    · exact rz0 (nT 4 0 h1 (nF 2 0 h0 base))
    · exact rz0 (nF 4 0 h1 (nF 2 0 h0 base))
theorem rr_30_11 (dst src imm size cond : Int) (w : World) (d1 : 0 ≤ dst) (d2 : dst ≤ 15) (s1 : 0 ≤ src) (s2 : src ≤ 15) (i1 : -2147483648 ≤ imm) (i2 : imm ≤ 2147483647) :
    RrG 30 dst src imm size cond 1 1 true ⟨⟨[]⟩⟩ w := by
  have base := rbase dst src imm size cond d1 d2 s1 s2 i1 i2
  by_cases h0 : imm ≠ 0
  · exact rz0 (nT 2 0 h0 base)
  · by_cases h1 : cond ≠ 0
    · exact rz0 (nT 4 0 h1 (nF 2 0 h0 base))
    · by_cases h2 : size ≠ 1
      · by_cases h3 : size ≠ 2
        · by_cases h4 : size ≠ 4
          · by_cases h5 : size ≠ 8
            · exact rz0 (nT 3 8 h5 (nT 3 4 h4 (nT 3 2 h3 (nT 3 1 h2 (nF 4 0 h1 (nF 2 0 h0 base))))))
            · exact rz0 (nF 3 8 h5 (nT 3 4 h4 (nT 3 2 h3 (nT 3 1 h2 (nF 4 0 h1 (nF 2 0 h0 base))))))
          · exact rz1 (kn_cons (kn_eql 3 8 false (decide_eq_false (show ¬ (size = 8) by omega))) (nF 3 4 h4 (nT 3 2 h3 (nT 3 1 h2 (nF 4 0 h1 (nF 2 0 h0 base))))))
        · exact rz1 (kn_cons (kn_eql 3 8 false (decide_eq_false (show ¬ (size = 8) by omega))) (nF 3 2 h3 (nT 3 1 h2 (nF 4 0 h1 (nF 2 0 h0 base)))))
      · exact rz1 (kn_cons (kn_eql 3 8 false (decide_eq_false (show ¬ (size = 8) by omega))) (nF 3 1 h2 (nF 4 0 h1 (nF 2 0 h0 base))))
theorem rr_37_00 (dst src imm size cond : Int) (b : UInt8) (bs : List UInt8) (w : World) (d1 : 0 ≤ dst) (d2 : dst ≤ 15) (s1 : 0 ≤ src) (s2 : src ≤ 15) (i1 : -2147483648 ≤ imm) (i2 : imm ≤ 2147483647) :
    RrG 37 dst src imm size cond 0 0 false ⟨⟨b :: bs⟩⟩ w := by
  have base := rbase dst src imm size cond d1 d2 s1 s2 i1 i2
  by_cases h0 : src ≠ 0
  · exact rz0 (nT 1 0 h0 base)
  · by_cases h1 : imm ≠ 0
    · exact rz0 (nT 2 0 h1 (nF 1 0 h0 base))
    · by_cases h2 : size ≠ 0
      · exact rz0 (nT 3 0 h2 (nF 2 0 h1 (nF 1 0 h0 base)))
      · by_cases h3 : cond ≠ 0
        · exact rz0 (nT 4 0 h3 (nF 3 0 h2 (nF 2 0 h1 (nF 1 0 h0 base))))
        · exact rz0 (nF 4 0 h3 (nF 3 0 h2 (nF 2 0 h1 (nF 1 0 h0 base))))
theorem rr_37_01 (dst src imm size cond : Int) (w : World) (d1 : 0 ≤ dst) (d2 : dst ≤ 15) (s1 : 0 ≤ src) (s2 : src ≤ 15) (i1 : -2147483648 ≤ imm) (i2 : imm ≤ 2147483647) :
    RrG 37 dst src imm size cond 0 1 false ⟨⟨[]⟩⟩ w := by
  have base := rbase dst src imm size cond d1 d2 s1 s2 i1 i2
  by_cases h0 : src ≠ 0
  · exact rz0 (nT 1 0 h0 base)
  · by_cases h1 : imm ≠ 0
    · exact rz0 (nT 2 0 h1 (nF 1 0 h0 base))
    · by_cases h2 : size ≠ 0
      · exact rz0 (nT 3 0 h2 (nF 2 0 h1 (nF 1 0 h0 base)))
      · by_cases h3 : cond ≠ 0
        · exact rz0 (nT 4 0 h3 (nF 3 0 h2 (nF 2 0 h1 (nF 1 0 h0 base))))
        · exact rz1 (nF 4 0 h3 (nF 3 0 h2 (nF 2 0 h1 (nF 1 0 h0 base))))
theorem rr_37_10 (dst src imm size cond : Int) (b : UInt8) (bs : List UInt8) (w : World) (d1 : 0 ≤ dst) (d2 : dst ≤ 15) (s1 : 0 ≤ src) (s2 : src ≤ 15) (i1 : -2147483648 ≤ imm) (i2 : imm ≤ 2147483647) :
    RrG 37 dst src imm size cond 1 0 true ⟨⟨b :: bs⟩⟩ w := by
  have base := rbase dst src imm size cond d1 d2 s1 s2 i1 i2
  by_cases h0 : src ≠ 0
  · exact rz0 (nT 1 0 h0 base)
  · by_cases h1 : imm ≠ 0
    · exact rz0 (nT 2 0 h1 (nF 1 0 h0 base))
    · by_cases h2 : size ≠ 0
      · exact rz0 (nT 3 0 h2 (nF 2 0 h1 (nF 1 0 h0 base)))
      · exact rz0 (nF 3 0 h2 (nF 2 0 h1 (nF 1 0 h0 base)))
theorem rr_37_11 (dst src imm size cond : Int) (w : World) (d1 : 0 ≤ dst) (d2 : dst ≤ 15) (s1 : 0 ≤ src) (s2 : src ≤ 15) (i1 : -2147483648 ≤ imm) (i2 : imm ≤ 2147483647) :
    RrG 37 dst src imm size cond 1 1 true ⟨⟨[]⟩⟩ w := by
  have base := rbase dst src imm size cond d1 d2 s1 s2 i1 i2
  by_cases h0 : src ≠ 0
  · exact rz0 (nT 1 0 h0 base)
  · by_cases h1 : imm ≠ 0
    · exact rz0 (nT 2 0 h1 (nF 1 0 h0 base))
    · by_cases h2 : size ≠ 0
      · exact rz0 (nT 3 0 h2 (nF 2 0 h1 (nF 1 0 h0 base)))
      · exact rz0 (nF 3 0 h2 (nF 2 0 h1 (nF 1 0 h0 base)))
end Go.Proofs.YtmmpkkpmlaiapaaGreatDoor
