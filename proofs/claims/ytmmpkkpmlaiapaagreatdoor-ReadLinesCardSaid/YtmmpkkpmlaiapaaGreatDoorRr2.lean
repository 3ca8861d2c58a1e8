/- The document's Right, run: operations 3, 9, 17, 22, 33. The document's Right, run: operations 11, 19, 23, 24, 35. No condition. -/
import Derived.Test.YtmmpkkpmlaiapaaGreatDoorQg
namespace Go.Proofs.YtmmpkkpmlaiapaaGreatDoor
open Go.RowKit
set_option linter.unusedVariables false
theorem rr_3_00 (dst src imm size cond : Int) (b : UInt8) (bs : List UInt8) (w : World) (d1 : 0 ≤ dst) (d2 : dst ≤ 15) (s1 : 0 ≤ src) (s2 : src ≤ 15) (i1 : -2147483648 ≤ imm) (i2 : imm ≤ 2147483647) :
    RrG 3 dst src imm size cond 0 0 false ⟨⟨b :: bs⟩⟩ w := by
  have base := rbase dst src imm size cond d1 d2 s1 s2 i1 i2
  by_cases h0 : cond ≠ 0
  · exact rz0 (nT 4 0 h0 base)
  · exact rz0 (nF 4 0 h0 base)
theorem rr_3_01 (dst src imm size cond : Int) (w : World) (d1 : 0 ≤ dst) (d2 : dst ≤ 15) (s1 : 0 ≤ src) (s2 : src ≤ 15) (i1 : -2147483648 ≤ imm) (i2 : imm ≤ 2147483647) :
    RrG 3 dst src imm size cond 0 1 false ⟨⟨[]⟩⟩ w := by
  have base := rbase dst src imm size cond d1 d2 s1 s2 i1 i2
  by_cases h0 : cond ≠ 0
  · exact rz0 (nT 4 0 h0 base)
  · by_cases h1 : size ≠ 1
    · by_cases h2 : size ≠ 2
      · by_cases h3 : size ≠ 4
        · by_cases h4 : size ≠ 8
          · exact rz0 (nT 3 8 h4 (nT 3 4 h3 (nT 3 2 h2 (nT 3 1 h1 (nF 4 0 h0 base)))))
          · exact rz1 (nF 3 8 h4 (nT 3 4 h3 (nT 3 2 h2 (nT 3 1 h1 (nF 4 0 h0 base)))))
        · exact rz1 (nF 3 4 h3 (nT 3 2 h2 (nT 3 1 h1 (nF 4 0 h0 base))))
      · exact rz1 (nF 3 2 h2 (nT 3 1 h1 (nF 4 0 h0 base)))
    · exact rz1 (nF 3 1 h1 (nF 4 0 h0 base))
theorem rr_3_10 (dst src imm size cond : Int) (b : UInt8) (bs : List UInt8) (w : World) (d1 : 0 ≤ dst) (d2 : dst ≤ 15) (s1 : 0 ≤ src) (s2 : src ≤ 15) (i1 : -2147483648 ≤ imm) (i2 : imm ≤ 2147483647) :
    RrG 3 dst src imm size cond 1 0 true ⟨⟨b :: bs⟩⟩ w := by
  have base := rbase dst src imm size cond d1 d2 s1 s2 i1 i2
  by_cases h0 : cond ≠ 0
  · exact rz0 (nT 4 0 h0 base)
  · exact rz0 (nF 4 0 h0 base)
theorem rr_3_11 (dst src imm size cond : Int) (w : World) (d1 : 0 ≤ dst) (d2 : dst ≤ 15) (s1 : 0 ≤ src) (s2 : src ≤ 15) (i1 : -2147483648 ≤ imm) (i2 : imm ≤ 2147483647) :
    RrG 3 dst src imm size cond 1 1 true ⟨⟨[]⟩⟩ w := by
  have base := rbase dst src imm size cond d1 d2 s1 s2 i1 i2
  by_cases h0 : cond ≠ 0
  · exact rz0 (nT 4 0 h0 base)
  · by_cases h1 : size ≠ 1
    · by_cases h2 : size ≠ 2
      · by_cases h3 : size ≠ 4
        · by_cases h4 : size ≠ 8
          · exact rz0 (nT 3 8 h4 (nT 3 4 h3 (nT 3 2 h2 (nT 3 1 h1 (nF 4 0 h0 base)))))
          · exact rz0 (kn_cons (kn_eql 3 8 true (decide_eq_true (show (size = 8) by omega))) (nF 3 8 h4 (nT 3 4 h3 (nT 3 2 h2 (nT 3 1 h1 (nF 4 0 h0 base))))))
        · exact rz1 (kn_cons (kn_eql 3 8 false (decide_eq_false (show ¬ (size = 8) by omega))) (nF 3 4 h3 (nT 3 2 h2 (nT 3 1 h1 (nF 4 0 h0 base)))))
      · exact rz1 (kn_cons (kn_eql 3 8 false (decide_eq_false (show ¬ (size = 8) by omega))) (nF 3 2 h2 (nT 3 1 h1 (nF 4 0 h0 base))))
    · exact rz1 (kn_cons (kn_eql 3 8 false (decide_eq_false (show ¬ (size = 8) by omega))) (nF 3 1 h1 (nF 4 0 h0 base)))
theorem rr_9_00 (dst src imm size cond : Int) (b : UInt8) (bs : List UInt8) (w : World) (d1 : 0 ≤ dst) (d2 : dst ≤ 15) (s1 : 0 ≤ src) (s2 : src ≤ 15) (i1 : -2147483648 ≤ imm) (i2 : imm ≤ 2147483647) :
    RrG 9 dst src imm size cond 0 0 false ⟨⟨b :: bs⟩⟩ w := by
  have base := rbase dst src imm size cond d1 d2 s1 s2 i1 i2
  by_cases h0 : imm ≠ 0
  · exact rz0 (nT 2 0 h0 base)
  · by_cases h1 : size ≠ 0
    · exact rz0 (nT 3 0 h1 (nF 2 0 h0 base))
    · by_cases h2 : cond ≠ 0
      · exact rz0 (nT 4 0 h2 (nF 3 0 h1 (nF 2 0 h0 base)))
      · exact rz0 (nF 4 0 h2 (nF 3 0 h1 (nF 2 0 h0 base)))
theorem rr_9_01 (dst src imm size cond : Int) (w : World) (d1 : 0 ≤ dst) (d2 : dst ≤ 15) (s1 : 0 ≤ src) (s2 : src ≤ 15) (i1 : -2147483648 ≤ imm) (i2 : imm ≤ 2147483647) :
    RrG 9 dst src imm size cond 0 1 false ⟨⟨[]⟩⟩ w := by
  have base := rbase dst src imm size cond d1 d2 s1 s2 i1 i2
  by_cases h0 : imm ≠ 0
  · exact rz0 (nT 2 0 h0 base)
  · by_cases h1 : size ≠ 0
    · exact rz0 (nT 3 0 h1 (nF 2 0 h0 base))
    · by_cases h2 : cond ≠ 0
      · exact rz0 (nT 4 0 h2 (nF 3 0 h1 (nF 2 0 h0 base)))
      · exact rz1 (nF 4 0 h2 (nF 3 0 h1 (nF 2 0 h0 base)))
theorem rr_9_10 (dst src imm size cond : Int) (b : UInt8) (bs : List UInt8) (w : World) (d1 : 0 ≤ dst) (d2 : dst ≤ 15) (s1 : 0 ≤ src) (s2 : src ≤ 15) (i1 : -2147483648 ≤ imm) (i2 : imm ≤ 2147483647) :
    RrG 9 dst src imm size cond 1 0 true ⟨⟨b :: bs⟩⟩ w := by
  have base := rbase dst src imm size cond d1 d2 s1 s2 i1 i2
  by_cases h0 : imm ≠ 0
  · exact rz0 (nT 2 0 h0 base)
  · by_cases h1 : size ≠ 0
    · exact rz0 (nT 3 0 h1 (nF 2 0 h0 base))
    · exact rz0 (nF 3 0 h1 (nF 2 0 h0 base))
theorem rr_9_11 (dst src imm size cond : Int) (w : World) (d1 : 0 ≤ dst) (d2 : dst ≤ 15) (s1 : 0 ≤ src) (s2 : src ≤ 15) (i1 : -2147483648 ≤ imm) (i2 : imm ≤ 2147483647) :
    RrG 9 dst src imm size cond 1 1 true ⟨⟨[]⟩⟩ w := by
  have base := rbase dst src imm size cond d1 d2 s1 s2 i1 i2
  by_cases h0 : imm ≠ 0
  · exact rz0 (nT 2 0 h0 base)
  · by_cases h1 : size ≠ 0
    · exact rz0 (nT 3 0 h1 (nF 2 0 h0 base))
    · exact rz0 (nF 3 0 h1 (nF 2 0 h0 base))
theorem rr_17_00 (dst src imm size cond : Int) (b : UInt8) (bs : List UInt8) (w : World) (d1 : 0 ≤ dst) (d2 : dst ≤ 15) (s1 : 0 ≤ src) (s2 : src ≤ 15) (i1 : -2147483648 ≤ imm) (i2 : imm ≤ 2147483647) :
    RrG 17 dst src imm size cond 0 0 false ⟨⟨b :: bs⟩⟩ w := by
  have base := rbase dst src imm size cond d1 d2 s1 s2 i1 i2
  by_cases h0 : src ≠ 0
  · exact rz0 (nT 1 0 h0 base)
  · by_cases h1 : size ≠ 0
    · exact rz0 (nT 3 0 h1 (nF 1 0 h0 base))
    · by_cases h2 : cond ≠ 0
      · exact rz0 (nT 4 0 h2 (nF 3 0 h1 (nF 1 0 h0 base)))
      · exact rz0 (nF 4 0 h2 (nF 3 0 h1 (nF 1 0 h0 base)))
theorem rr_17_01 (dst src imm size cond : Int) (w : World) (d1 : 0 ≤ dst) (d2 : dst ≤ 15) (s1 : 0 ≤ src) (s2 : src ≤ 15) (i1 : -2147483648 ≤ imm) (i2 : imm ≤ 2147483647) :
    RrG 17 dst src imm size cond 0 1 false ⟨⟨[]⟩⟩ w := by
  have base := rbase dst src imm size cond d1 d2 s1 s2 i1 i2
  by_cases h0 : src ≠ 0
  · exact rz0 (nT 1 0 h0 base)
  · by_cases h1 : size ≠ 0
    · exact rz0 (nT 3 0 h1 (nF 1 0 h0 base))
    · by_cases h2 : cond ≠ 0
      · exact rz0 (nT 4 0 h2 (nF 3 0 h1 (nF 1 0 h0 base)))
      · exact rz1 (nF 4 0 h2 (nF 3 0 h1 (nF 1 0 h0 base)))
theorem rr_17_10 (dst src imm size cond : Int) (b : UInt8) (bs : List UInt8) (w : World) (d1 : 0 ≤ dst) (d2 : dst ≤ 15) (s1 : 0 ≤ src) (s2 : src ≤ 15) (i1 : -2147483648 ≤ imm) (i2 : imm ≤ 2147483647) :
    RrG 17 dst src imm size cond 1 0 true ⟨⟨b :: bs⟩⟩ w := by
  have base := rbase dst src imm size cond d1 d2 s1 s2 i1 i2
  by_cases h0 : src ≠ 0
  · exact rz0 (nT 1 0 h0 base)
  · by_cases h1 : size ≠ 0
    · exact rz0 (nT 3 0 h1 (nF 1 0 h0 base))
    · exact rz0 (nF 3 0 h1 (nF 1 0 h0 base))
theorem rr_17_11 (dst src imm size cond : Int) (w : World) (d1 : 0 ≤ dst) (d2 : dst ≤ 15) (s1 : 0 ≤ src) (s2 : src ≤ 15) (i1 : -2147483648 ≤ imm) (i2 : imm ≤ 2147483647) :
    RrG 17 dst src imm size cond 1 1 true ⟨⟨[]⟩⟩ w := by
  have base := rbase dst src imm size cond d1 d2 s1 s2 i1 i2
  by_cases h0 : src ≠ 0
  · exact rz0 (nT 1 0 h0 base)
  · by_cases h1 : size ≠ 0
    · exact rz0 (nT 3 0 h1 (nF 1 0 h0 base))
    · exact rz0 (nF 3 0 h1 (nF 1 0 h0 base))
theorem rr_22_00 (dst src imm size cond : Int) (b : UInt8) (bs : List UInt8) (w : World) (d1 : 0 ≤ dst) (d2 : dst ≤ 15) (s1 : 0 ≤ src) (s2 : src ≤ 15) (i1 : -2147483648 ≤ imm) (i2 : imm ≤ 2147483647) :
    RrG 22 dst src imm size cond 0 0 false ⟨⟨b :: bs⟩⟩ w := by
  have base := rbase dst src imm size cond d1 d2 s1 s2 i1 i2
  by_cases h0 : src ≠ 0
  · exact rz0 (nT 1 0 h0 base)
  · by_cases h1 : imm ≠ 0
    · exact rz0 (nT 2 0 h1 (nF 1 0 h0 base))
    · by_cases h2 : size ≠ 0
      · exact rz0 (nT 3 0 h2 (nF 2 0 h1 (nF 1 0 h0 base)))
      · by_cases h3 : cond ≠ 0
        · exact rz0 (nT 4 0 h3 (nF 3 0 h2 (nF 2 0 h1 (nF 1 0 h0 base))))
        · exact rz0 (nF 4 0 h3 (nF 3 0 h2 (nF 2 0 h1 (nF 1 0 h0 base))))
theorem rr_22_01 (dst src imm size cond : Int) (w : World) (d1 : 0 ≤ dst) (d2 : dst ≤ 15) (s1 : 0 ≤ src) (s2 : src ≤ 15) (i1 : -2147483648 ≤ imm) (i2 : imm ≤ 2147483647) :
    RrG 22 dst src imm size cond 0 1 false ⟨⟨[]⟩⟩ w := by
  have base := rbase dst src imm size cond d1 d2 s1 s2 i1 i2
  by_cases h0 : src ≠ 0
  · exact rz0 (nT 1 0 h0 base)
  · by_cases h1 : imm ≠ 0
    · exact rz0 (nT 2 0 h1 (nF 1 0 h0 base))
    · by_cases h2 : size ≠ 0
      · exact rz0 (nT 3 0 h2 (nF 2 0 h1 (nF 1 0 h0 base)))
      · by_cases h3 : cond ≠ 0
        · exact rz0 (nT 4 0 h3 (nF 3 0 h2 (nF 2 0 h1 (nF 1 0 h0 base))))
        · exact rz1 (nF 4 0 h3 (nF 3 0 h2 (nF 2 0 h1 (nF 1 0 h0 base))))
theorem rr_22_10 (dst src imm size cond : Int) (b : UInt8) (bs : List UInt8) (w : World) (d1 : 0 ≤ dst) (d2 : dst ≤ 15) (s1 : 0 ≤ src) (s2 : src ≤ 15) (i1 : -2147483648 ≤ imm) (i2 : imm ≤ 2147483647) :
    RrG 22 dst src imm size cond 1 0 true ⟨⟨b :: bs⟩⟩ w := by
  have base := rbase dst src imm size cond d1 d2 s1 s2 i1 i2
  by_cases h0 : src ≠ 0
  · exact rz0 (nT 1 0 h0 base)
  · by_cases h1 : imm ≠ 0
    · exact rz0 (nT 2 0 h1 (nF 1 0 h0 base))
    · by_cases h2 : size ≠ 0
      · exact rz0 (nT 3 0 h2 (nF 2 0 h1 (nF 1 0 h0 base)))
      · exact rz0 (nF 3 0 h2 (nF 2 0 h1 (nF 1 0 h0 base)))
theorem rr_22_11 (dst src imm size cond : Int) (w : World) (d1 : 0 ≤ dst) (d2 : dst ≤ 15) (s1 : 0 ≤ src) (s2 : src ≤ 15) (i1 : -2147483648 ≤ imm) (i2 : imm ≤ 2147483647) :
    RrG 22 dst src imm size cond 1 1 true ⟨⟨[]⟩⟩ w := by
  have base := rbase dst src imm size cond d1 d2 s1 s2 i1 i2
  by_cases h0 : src ≠ 0
  · exact rz0 (nT 1 0 h0 base)
  · by_cases h1 : imm ≠ 0
    · exact rz0 (nT 2 0 h1 (nF 1 0 h0 base))
    · by_cases h2 : size ≠ 0
      · exact rz0 (nT 3 0 h2 (nF 2 0 h1 (nF 1 0 h0 base)))
      · exact rz0 (nF 3 0 h2 (nF 2 0 h1 (nF 1 0 h0 base)))
theorem rr_33_00 (dst src imm size cond : Int) (b : UInt8) (bs : List UInt8) (w : World) (d1 : 0 ≤ dst) (d2 : dst ≤ 15) (s1 : 0 ≤ src) (s2 : src ≤ 15) (i1 : -2147483648 ≤ imm) (i2 : imm ≤ 2147483647) :
    RrG 33 dst src imm size cond 0 0 false ⟨⟨b :: bs⟩⟩ w := by
  have base := rbase dst src imm size cond d1 d2 s1 s2 i1 i2
  by_cases h0 : dst ≠ 0
  · exact rz0 (nT 0 0 h0 base)
  · by_cases h1 : src ≠ 0
    · exact rz0 (nT 1 0 h1 (nF 0 0 h0 base))
    · by_cases h2 : imm ≠ 0
      · exact rz0 (nT 2 0 h2 (nF 1 0 h1 (nF 0 0 h0 base)))
      · by_cases h3 : size ≠ 0
        · exact rz0 (nT 3 0 h3 (nF 2 0 h2 (nF 1 0 h1 (nF 0 0 h0 base))))
        · by_cases h4 : cond ≠ 0
          · exact rz0 (nT 4 0 h4 (nF 3 0 h3 (nF 2 0 h2 (nF 1 0 h1 (nF 0 0 h0 base)))))
          · exact rz1 (nF 4 0 h4 (nF 3 0 h3 (nF 2 0 h2 (nF 1 0 h1 (nF 0 0 h0 base)))))
theorem rr_33_01 (dst src imm size cond : Int) (w : World) (d1 : 0 ≤ dst) (d2 : dst ≤ 15) (s1 : 0 ≤ src) (s2 : src ≤ 15) (i1 : -2147483648 ≤ imm) (i2 : imm ≤ 2147483647) :
    RrG 33 dst src imm size cond 0 1 false ⟨⟨[]⟩⟩ w := by
  have base := rbase dst src imm size cond d1 d2 s1 s2 i1 i2
  by_cases h0 : dst ≠ 0
  · exact rz0 (nT 0 0 h0 base)
  · by_cases h1 : src ≠ 0
    · exact rz0 (nT 1 0 h1 (nF 0 0 h0 base))
    · by_cases h2 : imm ≠ 0
      · exact rz0 (nT 2 0 h2 (nF 1 0 h1 (nF 0 0 h0 base)))
      · by_cases h3 : size ≠ 0
        · exact rz0 (nT 3 0 h3 (nF 2 0 h2 (nF 1 0 h1 (nF 0 0 h0 base))))
        · by_cases h4 : cond ≠ 0
          · exact rz0 (nT 4 0 h4 (nF 3 0 h3 (nF 2 0 h2 (nF 1 0 h1 (nF 0 0 h0 base)))))
          · exact rz1 (nF 4 0 h4 (nF 3 0 h3 (nF 2 0 h2 (nF 1 0 h1 (nF 0 0 h0 base)))))
theorem rr_33_10 (dst src imm size cond : Int) (b : UInt8) (bs : List UInt8) (w : World) (d1 : 0 ≤ dst) (d2 : dst ≤ 15) (s1 : 0 ≤ src) (s2 : src ≤ 15) (i1 : -2147483648 ≤ imm) (i2 : imm ≤ 2147483647) :
    RrG 33 dst src imm size cond 1 0 true ⟨⟨b :: bs⟩⟩ w := by
  have base := rbase dst src imm size cond d1 d2 s1 s2 i1 i2
  by_cases h0 : dst ≠ 0
  · exact rz0 (nT 0 0 h0 base)
  · by_cases h1 : src ≠ 0
    · exact rz0 (nT 1 0 h1 (nF 0 0 h0 base))
    · by_cases h2 : imm ≠ 0
      · exact rz0 (nT 2 0 h2 (nF 1 0 h1 (nF 0 0 h0 base)))
      · by_cases h3 : size ≠ 0
        · exact rz0 (nT 3 0 h3 (nF 2 0 h2 (nF 1 0 h1 (nF 0 0 h0 base))))
        · exact rz0 (nF 3 0 h3 (nF 2 0 h2 (nF 1 0 h1 (nF 0 0 h0 base))))
theorem rr_33_11 (dst src imm size cond : Int) (w : World) (d1 : 0 ≤ dst) (d2 : dst ≤ 15) (s1 : 0 ≤ src) (s2 : src ≤ 15) (i1 : -2147483648 ≤ imm) (i2 : imm ≤ 2147483647) :
    RrG 33 dst src imm size cond 1 1 true ⟨⟨[]⟩⟩ w := by
  have base := rbase dst src imm size cond d1 d2 s1 s2 i1 i2
  by_cases h0 : dst ≠ 0
  · exact rz0 (nT 0 0 h0 base)
  · by_cases h1 : src ≠ 0
    · exact rz0 (nT 1 0 h1 (nF 0 0 h0 base))
    · by_cases h2 : imm ≠ 0
      · exact rz0 (nT 2 0 h2 (nF 1 0 h1 (nF 0 0 h0 base)))
      · by_cases h3 : size ≠ 0
        · exact rz0 (nT 3 0 h3 (nF 2 0 h2 (nF 1 0 h1 (nF 0 0 h0 base))))
        · exact rz0 (nF 3 0 h3 (nF 2 0 h2 (nF 1 0 h1 (nF 0 0 h0 base))))
end Go.Proofs.YtmmpkkpmlaiapaaGreatDoor
namespace Go.Proofs.YtmmpkkpmlaiapaaGreatDoor
open Go.RowKit
set_option linter.unusedVariables false
theorem rr_11_00 (dst src imm size cond : Int) (b : UInt8) (bs : List UInt8) (w : World) (d1 : 0 ≤ dst) (d2 : dst ≤ 15) (s1 : 0 ≤ src) (s2 : src ≤ 15) (i1 : -2147483648 ≤ imm) (i2 : imm ≤ 2147483647) :
    RrG 11 dst src imm size cond 0 0 false ⟨⟨b :: bs⟩⟩ w := by
  have base := rbase dst src imm size cond d1 d2 s1 s2 i1 i2
  by_cases h0 : imm ≠ 0
  · exact rz0 (nT 2 0 h0 base)
  · by_cases h1 : size ≠ 0
    · exact rz0 (nT 3 0 h1 (nF 2 0 h0 base))
    · by_cases h2 : cond ≠ 0
      · exact rz0 (nT 4 0 h2 (nF 3 0 h1 (nF 2 0 h0 base)))
      · exact rz0 (nF 4 0 h2 (nF 3 0 h1 (nF 2 0 h0 base)))
theorem rr_11_01 (dst src imm size cond : Int) (w : World) (d1 : 0 ≤ dst) (d2 : dst ≤ 15) (s1 : 0 ≤ src) (s2 : src ≤ 15) (i1 : -2147483648 ≤ imm) (i2 : imm ≤ 2147483647) :
    RrG 11 dst src imm size cond 0 1 false ⟨⟨[]⟩⟩ w := by
  have base := rbase dst src imm size cond d1 d2 s1 s2 i1 i2
  by_cases h0 : imm ≠ 0
  · exact rz0 (nT 2 0 h0 base)
  · by_cases h1 : size ≠ 0
    · exact rz0 (nT 3 0 h1 (nF 2 0 h0 base))
    · by_cases h2 : cond ≠ 0
      · exact rz0 (nT 4 0 h2 (nF 3 0 h1 (nF 2 0 h0 base)))
      · exact rz1 (nF 4 0 h2 (nF 3 0 h1 (nF 2 0 h0 base)))
theorem rr_11_10 (dst src imm size cond : Int) (b : UInt8) (bs : List UInt8) (w : World) (d1 : 0 ≤ dst) (d2 : dst ≤ 15) (s1 : 0 ≤ src) (s2 : src ≤ 15) (i1 : -2147483648 ≤ imm) (i2 : imm ≤ 2147483647) :
    RrG 11 dst src imm size cond 1 0 true ⟨⟨b :: bs⟩⟩ w := by
  have base := rbase dst src imm size cond d1 d2 s1 s2 i1 i2
  by_cases h0 : imm ≠ 0
  · exact rz0 (nT 2 0 h0 base)
  · by_cases h1 : size ≠ 0
    · exact rz0 (nT 3 0 h1 (nF 2 0 h0 base))
    · exact rz0 (nF 3 0 h1 (nF 2 0 h0 base))
theorem rr_11_11 (dst src imm size cond : Int) (w : World) (d1 : 0 ≤ dst) (d2 : dst ≤ 15) (s1 : 0 ≤ src) (s2 : src ≤ 15) (i1 : -2147483648 ≤ imm) (i2 : imm ≤ 2147483647) :
    RrG 11 dst src imm size cond 1 1 true ⟨⟨[]⟩⟩ w := by
  have base := rbase dst src imm size cond d1 d2 s1 s2 i1 i2
  by_cases h0 : imm ≠ 0
  · exact rz0 (nT 2 0 h0 base)
  · by_cases h1 : size ≠ 0
    · exact rz0 (nT 3 0 h1 (nF 2 0 h0 base))
    · exact rz0 (nF 3 0 h1 (nF 2 0 h0 base))
theorem rr_19_00 (dst src imm size cond : Int) (b : UInt8) (bs : List UInt8) (w : World) (d1 : 0 ≤ dst) (d2 : dst ≤ 15) (s1 : 0 ≤ src) (s2 : src ≤ 15) (i1 : -2147483648 ≤ imm) (i2 : imm ≤ 2147483647) :
    RrG 19 dst src imm size cond 0 0 false ⟨⟨b :: bs⟩⟩ w := by
  have base := rbase dst src imm size cond d1 d2 s1 s2 i1 i2
  by_cases h0 : src ≠ 0
  · exact rz0 (nT 1 0 h0 base)
  · by_cases h1 : size ≠ 0
    · exact rz0 (nT 3 0 h1 (nF 1 0 h0 base))
    · by_cases h2 : cond ≠ 0
      · exact rz0 (nT 4 0 h2 (nF 3 0 h1 (nF 1 0 h0 base)))
      · exact rz0 (nF 4 0 h2 (nF 3 0 h1 (nF 1 0 h0 base)))
theorem rr_19_01 (dst src imm size cond : Int) (w : World) (d1 : 0 ≤ dst) (d2 : dst ≤ 15) (s1 : 0 ≤ src) (s2 : src ≤ 15) (i1 : -2147483648 ≤ imm) (i2 : imm ≤ 2147483647) :
    RrG 19 dst src imm size cond 0 1 false ⟨⟨[]⟩⟩ w := by
  have base := rbase dst src imm size cond d1 d2 s1 s2 i1 i2
  by_cases h0 : src ≠ 0
  · exact rz0 (nT 1 0 h0 base)
  · by_cases h1 : size ≠ 0
    · exact rz0 (nT 3 0 h1 (nF 1 0 h0 base))
    · by_cases h2 : cond ≠ 0
      · exact rz0 (nT 4 0 h2 (nF 3 0 h1 (nF 1 0 h0 base)))
      · exact rz1 (nF 4 0 h2 (nF 3 0 h1 (nF 1 0 h0 base)))
theorem rr_19_10 (dst src imm size cond : Int) (b : UInt8) (bs : List UInt8) (w : World) (d1 : 0 ≤ dst) (d2 : dst ≤ 15) (s1 : 0 ≤ src) (s2 : src ≤ 15) (i1 : -2147483648 ≤ imm) (i2 : imm ≤ 2147483647) :
    RrG 19 dst src imm size cond 1 0 true ⟨⟨b :: bs⟩⟩ w := by
  have base := rbase dst src imm size cond d1 d2 s1 s2 i1 i2
  by_cases h0 : src ≠ 0
  · exact rz0 (nT 1 0 h0 base)
  · by_cases h1 : size ≠ 0
    · exact rz0 (nT 3 0 h1 (nF 1 0 h0 base))
    · exact rz0 (nF 3 0 h1 (nF 1 0 h0 base))
theorem rr_19_11 (dst src imm size cond : Int) (w : World) (d1 : 0 ≤ dst) (d2 : dst ≤ 15) (s1 : 0 ≤ src) (s2 : src ≤ 15) (i1 : -2147483648 ≤ imm) (i2 : imm ≤ 2147483647) :
    RrG 19 dst src imm size cond 1 1 true ⟨⟨[]⟩⟩ w := by
  have base := rbase dst src imm size cond d1 d2 s1 s2 i1 i2
  by_cases h0 : src ≠ 0
  · exact rz0 (nT 1 0 h0 base)
  · by_cases h1 : size ≠ 0
    · exact rz0 (nT 3 0 h1 (nF 1 0 h0 base))
    · exact rz0 (nF 3 0 h1 (nF 1 0 h0 base))
theorem rr_23_00 (dst src imm size cond : Int) (b : UInt8) (bs : List UInt8) (w : World) (d1 : 0 ≤ dst) (d2 : dst ≤ 15) (s1 : 0 ≤ src) (s2 : src ≤ 15) (i1 : -2147483648 ≤ imm) (i2 : imm ≤ 2147483647) :
    RrG 23 dst src imm size cond 0 0 false ⟨⟨b :: bs⟩⟩ w := by
  have base := rbase dst src imm size cond d1 d2 s1 s2 i1 i2
  by_cases h0 : src ≠ 0
  · exact rz0 (nT 1 0 h0 base)
  · by_cases h1 : imm ≠ 0
    · exact rz0 (nT 2 0 h1 (nF 1 0 h0 base))
    · by_cases h2 : size ≠ 0
      · exact rz0 (nT 3 0 h2 (nF 2 0 h1 (nF 1 0 h0 base)))
      · by_cases h3 : cond ≠ 0
        · exact rz0 (nT 4 0 h3 (nF 3 0 h2 (nF 2 0 h1 (nF 1 0 h0 base))))
        · exact rz0 (nF 4 0 h3 (nF 3 0 h2 (nF 2 0 h1 (nF 1 0 h0 base))))
theorem rr_23_01 (dst src imm size cond : Int) (w : World) (d1 : 0 ≤ dst) (d2 : dst ≤ 15) (s1 : 0 ≤ src) (s2 : src ≤ 15) (i1 : -2147483648 ≤ imm) (i2 : imm ≤ 2147483647) :
    RrG 23 dst src imm size cond 0 1 false ⟨⟨[]⟩⟩ w := by
  have base := rbase dst src imm size cond d1 d2 s1 s2 i1 i2
  by_cases h0 : src ≠ 0
  · exact rz0 (nT 1 0 h0 base)
  · by_cases h1 : imm ≠ 0
    · exact rz0 (nT 2 0 h1 (nF 1 0 h0 base))
    · by_cases h2 : size ≠ 0
      · exact rz0 (nT 3 0 h2 (nF 2 0 h1 (nF 1 0 h0 base)))
      · by_cases h3 : cond ≠ 0
        · exact rz0 (nT 4 0 h3 (nF 3 0 h2 (nF 2 0 h1 (nF 1 0 h0 base))))
        · exact rz1 (nF 4 0 h3 (nF 3 0 h2 (nF 2 0 h1 (nF 1 0 h0 base))))
theorem rr_23_10 (dst src imm size cond : Int) (b : UInt8) (bs : List UInt8) (w : World) (d1 : 0 ≤ dst) (d2 : dst ≤ 15) (s1 : 0 ≤ src) (s2 : src ≤ 15) (i1 : -2147483648 ≤ imm) (i2 : imm ≤ 2147483647) :
    RrG 23 dst src imm size cond 1 0 true ⟨⟨b :: bs⟩⟩ w := by
  have base := rbase dst src imm size cond d1 d2 s1 s2 i1 i2
  by_cases h0 : src ≠ 0
  · exact rz0 (nT 1 0 h0 base)
  · by_cases h1 : imm ≠ 0
    · exact rz0 (nT 2 0 h1 (nF 1 0 h0 base))
    · by_cases h2 : size ≠ 0
      · exact rz0 (nT 3 0 h2 (nF 2 0 h1 (nF 1 0 h0 base)))
      · exact rz0 (nF 3 0 h2 (nF 2 0 h1 (nF 1 0 h0 base)))
theorem rr_23_11 (dst src imm size cond : Int) (w : World) (d1 : 0 ≤ dst) (d2 : dst ≤ 15) (s1 : 0 ≤ src) (s2 : src ≤ 15) (i1 : -2147483648 ≤ imm) (i2 : imm ≤ 2147483647) :
    RrG 23 dst src imm size cond 1 1 true ⟨⟨[]⟩⟩ w := by
  have base := rbase dst src imm size cond d1 d2 s1 s2 i1 i2
  by_cases h0 : src ≠ 0
  · exact rz0 (nT 1 0 h0 base)
  · by_cases h1 : imm ≠ 0
    · exact rz0 (nT 2 0 h1 (nF 1 0 h0 base))
    · by_cases h2 : size ≠ 0
      · exact rz0 (nT 3 0 h2 (nF 2 0 h1 (nF 1 0 h0 base)))
      · exact rz0 (nF 3 0 h2 (nF 2 0 h1 (nF 1 0 h0 base)))
theorem rr_24_00 (dst src imm size cond : Int) (b : UInt8) (bs : List UInt8) (w : World) (d1 : 0 ≤ dst) (d2 : dst ≤ 15) (s1 : 0 ≤ src) (s2 : src ≤ 15) (i1 : -2147483648 ≤ imm) (i2 : imm ≤ 2147483647) :
    RrG 24 dst src imm size cond 0 0 false ⟨⟨b :: bs⟩⟩ w := by
  have base := rbase dst src imm size cond d1 d2 s1 s2 i1 i2
  by_cases h0 : src ≠ 0
  · exact rz0 (nT 1 0 h0 base)
  · by_cases h1 : size ≠ 0
    · exact rz0 (nT 3 0 h1 (nF 1 0 h0 base))
    · by_cases h2 : cond ≠ 0
      · exact rz0 (nT 4 0 h2 (nF 3 0 h1 (nF 1 0 h0 base)))
      · exact rz0 (nF 4 0 h2 (nF 3 0 h1 (nF 1 0 h0 base)))
theorem rr_24_01 (dst src imm size cond : Int) (w : World) (d1 : 0 ≤ dst) (d2 : dst ≤ 15) (s1 : 0 ≤ src) (s2 : src ≤ 15) (i1 : -2147483648 ≤ imm) (i2 : imm ≤ 2147483647) :
    RrG 24 dst src imm size cond 0 1 false ⟨⟨[]⟩⟩ w := by
  have base := rbase dst src imm size cond d1 d2 s1 s2 i1 i2
  by_cases h0 : src ≠ 0
  · exact rz0 (nT 1 0 h0 base)
  · by_cases h1 : size ≠ 0
    · exact rz0 (nT 3 0 h1 (nF 1 0 h0 base))
    · by_cases h2 : cond ≠ 0
      · exact rz0 (nT 4 0 h2 (nF 3 0 h1 (nF 1 0 h0 base)))
      · by_cases h3 : imm ≥ 0
        · by_cases h4 : imm ≤ 63
          · exact rz1 (kn_cons (kn_leq 2 63 true (decide_eq_true (h4))) (kn_cons (kn_geq 2 0 true (decide_eq_true (h3))) (nF 4 0 h2 (nF 3 0 h1 (nF 1 0 h0 base)))))
          · exact rz0 (kn_cons (kn_leq 2 63 false (decide_eq_false (h4))) (kn_cons (kn_geq 2 0 true (decide_eq_true (h3))) (nF 4 0 h2 (nF 3 0 h1 (nF 1 0 h0 base)))))
        · exact rz0 (kn_cons (kn_geq 2 0 false (decide_eq_false (h3))) (nF 4 0 h2 (nF 3 0 h1 (nF 1 0 h0 base))))
theorem rr_24_10 (dst src imm size cond : Int) (b : UInt8) (bs : List UInt8) (w : World) (d1 : 0 ≤ dst) (d2 : dst ≤ 15) (s1 : 0 ≤ src) (s2 : src ≤ 15) (i1 : -2147483648 ≤ imm) (i2 : imm ≤ 2147483647) :
    RrG 24 dst src imm size cond 1 0 true ⟨⟨b :: bs⟩⟩ w := by
  have base := rbase dst src imm size cond d1 d2 s1 s2 i1 i2
  by_cases h0 : src ≠ 0
  · exact rz0 (nT 1 0 h0 base)
  · by_cases h1 : size ≠ 0
    · exact rz0 (nT 3 0 h1 (nF 1 0 h0 base))
    · exact rz0 (nF 3 0 h1 (nF 1 0 h0 base))
theorem rr_24_11 (dst src imm size cond : Int) (w : World) (d1 : 0 ≤ dst) (d2 : dst ≤ 15) (s1 : 0 ≤ src) (s2 : src ≤ 15) (i1 : -2147483648 ≤ imm) (i2 : imm ≤ 2147483647) :
    RrG 24 dst src imm size cond 1 1 true ⟨⟨[]⟩⟩ w := by
  have base := rbase dst src imm size cond d1 d2 s1 s2 i1 i2
  by_cases h0 : src ≠ 0
  · exact rz0 (nT 1 0 h0 base)
  · by_cases h1 : size ≠ 0
    · exact rz0 (nT 3 0 h1 (nF 1 0 h0 base))
    · exact rz0 (nF 3 0 h1 (nF 1 0 h0 base))
theorem rr_35_00 (dst src imm size cond : Int) (b : UInt8) (bs : List UInt8) (w : World) (d1 : 0 ≤ dst) (d2 : dst ≤ 15) (s1 : 0 ≤ src) (s2 : src ≤ 15) (i1 : -2147483648 ≤ imm) (i2 : imm ≤ 2147483647) :
    RrG 35 dst src imm size cond 0 0 false ⟨⟨b :: bs⟩⟩ w := by
  have base := rbase dst src imm size cond d1 d2 s1 s2 i1 i2
  by_cases h0 : dst ≠ 0
  · exact rz0 (nT 0 0 h0 base)
  · by_cases h1 : src ≠ 0
    · exact rz0 (nT 1 0 h1 (nF 0 0 h0 base))
    · by_cases h2 : imm ≠ 0
      · exact rz0 (nT 2 0 h2 (nF 1 0 h1 (nF 0 0 h0 base)))
      · by_cases h3 : size ≠ 0
        · exact rz0 (nT 3 0 h3 (nF 2 0 h2 (nF 1 0 h1 (nF 0 0 h0 base))))
        · by_cases h4 : cond ≠ 0
          · exact rz0 (nT 4 0 h4 (nF 3 0 h3 (nF 2 0 h2 (nF 1 0 h1 (nF 0 0 h0 base)))))
          · exact rz1 (nF 4 0 h4 (nF 3 0 h3 (nF 2 0 h2 (nF 1 0 h1 (nF 0 0 h0 base)))))
theorem rr_35_01 (dst src imm size cond : Int) (w : World) (d1 : 0 ≤ dst) (d2 : dst ≤ 15) (s1 : 0 ≤ src) (s2 : src ≤ 15) (i1 : -2147483648 ≤ imm) (i2 : imm ≤ 2147483647) :
    RrG 35 dst src imm size cond 0 1 false ⟨⟨[]⟩⟩ w := by
  have base := rbase dst src imm size cond d1 d2 s1 s2 i1 i2
  by_cases h0 : dst ≠ 0
  · exact rz0 (nT 0 0 h0 base)
  · by_cases h1 : src ≠ 0
    · exact rz0 (nT 1 0 h1 (nF 0 0 h0 base))
    · by_cases h2 : imm ≠ 0
      · exact rz0 (nT 2 0 h2 (nF 1 0 h1 (nF 0 0 h0 base)))
      · by_cases h3 : size ≠ 0
        · exact rz0 (nT 3 0 h3 (nF 2 0 h2 (nF 1 0 h1 (nF 0 0 h0 base))))
        · by_cases h4 : cond ≠ 0
          · exact rz0 (nT 4 0 h4 (nF 3 0 h3 (nF 2 0 h2 (nF 1 0 h1 (nF 0 0 h0 base)))))
          · exact rz1 (nF 4 0 h4 (nF 3 0 h3 (nF 2 0 h2 (nF 1 0 h1 (nF 0 0 h0 base)))))
theorem rr_35_10 (dst src imm size cond : Int) (b : UInt8) (bs : List UInt8) (w : World) (d1 : 0 ≤ dst) (d2 : dst ≤ 15) (s1 : 0 ≤ src) (s2 : src ≤ 15) (i1 : -2147483648 ≤ imm) (i2 : imm ≤ 2147483647) :
    RrG 35 dst src imm size cond 1 0 true ⟨⟨b :: bs⟩⟩ w := by
  have base := rbase dst src imm size cond d1 d2 s1 s2 i1 i2
  by_cases h0 : dst ≠ 0
  · exact rz0 (nT 0 0 h0 base)
  · by_cases h1 : src ≠ 0
    · exact rz0 (nT 1 0 h1 (nF 0 0 h0 base))
    · by_cases h2 : imm ≠ 0
      · exact rz0 (nT 2 0 h2 (nF 1 0 h1 (nF 0 0 h0 base)))
      · by_cases h3 : size ≠ 0
        · exact rz0 (nT 3 0 h3 (nF 2 0 h2 (nF 1 0 h1 (nF 0 0 h0 base))))
        · exact rz0 (nF 3 0 h3 (nF 2 0 h2 (nF 1 0 h1 (nF 0 0 h0 base))))
theorem rr_35_11 (dst src imm size cond : Int) (w : World) (d1 : 0 ≤ dst) (d2 : dst ≤ 15) (s1 : 0 ≤ src) (s2 : src ≤ 15) (i1 : -2147483648 ≤ imm) (i2 : imm ≤ 2147483647) :
    RrG 35 dst src imm size cond 1 1 true ⟨⟨[]⟩⟩ w := by
  have base := rbase dst src imm size cond d1 d2 s1 s2 i1 i2
  by_cases h0 : dst ≠ 0
  · exact rz0 (nT 0 0 h0 base)
  · by_cases h1 : src ≠ 0
    · exact rz0 (nT 1 0 h1 (nF 0 0 h0 base))
    · by_cases h2 : imm ≠ 0
      · exact rz0 (nT 2 0 h2 (nF 1 0 h1 (nF 0 0 h0 base)))
      · by_cases h3 : size ≠ 0
        · exact rz0 (nT 3 0 h3 (nF 2 0 h2 (nF 1 0 h1 (nF 0 0 h0 base))))
        · exact rz0 (nF 3 0 h3 (nF 2 0 h2 (nF 1 0 h1 (nF 0 0 h0 base))))
end Go.Proofs.YtmmpkkpmlaiapaaGreatDoor
