/- The document's Right, run: operations 2, 10, 18, 34, 36. The document's Right, run: operations 4, 5, 14, 21, 27, 40. No condition. -/
import Derived.Test.YtmmpkkpmlaiapaaGreatDoorQg
namespace Go.Proofs.YtmmpkkpmlaiapaaGreatDoor
open Go.RowKit
set_option linter.unusedVariables false
theorem rr_2_00 (dst src imm size cond : Int) (b : UInt8) (bs : List UInt8) (w : World) (d1 : 0 ≤ dst) (d2 : dst ≤ 15) (s1 : 0 ≤ src) (s2 : src ≤ 15) :
    RrG 2 dst src imm size cond 0 0 false ⟨⟨b :: bs⟩⟩ w := by
  have base := rbase4 dst src imm size cond d1 d2 s1 s2
  by_cases h0 : src ≠ 0
  · exact rz0 (nT 1 0 h0 base)
  · by_cases h1 : size ≠ 0
    · exact rz0 (nT 3 0 h1 (nF 1 0 h0 base))
    · by_cases h2 : cond ≠ 0
      · exact rz0 (nT 4 0 h2 (nF 3 0 h1 (nF 1 0 h0 base)))
      · exact rz0 (nF 4 0 h2 (nF 3 0 h1 (nF 1 0 h0 base)))
theorem rr_2_01 (dst src imm size cond : Int) (w : World) (d1 : 0 ≤ dst) (d2 : dst ≤ 15) (s1 : 0 ≤ src) (s2 : src ≤ 15) :
    RrG 2 dst src imm size cond 0 1 false ⟨⟨[]⟩⟩ w := by
  have base := rbase4 dst src imm size cond d1 d2 s1 s2
  by_cases h0 : src ≠ 0
  · exact rz0 (nT 1 0 h0 base)
  · by_cases h1 : size ≠ 0
    · exact rz0 (nT 3 0 h1 (nF 1 0 h0 base))
    · by_cases h2 : cond ≠ 0
      · exact rz0 (nT 4 0 h2 (nF 3 0 h1 (nF 1 0 h0 base)))
      · exact rz1 (nF 4 0 h2 (nF 3 0 h1 (nF 1 0 h0 base)))
theorem rr_2_10 (dst src imm size cond : Int) (b : UInt8) (bs : List UInt8) (w : World) (d1 : 0 ≤ dst) (d2 : dst ≤ 15) (s1 : 0 ≤ src) (s2 : src ≤ 15) :
    RrG 2 dst src imm size cond 1 0 true ⟨⟨b :: bs⟩⟩ w := by
  have base := rbase4 dst src imm size cond d1 d2 s1 s2
  by_cases h0 : src ≠ 0
  · exact rz0 (nT 1 0 h0 base)
  · by_cases h1 : size ≠ 0
    · exact rz0 (nT 3 0 h1 (nF 1 0 h0 base))
    · exact rz0 (nF 3 0 h1 (nF 1 0 h0 base))
theorem rr_2_11 (dst src imm size cond : Int) (w : World) (d1 : 0 ≤ dst) (d2 : dst ≤ 15) (s1 : 0 ≤ src) (s2 : src ≤ 15) :
    RrG 2 dst src imm size cond 1 1 true ⟨⟨[]⟩⟩ w := by
  have base := rbase4 dst src imm size cond d1 d2 s1 s2
  by_cases h0 : src ≠ 0
  · exact rz0 (nT 1 0 h0 base)
  · by_cases h1 : size ≠ 0
    · exact rz0 (nT 3 0 h1 (nF 1 0 h0 base))
    · exact rz0 (nF 3 0 h1 (nF 1 0 h0 base))
theorem rr_10_00 (dst src imm size cond : Int) (b : UInt8) (bs : List UInt8) (w : World) (d1 : 0 ≤ dst) (d2 : dst ≤ 15) (s1 : 0 ≤ src) (s2 : src ≤ 15) (i1 : -2147483648 ≤ imm) (i2 : imm ≤ 2147483647) :
    RrG 10 dst src imm size cond 0 0 false ⟨⟨b :: bs⟩⟩ w := by
  have base := rbase dst src imm size cond d1 d2 s1 s2 i1 i2
  by_cases h0 : imm ≠ 0
  · exact rz0 (nT 2 0 h0 base)
  · by_cases h1 : size ≠ 0
    · exact rz0 (nT 3 0 h1 (nF 2 0 h0 base))
    · by_cases h2 : cond ≠ 0
      · exact rz0 (nT 4 0 h2 (nF 3 0 h1 (nF 2 0 h0 base)))
      · exact rz0 (nF 4 0 h2 (nF 3 0 h1 (nF 2 0 h0 base)))
theorem rr_10_01 (dst src imm size cond : Int) (w : World) (d1 : 0 ≤ dst) (d2 : dst ≤ 15) (s1 : 0 ≤ src) (s2 : src ≤ 15) (i1 : -2147483648 ≤ imm) (i2 : imm ≤ 2147483647) :
    RrG 10 dst src imm size cond 0 1 false ⟨⟨[]⟩⟩ w := by
  have base := rbase dst src imm size cond d1 d2 s1 s2 i1 i2
  by_cases h0 : imm ≠ 0
  · exact rz0 (nT 2 0 h0 base)
  · by_cases h1 : size ≠ 0
    · exact rz0 (nT 3 0 h1 (nF 2 0 h0 base))
    · by_cases h2 : cond ≠ 0
      · exact rz0 (nT 4 0 h2 (nF 3 0 h1 (nF 2 0 h0 base)))
      · exact rz1 (nF 4 0 h2 (nF 3 0 h1 (nF 2 0 h0 base)))
theorem rr_10_10 (dst src imm size cond : Int) (b : UInt8) (bs : List UInt8) (w : World) (d1 : 0 ≤ dst) (d2 : dst ≤ 15) (s1 : 0 ≤ src) (s2 : src ≤ 15) (i1 : -2147483648 ≤ imm) (i2 : imm ≤ 2147483647) :
    RrG 10 dst src imm size cond 1 0 true ⟨⟨b :: bs⟩⟩ w := by
  have base := rbase dst src imm size cond d1 d2 s1 s2 i1 i2
  by_cases h0 : imm ≠ 0
  · exact rz0 (nT 2 0 h0 base)
  · by_cases h1 : size ≠ 0
    · exact rz0 (nT 3 0 h1 (nF 2 0 h0 base))
    · exact rz0 (nF 3 0 h1 (nF 2 0 h0 base))
theorem rr_10_11 (dst src imm size cond : Int) (w : World) (d1 : 0 ≤ dst) (d2 : dst ≤ 15) (s1 : 0 ≤ src) (s2 : src ≤ 15) (i1 : -2147483648 ≤ imm) (i2 : imm ≤ 2147483647) :
    RrG 10 dst src imm size cond 1 1 true ⟨⟨[]⟩⟩ w := by
  have base := rbase dst src imm size cond d1 d2 s1 s2 i1 i2
  by_cases h0 : imm ≠ 0
  · exact rz0 (nT 2 0 h0 base)
  · by_cases h1 : size ≠ 0
    · exact rz0 (nT 3 0 h1 (nF 2 0 h0 base))
    · exact rz0 (nF 3 0 h1 (nF 2 0 h0 base))
theorem rr_18_00 (dst src imm size cond : Int) (b : UInt8) (bs : List UInt8) (w : World) (d1 : 0 ≤ dst) (d2 : dst ≤ 15) (s1 : 0 ≤ src) (s2 : src ≤ 15) (i1 : -2147483648 ≤ imm) (i2 : imm ≤ 2147483647) :
    RrG 18 dst src imm size cond 0 0 false ⟨⟨b :: bs⟩⟩ w := by
  have base := rbase dst src imm size cond d1 d2 s1 s2 i1 i2
  by_cases h0 : src ≠ 0
  · exact rz0 (nT 1 0 h0 base)
  · by_cases h1 : size ≠ 0
    · exact rz0 (nT 3 0 h1 (nF 1 0 h0 base))
    · by_cases h2 : cond ≠ 0
      · exact rz0 (nT 4 0 h2 (nF 3 0 h1 (nF 1 0 h0 base)))
      · exact rz0 (nF 4 0 h2 (nF 3 0 h1 (nF 1 0 h0 base)))
theorem rr_18_01 (dst src imm size cond : Int) (w : World) (d1 : 0 ≤ dst) (d2 : dst ≤ 15) (s1 : 0 ≤ src) (s2 : src ≤ 15) (i1 : -2147483648 ≤ imm) (i2 : imm ≤ 2147483647) :
    RrG 18 dst src imm size cond 0 1 false ⟨⟨[]⟩⟩ w := by
  have base := rbase dst src imm size cond d1 d2 s1 s2 i1 i2
  by_cases h0 : src ≠ 0
  · exact rz0 (nT 1 0 h0 base)
  · by_cases h1 : size ≠ 0
    · exact rz0 (nT 3 0 h1 (nF 1 0 h0 base))
    · by_cases h2 : cond ≠ 0
      · exact rz0 (nT 4 0 h2 (nF 3 0 h1 (nF 1 0 h0 base)))
      · exact rz1 (nF 4 0 h2 (nF 3 0 h1 (nF 1 0 h0 base)))
theorem rr_18_10 (dst src imm size cond : Int) (b : UInt8) (bs : List UInt8) (w : World) (d1 : 0 ≤ dst) (d2 : dst ≤ 15) (s1 : 0 ≤ src) (s2 : src ≤ 15) (i1 : -2147483648 ≤ imm) (i2 : imm ≤ 2147483647) :
    RrG 18 dst src imm size cond 1 0 true ⟨⟨b :: bs⟩⟩ w := by
  have base := rbase dst src imm size cond d1 d2 s1 s2 i1 i2
  by_cases h0 : src ≠ 0
  · exact rz0 (nT 1 0 h0 base)
  · by_cases h1 : size ≠ 0
    · exact rz0 (nT 3 0 h1 (nF 1 0 h0 base))
    · exact rz0 (nF 3 0 h1 (nF 1 0 h0 base))
theorem rr_18_11 (dst src imm size cond : Int) (w : World) (d1 : 0 ≤ dst) (d2 : dst ≤ 15) (s1 : 0 ≤ src) (s2 : src ≤ 15) (i1 : -2147483648 ≤ imm) (i2 : imm ≤ 2147483647) :
    RrG 18 dst src imm size cond 1 1 true ⟨⟨[]⟩⟩ w := by
  have base := rbase dst src imm size cond d1 d2 s1 s2 i1 i2
  by_cases h0 : src ≠ 0
  · exact rz0 (nT 1 0 h0 base)
  · by_cases h1 : size ≠ 0
    · exact rz0 (nT 3 0 h1 (nF 1 0 h0 base))
    · exact rz0 (nF 3 0 h1 (nF 1 0 h0 base))
theorem rr_34_00 (dst src imm size cond : Int) (b : UInt8) (bs : List UInt8) (w : World) (d1 : 0 ≤ dst) (d2 : dst ≤ 15) (s1 : 0 ≤ src) (s2 : src ≤ 15) (i1 : -2147483648 ≤ imm) (i2 : imm ≤ 2147483647) :
    RrG 34 dst src imm size cond 0 0 false ⟨⟨b :: bs⟩⟩ w := by
  have base := rbase dst src imm size cond d1 d2 s1 s2 i1 i2
  by_cases h0 : dst ≠ 0
  · exact rz0 (nT 0 0 h0 base)
  · by_cases h1 : src ≠ 0
    · exact rz0 (nT 1 0 h1 (nF 0 0 h0 base))
    · by_cases h2 : imm ≠ 0
      · exact rz0 (nT 2 0 h2 (nF 1 0 h1 (nF 0 0 h0 base)))
      · by_cases h3 : size ≠ 0
        · exact rz0 (nT 3 0 h3 (nF 2 0 h2 (nF 1 0 h1 (nF 0 0 h0 base))))
        · by_cases h4 : cond < 0
          · exact rz0 (kn_cons (kn_lss 4 0 true (decide_eq_true (h4))) (nF 3 0 h3 (nF 2 0 h2 (nF 1 0 h1 (nF 0 0 h0 base)))))
          · by_cases h5 : cond > 9
            · exact rz0 (kn_cons (kn_gtr 4 9 true (decide_eq_true (h5))) (kn_cons (kn_lss 4 0 false (decide_eq_false (h4))) (nF 3 0 h3 (nF 2 0 h2 (nF 1 0 h1 (nF 0 0 h0 base))))))
            · exact rz1 (kn_cons (kn_gtr 4 9 false (decide_eq_false (h5))) (kn_cons (kn_lss 4 0 false (decide_eq_false (h4))) (nF 3 0 h3 (nF 2 0 h2 (nF 1 0 h1 (nF 0 0 h0 base))))))
theorem rr_34_01 (dst src imm size cond : Int) (w : World) (d1 : 0 ≤ dst) (d2 : dst ≤ 15) (s1 : 0 ≤ src) (s2 : src ≤ 15) (i1 : -2147483648 ≤ imm) (i2 : imm ≤ 2147483647) :
    RrG 34 dst src imm size cond 0 1 false ⟨⟨[]⟩⟩ w := by
  have base := rbase dst src imm size cond d1 d2 s1 s2 i1 i2
  by_cases h0 : dst ≠ 0
  · exact rz0 (nT 0 0 h0 base)
  · by_cases h1 : src ≠ 0
    · exact rz0 (nT 1 0 h1 (nF 0 0 h0 base))
    · by_cases h2 : imm ≠ 0
      · exact rz0 (nT 2 0 h2 (nF 1 0 h1 (nF 0 0 h0 base)))
      · by_cases h3 : size ≠ 0
        · exact rz0 (nT 3 0 h3 (nF 2 0 h2 (nF 1 0 h1 (nF 0 0 h0 base))))
        · by_cases h4 : cond < 0
          · exact rz0 (kn_cons (kn_lss 4 0 true (decide_eq_true (h4))) (nF 3 0 h3 (nF 2 0 h2 (nF 1 0 h1 (nF 0 0 h0 base)))))
          · by_cases h5 : cond > 9
            · exact rz0 (kn_cons (kn_gtr 4 9 true (decide_eq_true (h5))) (kn_cons (kn_lss 4 0 false (decide_eq_false (h4))) (nF 3 0 h3 (nF 2 0 h2 (nF 1 0 h1 (nF 0 0 h0 base))))))
            · exact rz1 (kn_cons (kn_gtr 4 9 false (decide_eq_false (h5))) (kn_cons (kn_lss 4 0 false (decide_eq_false (h4))) (nF 3 0 h3 (nF 2 0 h2 (nF 1 0 h1 (nF 0 0 h0 base))))))
theorem rr_34_10 (dst src imm size cond : Int) (b : UInt8) (bs : List UInt8) (w : World) (d1 : 0 ≤ dst) (d2 : dst ≤ 15) (s1 : 0 ≤ src) (s2 : src ≤ 15) (i1 : -2147483648 ≤ imm) (i2 : imm ≤ 2147483647) :
    RrG 34 dst src imm size cond 1 0 true ⟨⟨b :: bs⟩⟩ w := by
  have base := rbase dst src imm size cond d1 d2 s1 s2 i1 i2
  by_cases h0 : dst ≠ 0
  · exact rz0 (nT 0 0 h0 base)
  · by_cases h1 : src ≠ 0
    · exact rz0 (nT 1 0 h1 (nF 0 0 h0 base))
    · by_cases h2 : imm ≠ 0
      · exact rz0 (nT 2 0 h2 (nF 1 0 h1 (nF 0 0 h0 base)))
      · by_cases h3 : size ≠ 0
        · exact rz0 (nT 3 0 h3 (nF 2 0 h2 (nF 1 0 h1 (nF 0 0 h0 base))))
        · exact rz0 (nF 3 0 h3 (nF 2 0 h2 (nF 1 0 h1 (nF 0 0 h0 base))))
theorem rr_34_11 (dst src imm size cond : Int) (w : World) (d1 : 0 ≤ dst) (d2 : dst ≤ 15) (s1 : 0 ≤ src) (s2 : src ≤ 15) (i1 : -2147483648 ≤ imm) (i2 : imm ≤ 2147483647) :
    RrG 34 dst src imm size cond 1 1 true ⟨⟨[]⟩⟩ w := by
  have base := rbase dst src imm size cond d1 d2 s1 s2 i1 i2
  by_cases h0 : dst ≠ 0
  · exact rz0 (nT 0 0 h0 base)
  · by_cases h1 : src ≠ 0
    · exact rz0 (nT 1 0 h1 (nF 0 0 h0 base))
    · by_cases h2 : imm ≠ 0
      · exact rz0 (nT 2 0 h2 (nF 1 0 h1 (nF 0 0 h0 base)))
      · by_cases h3 : size ≠ 0
        · exact rz0 (nT 3 0 h3 (nF 2 0 h2 (nF 1 0 h1 (nF 0 0 h0 base))))
        · exact rz0 (nF 3 0 h3 (nF 2 0 h2 (nF 1 0 h1 (nF 0 0 h0 base))))
theorem rr_36_00 (dst src imm size cond : Int) (b : UInt8) (bs : List UInt8) (w : World) (d1 : 0 ≤ dst) (d2 : dst ≤ 15) (s1 : 0 ≤ src) (s2 : src ≤ 15) (i1 : -2147483648 ≤ imm) (i2 : imm ≤ 2147483647) :
    RrG 36 dst src imm size cond 0 0 false ⟨⟨b :: bs⟩⟩ w := by
  have base := rbase dst src imm size cond d1 d2 s1 s2 i1 i2
  by_cases h0 : src ≠ 0
  · exact rz0 (nT 1 0 h0 base)
  · by_cases h1 : imm ≠ 0
    · exact rz0 (nT 2 0 h1 (nF 1 0 h0 base))
    · by_cases h2 : size ≠ 0
      · exact rz0 (nT 3 0 h2 (nF 2 0 h1 (nF 1 0 h0 base)))
      · by_cases h3 : cond ≠ 0
        · exact rz0 (nT 4 0 h3 (nF 3 0 h2 (nF 2 0 h1 (nF 1 0 h0 base))))
        · exact rz0 (nF 4 0 h3 (nF 3 0 h2 (nF 2 0 h1 (nF 1 0 h0 base))))
theorem rr_36_01 (dst src imm size cond : Int) (w : World) (d1 : 0 ≤ dst) (d2 : dst ≤ 15) (s1 : 0 ≤ src) (s2 : src ≤ 15) (i1 : -2147483648 ≤ imm) (i2 : imm ≤ 2147483647) :
    RrG 36 dst src imm size cond 0 1 false ⟨⟨[]⟩⟩ w := by
  have base := rbase dst src imm size cond d1 d2 s1 s2 i1 i2
  by_cases h0 : src ≠ 0
  · exact rz0 (nT 1 0 h0 base)
  · by_cases h1 : imm ≠ 0
    · exact rz0 (nT 2 0 h1 (nF 1 0 h0 base))
    · by_cases h2 : size ≠ 0
      · exact rz0 (nT 3 0 h2 (nF 2 0 h1 (nF 1 0 h0 base)))
      · by_cases h3 : cond ≠ 0
        · exact rz0 (nT 4 0 h3 (nF 3 0 h2 (nF 2 0 h1 (nF 1 0 h0 base))))
        · exact rz1 (nF 4 0 h3 (nF 3 0 h2 (nF 2 0 h1 (nF 1 0 h0 base))))
theorem rr_36_10 (dst src imm size cond : Int) (b : UInt8) (bs : List UInt8) (w : World) (d1 : 0 ≤ dst) (d2 : dst ≤ 15) (s1 : 0 ≤ src) (s2 : src ≤ 15) (i1 : -2147483648 ≤ imm) (i2 : imm ≤ 2147483647) :
    RrG 36 dst src imm size cond 1 0 true ⟨⟨b :: bs⟩⟩ w := by
  have base := rbase dst src imm size cond d1 d2 s1 s2 i1 i2
  by_cases h0 : src ≠ 0
  · exact rz0 (nT 1 0 h0 base)
  · by_cases h1 : imm ≠ 0
    · exact rz0 (nT 2 0 h1 (nF 1 0 h0 base))
    · by_cases h2 : size ≠ 0
      · exact rz0 (nT 3 0 h2 (nF 2 0 h1 (nF 1 0 h0 base)))
      · exact rz0 (nF 3 0 h2 (nF 2 0 h1 (nF 1 0 h0 base)))
theorem rr_36_11 (dst src imm size cond : Int) (w : World) (d1 : 0 ≤ dst) (d2 : dst ≤ 15) (s1 : 0 ≤ src) (s2 : src ≤ 15) (i1 : -2147483648 ≤ imm) (i2 : imm ≤ 2147483647) :
    RrG 36 dst src imm size cond 1 1 true ⟨⟨[]⟩⟩ w := by
  have base := rbase dst src imm size cond d1 d2 s1 s2 i1 i2
  by_cases h0 : src ≠ 0
  · exact rz0 (nT 1 0 h0 base)
  · by_cases h1 : imm ≠ 0
    · exact rz0 (nT 2 0 h1 (nF 1 0 h0 base))
    · by_cases h2 : size ≠ 0
      · exact rz0 (nT 3 0 h2 (nF 2 0 h1 (nF 1 0 h0 base)))
      · exact rz0 (nF 3 0 h2 (nF 2 0 h1 (nF 1 0 h0 base)))
end Go.Proofs.YtmmpkkpmlaiapaaGreatDoor
namespace Go.Proofs.YtmmpkkpmlaiapaaGreatDoor
open Go.RowKit
set_option linter.unusedVariables false
theorem rr_4_00 (dst src imm size cond : Int) (b : UInt8) (bs : List UInt8) (w : World) (d1 : 0 ≤ dst) (d2 : dst ≤ 15) (s1 : 0 ≤ src) (s2 : src ≤ 15) (i1 : -2147483648 ≤ imm) (i2 : imm ≤ 2147483647) :
    RrG 4 dst src imm size cond 0 0 false ⟨⟨b :: bs⟩⟩ w := by
  have base := rbase dst src imm size cond d1 d2 s1 s2 i1 i2
  by_cases h0 : cond ≠ 0
  · exact rz0 (nT 4 0 h0 base)
  · exact rz0 (nF 4 0 h0 base)
theorem rr_4_01 (dst src imm size cond : Int) (w : World) (d1 : 0 ≤ dst) (d2 : dst ≤ 15) (s1 : 0 ≤ src) (s2 : src ≤ 15) (i1 : -2147483648 ≤ imm) (i2 : imm ≤ 2147483647) :
    RrG 4 dst src imm size cond 0 1 false ⟨⟨[]⟩⟩ w := by
  have base := rbase dst src imm size cond d1 d2 s1 s2 i1 i2
  by_cases h0 : cond ≠ 0
  · exact rz0 (nT 4 0 h0 base)
  · by_cases h1 : size ≠ 1
    · by_cases h2 : size ≠ 2
      · by_cases h3 : size ≠ 4
        · by_cases h4 : size ≠ 8
          · exact rz0 (nT 3 8 h4 (nT 3 4 h3 (nT 3 2 h2 (nT 3 1 h1 (nF 4 0 h0 base)))))
          · exact rz1 (nF 3 8 h4 (nT 3 4 h3 (nT 3 2 h2 (nT 3 1 h1 (nF 4 0 h0 base)))))
        · exact rz1 (nF 3 4 h3 (nT 3 2 h2 (nT 3 1 h1 (nF 4 0 h0 base))))
      · exact rz1 (nF 3 2 h2 (nT 3 1 h1 (nF 4 0 h0 base)))
    · exact rz1 (nF 3 1 h1 (nF 4 0 h0 base))
theorem rr_4_10 (dst src imm size cond : Int) (b : UInt8) (bs : List UInt8) (w : World) (d1 : 0 ≤ dst) (d2 : dst ≤ 15) (s1 : 0 ≤ src) (s2 : src ≤ 15) (i1 : -2147483648 ≤ imm) (i2 : imm ≤ 2147483647) :
    RrG 4 dst src imm size cond 1 0 true ⟨⟨b :: bs⟩⟩ w := by
  have base := rbase dst src imm size cond d1 d2 s1 s2 i1 i2
  exact rz0 base
theorem rr_4_11 (dst src imm size cond : Int) (w : World) (d1 : 0 ≤ dst) (d2 : dst ≤ 15) (s1 : 0 ≤ src) (s2 : src ≤ 15) (i1 : -2147483648 ≤ imm) (i2 : imm ≤ 2147483647) :
    RrG 4 dst src imm size cond 1 1 true ⟨⟨[]⟩⟩ w := by
  have base := rbase dst src imm size cond d1 d2 s1 s2 i1 i2
  exact rz0 base
theorem rr_5_00 (dst src imm size cond : Int) (b : UInt8) (bs : List UInt8) (w : World) (d1 : 0 ≤ dst) (d2 : dst ≤ 15) (s1 : 0 ≤ src) (s2 : src ≤ 15) (i1 : -2147483648 ≤ imm) (i2 : imm ≤ 2147483647) :
    RrG 5 dst src imm size cond 0 0 false ⟨⟨b :: bs⟩⟩ w := by
  have base := rbase dst src imm size cond d1 d2 s1 s2 i1 i2
  by_cases h0 : size ≠ 0
  · exact rz0 (nT 3 0 h0 base)
  · by_cases h1 : cond ≠ 0
    · exact rz0 (nT 4 0 h1 (nF 3 0 h0 base))
    · exact rz0 (nF 4 0 h1 (nF 3 0 h0 base))
theorem rr_5_01 (dst src imm size cond : Int) (w : World) (d1 : 0 ≤ dst) (d2 : dst ≤ 15) (s1 : 0 ≤ src) (s2 : src ≤ 15) (i1 : -2147483648 ≤ imm) (i2 : imm ≤ 2147483647) :
    RrG 5 dst src imm size cond 0 1 false ⟨⟨[]⟩⟩ w := by
  have base := rbase dst src imm size cond d1 d2 s1 s2 i1 i2
  by_cases h0 : size ≠ 0
  · exact rz0 (nT 3 0 h0 base)
  · by_cases h1 : cond ≠ 0
    · exact rz0 (nT 4 0 h1 (nF 3 0 h0 base))
    · exact rz1 (nF 4 0 h1 (nF 3 0 h0 base))
theorem rr_5_10 (dst src imm size cond : Int) (b : UInt8) (bs : List UInt8) (w : World) (d1 : 0 ≤ dst) (d2 : dst ≤ 15) (s1 : 0 ≤ src) (s2 : src ≤ 15) (i1 : -2147483648 ≤ imm) (i2 : imm ≤ 2147483647) :
    RrG 5 dst src imm size cond 1 0 true ⟨⟨b :: bs⟩⟩ w := by
  have base := rbase dst src imm size cond d1 d2 s1 s2 i1 i2
  by_cases h0 : size ≠ 0
  · exact rz0 (nT 3 0 h0 base)
  · exact rz0 (nF 3 0 h0 base)
theorem rr_5_11 (dst src imm size cond : Int) (w : World) (d1 : 0 ≤ dst) (d2 : dst ≤ 15) (s1 : 0 ≤ src) (s2 : src ≤ 15) (i1 : -2147483648 ≤ imm) (i2 : imm ≤ 2147483647) :
    RrG 5 dst src imm size cond 1 1 true ⟨⟨[]⟩⟩ w := by
  have base := rbase dst src imm size cond d1 d2 s1 s2 i1 i2
  by_cases h0 : size ≠ 0
  · exact rz0 (nT 3 0 h0 base)
  · exact rz0 (nF 3 0 h0 base)
theorem rr_14_00 (dst src imm size cond : Int) (b : UInt8) (bs : List UInt8) (w : World) (d1 : 0 ≤ dst) (d2 : dst ≤ 15) (s1 : 0 ≤ src) (s2 : src ≤ 15) (i1 : -2147483648 ≤ imm) (i2 : imm ≤ 2147483647) :
    RrG 14 dst src imm size cond 0 0 false ⟨⟨b :: bs⟩⟩ w := by
  have base := rbase dst src imm size cond d1 d2 s1 s2 i1 i2
  by_cases h0 : src ≠ 0
  · exact rz0 (nT 1 0 h0 base)
  · by_cases h1 : size ≠ 0
    · exact rz0 (nT 3 0 h1 (nF 1 0 h0 base))
    · by_cases h2 : cond ≠ 0
      · exact rz0 (nT 4 0 h2 (nF 3 0 h1 (nF 1 0 h0 base)))
      · exact rz0 (nF 4 0 h2 (nF 3 0 h1 (nF 1 0 h0 base)))
theorem rr_14_01 (dst src imm size cond : Int) (w : World) (d1 : 0 ≤ dst) (d2 : dst ≤ 15) (s1 : 0 ≤ src) (s2 : src ≤ 15) (i1 : -2147483648 ≤ imm) (i2 : imm ≤ 2147483647) :
    RrG 14 dst src imm size cond 0 1 false ⟨⟨[]⟩⟩ w := by
  have base := rbase dst src imm size cond d1 d2 s1 s2 i1 i2
  by_cases h0 : src ≠ 0
  · exact rz0 (nT 1 0 h0 base)
  · by_cases h1 : size ≠ 0
    · exact rz0 (nT 3 0 h1 (nF 1 0 h0 base))
    · by_cases h2 : cond ≠ 0
      · exact rz0 (nT 4 0 h2 (nF 3 0 h1 (nF 1 0 h0 base)))
      · exact rz1 (nF 4 0 h2 (nF 3 0 h1 (nF 1 0 h0 base)))
theorem rr_14_10 (dst src imm size cond : Int) (b : UInt8) (bs : List UInt8) (w : World) (d1 : 0 ≤ dst) (d2 : dst ≤ 15) (s1 : 0 ≤ src) (s2 : src ≤ 15) (i1 : -2147483648 ≤ imm) (i2 : imm ≤ 2147483647) :
    RrG 14 dst src imm size cond 1 0 true ⟨⟨b :: bs⟩⟩ w := by
  have base := rbase dst src imm size cond d1 d2 s1 s2 i1 i2
  by_cases h0 : src ≠ 0
  · exact rz0 (nT 1 0 h0 base)
  · by_cases h1 : size ≠ 0
    · exact rz0 (nT 3 0 h1 (nF 1 0 h0 base))
    · exact rz0 (nF 3 0 h1 (nF 1 0 h0 base))
theorem rr_14_11 (dst src imm size cond : Int) (w : World) (d1 : 0 ≤ dst) (d2 : dst ≤ 15) (s1 : 0 ≤ src) (s2 : src ≤ 15) (i1 : -2147483648 ≤ imm) (i2 : imm ≤ 2147483647) :
    RrG 14 dst src imm size cond 1 1 true ⟨⟨[]⟩⟩ w := by
  have base := rbase dst src imm size cond d1 d2 s1 s2 i1 i2
  by_cases h0 : src ≠ 0
  · exact rz0 (nT 1 0 h0 base)
  · by_cases h1 : size ≠ 0
    · exact rz0 (nT 3 0 h1 (nF 1 0 h0 base))
    · exact rz0 (nF 3 0 h1 (nF 1 0 h0 base))
theorem rr_21_00 (dst src imm size cond : Int) (b : UInt8) (bs : List UInt8) (w : World) (d1 : 0 ≤ dst) (d2 : dst ≤ 15) (s1 : 0 ≤ src) (s2 : src ≤ 15) (i1 : -2147483648 ≤ imm) (i2 : imm ≤ 2147483647) :
    RrG 21 dst src imm size cond 0 0 false ⟨⟨b :: bs⟩⟩ w := by
  have base := rbase dst src imm size cond d1 d2 s1 s2 i1 i2
  by_cases h0 : src ≠ 0
  · exact rz0 (nT 1 0 h0 base)
  · by_cases h1 : imm ≠ 0
    · exact rz0 (nT 2 0 h1 (nF 1 0 h0 base))
    · by_cases h2 : size ≠ 0
      · exact rz0 (nT 3 0 h2 (nF 2 0 h1 (nF 1 0 h0 base)))
      · by_cases h3 : cond ≠ 0
        · exact rz0 (nT 4 0 h3 (nF 3 0 h2 (nF 2 0 h1 (nF 1 0 h0 base))))
        · exact rz0 (nF 4 0 h3 (nF 3 0 h2 (nF 2 0 h1 (nF 1 0 h0 base))))
theorem rr_21_01 (dst src imm size cond : Int) (w : World) (d1 : 0 ≤ dst) (d2 : dst ≤ 15) (s1 : 0 ≤ src) (s2 : src ≤ 15) (i1 : -2147483648 ≤ imm) (i2 : imm ≤ 2147483647) :
    RrG 21 dst src imm size cond 0 1 false ⟨⟨[]⟩⟩ w := by
  have base := rbase dst src imm size cond d1 d2 s1 s2 i1 i2
  by_cases h0 : src ≠ 0
  · exact rz0 (nT 1 0 h0 base)
  · by_cases h1 : imm ≠ 0
    · exact rz0 (nT 2 0 h1 (nF 1 0 h0 base))
    · by_cases h2 : size ≠ 0
      · exact rz0 (nT 3 0 h2 (nF 2 0 h1 (nF 1 0 h0 base)))
      · by_cases h3 : cond ≠ 0
        · exact rz0 (nT 4 0 h3 (nF 3 0 h2 (nF 2 0 h1 (nF 1 0 h0 base))))
        · exact rz1 (nF 4 0 h3 (nF 3 0 h2 (nF 2 0 h1 (nF 1 0 h0 base))))
theorem rr_21_10 (dst src imm size cond : Int) (b : UInt8) (bs : List UInt8) (w : World) (d1 : 0 ≤ dst) (d2 : dst ≤ 15) (s1 : 0 ≤ src) (s2 : src ≤ 15) (i1 : -2147483648 ≤ imm) (i2 : imm ≤ 2147483647) :
    RrG 21 dst src imm size cond 1 0 true ⟨⟨b :: bs⟩⟩ w := by
  have base := rbase dst src imm size cond d1 d2 s1 s2 i1 i2
  by_cases h0 : src ≠ 0
  · exact rz0 (nT 1 0 h0 base)
  · by_cases h1 : imm ≠ 0
    · exact rz0 (nT 2 0 h1 (nF 1 0 h0 base))
    · by_cases h2 : size ≠ 0
      · exact rz0 (nT 3 0 h2 (nF 2 0 h1 (nF 1 0 h0 base)))
      · exact rz0 (nF 3 0 h2 (nF 2 0 h1 (nF 1 0 h0 base)))
theorem rr_21_11 (dst src imm size cond : Int) (w : World) (d1 : 0 ≤ dst) (d2 : dst ≤ 15) (s1 : 0 ≤ src) (s2 : src ≤ 15) (i1 : -2147483648 ≤ imm) (i2 : imm ≤ 2147483647) :
    RrG 21 dst src imm size cond 1 1 true ⟨⟨[]⟩⟩ w := by
  have base := rbase dst src imm size cond d1 d2 s1 s2 i1 i2
  by_cases h0 : src ≠ 0
  · exact rz0 (nT 1 0 h0 base)
  · by_cases h1 : imm ≠ 0
    · exact rz0 (nT 2 0 h1 (nF 1 0 h0 base))
    · by_cases h2 : size ≠ 0
      · exact rz0 (nT 3 0 h2 (nF 2 0 h1 (nF 1 0 h0 base)))
      · exact rz0 (nF 3 0 h2 (nF 2 0 h1 (nF 1 0 h0 base)))
theorem rr_27_00 (dst src imm size cond : Int) (b : UInt8) (bs : List UInt8) (w : World) (d1 : 0 ≤ dst) (d2 : dst ≤ 15) (s1 : 0 ≤ src) (s2 : src ≤ 15) (i1 : -2147483648 ≤ imm) (i2 : imm ≤ 2147483647) :
    RrG 27 dst src imm size cond 0 0 false ⟨⟨b :: bs⟩⟩ w := by
  have base := rbase dst src imm size cond d1 d2 s1 s2 i1 i2
  by_cases h0 : dst ≠ 0
  · exact rz0 (nT 0 0 h0 base)
  · by_cases h1 : src ≠ 0
    · exact rz0 (nT 1 0 h1 (nF 0 0 h0 base))
    · by_cases h2 : imm ≠ 0
      · exact rz0 (nT 2 0 h2 (nF 1 0 h1 (nF 0 0 h0 base)))
      · by_cases h3 : size ≠ 0
        · exact rz0 (nT 3 0 h3 (nF 2 0 h2 (nF 1 0 h1 (nF 0 0 h0 base))))
        · by_cases h4 : cond ≠ 0
          · exact rz0 (nT 4 0 h4 (nF 3 0 h3 (nF 2 0 h2 (nF 1 0 h1 (nF 0 0 h0 base)))))
          · exact rz0 (nF 4 0 h4 (nF 3 0 h3 (nF 2 0 h2 (nF 1 0 h1 (nF 0 0 h0 base)))))
theorem rr_27_01 (dst src imm size cond : Int) (w : World) (d1 : 0 ≤ dst) (d2 : dst ≤ 15) (s1 : 0 ≤ src) (s2 : src ≤ 15) (i1 : -2147483648 ≤ imm) (i2 : imm ≤ 2147483647) :
    RrG 27 dst src imm size cond 0 1 false ⟨⟨[]⟩⟩ w := by
  have base := rbase dst src imm size cond d1 d2 s1 s2 i1 i2
  by_cases h0 : dst ≠ 0
  · exact rz0 (nT 0 0 h0 base)
  · by_cases h1 : src ≠ 0
    · exact rz0 (nT 1 0 h1 (nF 0 0 h0 base))
    · by_cases h2 : imm ≠ 0
      · exact rz0 (nT 2 0 h2 (nF 1 0 h1 (nF 0 0 h0 base)))
      · by_cases h3 : size ≠ 0
        · exact rz0 (nT 3 0 h3 (nF 2 0 h2 (nF 1 0 h1 (nF 0 0 h0 base))))
        · by_cases h4 : cond ≠ 0
          · exact rz0 (nT 4 0 h4 (nF 3 0 h3 (nF 2 0 h2 (nF 1 0 h1 (nF 0 0 h0 base)))))
          · exact rz1 (nF 4 0 h4 (nF 3 0 h3 (nF 2 0 h2 (nF 1 0 h1 (nF 0 0 h0 base)))))
theorem rr_27_10 (dst src imm size cond : Int) (b : UInt8) (bs : List UInt8) (w : World) (d1 : 0 ≤ dst) (d2 : dst ≤ 15) (s1 : 0 ≤ src) (s2 : src ≤ 15) (i1 : -2147483648 ≤ imm) (i2 : imm ≤ 2147483647) :
    RrG 27 dst src imm size cond 1 0 true ⟨⟨b :: bs⟩⟩ w := by
  have base := rbase dst src imm size cond d1 d2 s1 s2 i1 i2
  by_cases h0 : dst ≠ 0
  · exact rz0 (nT 0 0 h0 base)
  · by_cases h1 : src ≠ 0
    · exact rz0 (nT 1 0 h1 (nF 0 0 h0 base))
    · by_cases h2 : imm ≠ 0
      · exact rz0 (nT 2 0 h2 (nF 1 0 h1 (nF 0 0 h0 base)))
      · by_cases h3 : size ≠ 0
        · exact rz0 (nT 3 0 h3 (nF 2 0 h2 (nF 1 0 h1 (nF 0 0 h0 base))))
        · exact rz0 (nF 3 0 h3 (nF 2 0 h2 (nF 1 0 h1 (nF 0 0 h0 base))))
theorem rr_27_11 (dst src imm size cond : Int) (w : World) (d1 : 0 ≤ dst) (d2 : dst ≤ 15) (s1 : 0 ≤ src) (s2 : src ≤ 15) (i1 : -2147483648 ≤ imm) (i2 : imm ≤ 2147483647) :
    RrG 27 dst src imm size cond 1 1 true ⟨⟨[]⟩⟩ w := by
  have base := rbase dst src imm size cond d1 d2 s1 s2 i1 i2
  by_cases h0 : dst ≠ 0
  · exact rz0 (nT 0 0 h0 base)
  · by_cases h1 : src ≠ 0
    · exact rz0 (nT 1 0 h1 (nF 0 0 h0 base))
    · by_cases h2 : imm ≠ 0
      · exact rz0 (nT 2 0 h2 (nF 1 0 h1 (nF 0 0 h0 base)))
      · by_cases h3 : size ≠ 0
        · exact rz0 (nT 3 0 h3 (nF 2 0 h2 (nF 1 0 h1 (nF 0 0 h0 base))))
        · exact rz0 (nF 3 0 h3 (nF 2 0 h2 (nF 1 0 h1 (nF 0 0 h0 base))))
theorem rr_40_00 (dst src imm size cond : Int) (b : UInt8) (bs : List UInt8) (w : World) (d1 : 0 ≤ dst) (d2 : dst ≤ 15) (s1 : 0 ≤ src) (s2 : src ≤ 15) (i1 : -2147483648 ≤ imm) (i2 : imm ≤ 2147483647) :
    RrG 40 dst src imm size cond 0 0 false ⟨⟨b :: bs⟩⟩ w := by
  have base := rbase dst src imm size cond d1 d2 s1 s2 i1 i2
  by_cases h0 : src ≠ 0
  · exact rz0 (nT 1 0 h0 base)
  · by_cases h1 : imm ≠ 0
    · exact rz0 (nT 2 0 h1 (nF 1 0 h0 base))
    · by_cases h2 : size ≠ 0
      · exact rz0 (nT 3 0 h2 (nF 2 0 h1 (nF 1 0 h0 base)))
      · by_cases h3 : cond ≠ 0
        · exact rz0 (nT 4 0 h3 (nF 3 0 h2 (nF 2 0 h1 (nF 1 0 h0 base))))
        · exact rz0 (nF 4 0 h3 (nF 3 0 h2 (nF 2 0 h1 (nF 1 0 h0 base))))
theorem rr_40_01 (dst src imm size cond : Int) (w : World) (d1 : 0 ≤ dst) (d2 : dst ≤ 15) (s1 : 0 ≤ src) (s2 : src ≤ 15) (i1 : -2147483648 ≤ imm) (i2 : imm ≤ 2147483647) :
    RrG 40 dst src imm size cond 0 1 false ⟨⟨[]⟩⟩ w := by
  have base := rbase dst src imm size cond d1 d2 s1 s2 i1 i2
  by_cases h0 : src ≠ 0
  · exact rz0 (nT 1 0 h0 base)
  · by_cases h1 : imm ≠ 0
    · exact rz0 (nT 2 0 h1 (nF 1 0 h0 base))
    · by_cases h2 : size ≠ 0
      · exact rz0 (nT 3 0 h2 (nF 2 0 h1 (nF 1 0 h0 base)))
      · by_cases h3 : cond ≠ 0
        · exact rz0 (nT 4 0 h3 (nF 3 0 h2 (nF 2 0 h1 (nF 1 0 h0 base))))
        · exact rz1 (nF 4 0 h3 (nF 3 0 h2 (nF 2 0 h1 (nF 1 0 h0 base))))
theorem rr_40_10 (dst src imm size cond : Int) (b : UInt8) (bs : List UInt8) (w : World) (d1 : 0 ≤ dst) (d2 : dst ≤ 15) (s1 : 0 ≤ src) (s2 : src ≤ 15) (i1 : -2147483648 ≤ imm) (i2 : imm ≤ 2147483647) :
    RrG 40 dst src imm size cond 1 0 true ⟨⟨b :: bs⟩⟩ w := by
  have base := rbase dst src imm size cond d1 d2 s1 s2 i1 i2
  by_cases h0 : src ≠ 0
  · exact rz0 (nT 1 0 h0 base)
  · by_cases h1 : imm ≠ 0
    · exact rz0 (nT 2 0 h1 (nF 1 0 h0 base))
    · by_cases h2 : size ≠ 0
      · exact rz0 (nT 3 0 h2 (nF 2 0 h1 (nF 1 0 h0 base)))
      · exact rz0 (nF 3 0 h2 (nF 2 0 h1 (nF 1 0 h0 base)))
theorem rr_40_11 (dst src imm size cond : Int) (w : World) (d1 : 0 ≤ dst) (d2 : dst ≤ 15) (s1 : 0 ≤ src) (s2 : src ≤ 15) (i1 : -2147483648 ≤ imm) (i2 : imm ≤ 2147483647) :
    RrG 40 dst src imm size cond 1 1 true ⟨⟨[]⟩⟩ w := by
  have base := rbase dst src imm size cond d1 d2 s1 s2 i1 i2
  by_cases h0 : src ≠ 0
  · exact rz0 (nT 1 0 h0 base)
  · by_cases h1 : imm ≠ 0
    · exact rz0 (nT 2 0 h1 (nF 1 0 h0 base))
    · by_cases h2 : size ≠ 0
      · exact rz0 (nT 3 0 h2 (nF 2 0 h1 (nF 1 0 h0 base)))
      · exact rz0 (nF 3 0 h2 (nF 2 0 h1 (nF 1 0 h0 base)))
end Go.Proofs.YtmmpkkpmlaiapaaGreatDoor
