/- The document's Right, run: operations 12, 20, 25, 28, 38. The document's Right, run: operations 13, 26, 29, 32, 39. No condition. -/
import Derived.Test.YtmmpkkpmlaiapaaGreatDoorQg
namespace Go.Proofs.YtmmpkkpmlaiapaaGreatDoor
open Go.RowKit
set_option linter.unusedVariables false
theorem rr_12_00 (dst src imm size cond : Int) (b : UInt8) (bs : List UInt8) (w : World) (d1 : 0 ≤ dst) (d2 : dst ≤ 15) (s1 : 0 ≤ src) (s2 : src ≤ 15) (i1 : -2147483648 ≤ imm) (i2 : imm ≤ 2147483647) :
    RrG 12 dst src imm size cond 0 0 false ⟨⟨b :: bs⟩⟩ w := by
  have base := rbase dst src imm size cond d1 d2 s1 s2 i1 i2
  by_cases h0 : imm ≠ 0
  · exact rz0 (nT 2 0 h0 base)
  · by_cases h1 : size ≠ 0
    · exact rz0 (nT 3 0 h1 (nF 2 0 h0 base))
    · by_cases h2 : cond ≠ 0
      · exact rz0 (nT 4 0 h2 (nF 3 0 h1 (nF 2 0 h0 base)))
      · exact rz0 (nF 4 0 h2 (nF 3 0 h1 (nF 2 0 h0 base)))
theorem rr_12_01 (dst src imm size cond : Int) (w : World) (d1 : 0 ≤ dst) (d2 : dst ≤ 15) (s1 : 0 ≤ src) (s2 : src ≤ 15) (i1 : -2147483648 ≤ imm) (i2 : imm ≤ 2147483647) :
    RrG 12 dst src imm size cond 0 1 false ⟨⟨[]⟩⟩ w := by
  have base := rbase dst src imm size cond d1 d2 s1 s2 i1 i2
  by_cases h0 : imm ≠ 0
  · exact rz0 (nT 2 0 h0 base)
  · by_cases h1 : size ≠ 0
    · exact rz0 (nT 3 0 h1 (nF 2 0 h0 base))
    · by_cases h2 : cond ≠ 0
      · exact rz0 (nT 4 0 h2 (nF 3 0 h1 (nF 2 0 h0 base)))
      · exact rz1 (nF 4 0 h2 (nF 3 0 h1 (nF 2 0 h0 base)))
theorem rr_12_10 (dst src imm size cond : Int) (b : UInt8) (bs : List UInt8) (w : World) (d1 : 0 ≤ dst) (d2 : dst ≤ 15) (s1 : 0 ≤ src) (s2 : src ≤ 15) (i1 : -2147483648 ≤ imm) (i2 : imm ≤ 2147483647) :
    RrG 12 dst src imm size cond 1 0 true ⟨⟨b :: bs⟩⟩ w := by
  have base := rbase dst src imm size cond d1 d2 s1 s2 i1 i2
  by_cases h0 : imm ≠ 0
  · exact rz0 (nT 2 0 h0 base)
  · by_cases h1 : size ≠ 0
    · exact rz0 (nT 3 0 h1 (nF 2 0 h0 base))
    · exact rz0 (nF 3 0 h1 (nF 2 0 h0 base))
theorem rr_12_11 (dst src imm size cond : Int) (w : World) (d1 : 0 ≤ dst) (d2 : dst ≤ 15) (s1 : 0 ≤ src) (s2 : src ≤ 15) (i1 : -2147483648 ≤ imm) (i2 : imm ≤ 2147483647) :
    RrG 12 dst src imm size cond 1 1 true ⟨⟨[]⟩⟩ w := by
  have base := rbase dst src imm size cond d1 d2 s1 s2 i1 i2
  by_cases h0 : imm ≠ 0
  · exact rz0 (nT 2 0 h0 base)
  · by_cases h1 : size ≠ 0
    · exact rz0 (nT 3 0 h1 (nF 2 0 h0 base))
    · exact rz0 (nF 3 0 h1 (nF 2 0 h0 base))
theorem rr_20_00 (dst src imm size cond : Int) (b : UInt8) (bs : List UInt8) (w : World) (d1 : 0 ≤ dst) (d2 : dst ≤ 15) (s1 : 0 ≤ src) (s2 : src ≤ 15) (i1 : -2147483648 ≤ imm) (i2 : imm ≤ 2147483647) :
    RrG 20 dst src imm size cond 0 0 false ⟨⟨b :: bs⟩⟩ w := by
  have base := rbase dst src imm size cond d1 d2 s1 s2 i1 i2
  by_cases h0 : src ≠ 0
  · exact rz0 (nT 1 0 h0 base)
  · by_cases h1 : size ≠ 0
    · exact rz0 (nT 3 0 h1 (nF 1 0 h0 base))
    · by_cases h2 : cond ≠ 0
      · exact rz0 (nT 4 0 h2 (nF 3 0 h1 (nF 1 0 h0 base)))
      · exact rz0 (nF 4 0 h2 (nF 3 0 h1 (nF 1 0 h0 base)))
theorem rr_20_01 (dst src imm size cond : Int) (w : World) (d1 : 0 ≤ dst) (d2 : dst ≤ 15) (s1 : 0 ≤ src) (s2 : src ≤ 15) (i1 : -2147483648 ≤ imm) (i2 : imm ≤ 2147483647) :
    RrG 20 dst src imm size cond 0 1 false ⟨⟨[]⟩⟩ w := by
  have base := rbase dst src imm size cond d1 d2 s1 s2 i1 i2
  by_cases h0 : src ≠ 0
  · exact rz0 (nT 1 0 h0 base)
  · by_cases h1 : size ≠ 0
    · exact rz0 (nT 3 0 h1 (nF 1 0 h0 base))
    · by_cases h2 : cond ≠ 0
      · exact rz0 (nT 4 0 h2 (nF 3 0 h1 (nF 1 0 h0 base)))
      · exact rz1 (nF 4 0 h2 (nF 3 0 h1 (nF 1 0 h0 base)))
theorem rr_20_10 (dst src imm size cond : Int) (b : UInt8) (bs : List UInt8) (w : World) (d1 : 0 ≤ dst) (d2 : dst ≤ 15) (s1 : 0 ≤ src) (s2 : src ≤ 15) (i1 : -2147483648 ≤ imm) (i2 : imm ≤ 2147483647) :
    RrG 20 dst src imm size cond 1 0 true ⟨⟨b :: bs⟩⟩ w := by
  have base := rbase dst src imm size cond d1 d2 s1 s2 i1 i2
  by_cases h0 : src ≠ 0
  · exact rz0 (nT 1 0 h0 base)
  · by_cases h1 : size ≠ 0
    · exact rz0 (nT 3 0 h1 (nF 1 0 h0 base))
    · exact rz0 (nF 3 0 h1 (nF 1 0 h0 base))
theorem rr_20_11 (dst src imm size cond : Int) (w : World) (d1 : 0 ≤ dst) (d2 : dst ≤ 15) (s1 : 0 ≤ src) (s2 : src ≤ 15) (i1 : -2147483648 ≤ imm) (i2 : imm ≤ 2147483647) :
    RrG 20 dst src imm size cond 1 1 true ⟨⟨[]⟩⟩ w := by
  have base := rbase dst src imm size cond d1 d2 s1 s2 i1 i2
  by_cases h0 : src ≠ 0
  · exact rz0 (nT 1 0 h0 base)
  · by_cases h1 : size ≠ 0
    · exact rz0 (nT 3 0 h1 (nF 1 0 h0 base))
    · exact rz0 (nF 3 0 h1 (nF 1 0 h0 base))
theorem rr_25_00 (dst src imm size cond : Int) (b : UInt8) (bs : List UInt8) (w : World) (d1 : 0 ≤ dst) (d2 : dst ≤ 15) (s1 : 0 ≤ src) (s2 : src ≤ 15) (i1 : -2147483648 ≤ imm) (i2 : imm ≤ 2147483647) :
    RrG 25 dst src imm size cond 0 0 false ⟨⟨b :: bs⟩⟩ w := by
  have base := rbase dst src imm size cond d1 d2 s1 s2 i1 i2
  by_cases h0 : src ≠ 0
  · exact rz0 (nT 1 0 h0 base)
  · by_cases h1 : size ≠ 0
    · exact rz0 (nT 3 0 h1 (nF 1 0 h0 base))
    · by_cases h2 : cond ≠ 0
      · exact rz0 (nT 4 0 h2 (nF 3 0 h1 (nF 1 0 h0 base)))
      · exact rz0 (nF 4 0 h2 (nF 3 0 h1 (nF 1 0 h0 base)))
theorem rr_25_01 (dst src imm size cond : Int) (w : World) (d1 : 0 ≤ dst) (d2 : dst ≤ 15) (s1 : 0 ≤ src) (s2 : src ≤ 15) (i1 : -2147483648 ≤ imm) (i2 : imm ≤ 2147483647) :
    RrG 25 dst src imm size cond 0 1 false ⟨⟨[]⟩⟩ w := by
  have base := rbase dst src imm size cond d1 d2 s1 s2 i1 i2
  by_cases h0 : src ≠ 0
  · exact rz0 (nT 1 0 h0 base)
  · by_cases h1 : size ≠ 0
    · exact rz0 (nT 3 0 h1 (nF 1 0 h0 base))
    · by_cases h2 : cond ≠ 0
      · exact rz0 (nT 4 0 h2 (nF 3 0 h1 (nF 1 0 h0 base)))
      · by_cases h3 : imm ≥ 0
        · by_cases h4 : imm ≤ 63
          · exact rz1 (kn_cons (kn_leq 2 63 true (decide_eq_true (h4))) (kn_cons (kn_geq 2 0 true (decide_eq_true (h3))) (nF 4 0 h2 (nF 3 0 h1 (nF 1 0 h0 base)))))
          · exact rz0 (kn_cons (kn_leq 2 63 false (decide_eq_false (h4))) (kn_cons (kn_geq 2 0 true (decide_eq_true (h3))) (nF 4 0 h2 (nF 3 0 h1 (nF 1 0 h0 base)))))
        · exact rz0 (kn_cons (kn_geq 2 0 false (decide_eq_false (h3))) (nF 4 0 h2 (nF 3 0 h1 (nF 1 0 h0 base))))
theorem rr_25_10 (dst src imm size cond : Int) (b : UInt8) (bs : List UInt8) (w : World) (d1 : 0 ≤ dst) (d2 : dst ≤ 15) (s1 : 0 ≤ src) (s2 : src ≤ 15) (i1 : -2147483648 ≤ imm) (i2 : imm ≤ 2147483647) :
    RrG 25 dst src imm size cond 1 0 true ⟨⟨b :: bs⟩⟩ w := by
  have base := rbase dst src imm size cond d1 d2 s1 s2 i1 i2
  by_cases h0 : src ≠ 0
  · exact rz0 (nT 1 0 h0 base)
  · by_cases h1 : size ≠ 0
    · exact rz0 (nT 3 0 h1 (nF 1 0 h0 base))
    · exact rz0 (nF 3 0 h1 (nF 1 0 h0 base))
theorem rr_25_11 (dst src imm size cond : Int) (w : World) (d1 : 0 ≤ dst) (d2 : dst ≤ 15) (s1 : 0 ≤ src) (s2 : src ≤ 15) (i1 : -2147483648 ≤ imm) (i2 : imm ≤ 2147483647) :
    RrG 25 dst src imm size cond 1 1 true ⟨⟨[]⟩⟩ w := by
  have base := rbase dst src imm size cond d1 d2 s1 s2 i1 i2
  by_cases h0 : src ≠ 0
  · exact rz0 (nT 1 0 h0 base)
  · by_cases h1 : size ≠ 0
    · exact rz0 (nT 3 0 h1 (nF 1 0 h0 base))
    · exact rz0 (nF 3 0 h1 (nF 1 0 h0 base))
theorem rr_28_00 (dst src imm size cond : Int) (b : UInt8) (bs : List UInt8) (w : World) (d1 : 0 ≤ dst) (d2 : dst ≤ 15) (s1 : 0 ≤ src) (s2 : src ≤ 15) (i1 : -2147483648 ≤ imm) (i2 : imm ≤ 2147483647) :
    RrG 28 dst src imm size cond 0 0 false ⟨⟨b :: bs⟩⟩ w := by
  have base := rbase dst src imm size cond d1 d2 s1 s2 i1 i2
  by_cases h0 : src ≠ 0
  · exact rz0 (nT 1 0 h0 base)
  · by_cases h1 : imm ≠ 0
    · exact rz0 (nT 2 0 h1 (nF 1 0 h0 base))
    · by_cases h2 : size ≠ 0
      · exact rz0 (nT 3 0 h2 (nF 2 0 h1 (nF 1 0 h0 base)))
      · by_cases h3 : cond ≠ 0
        · exact rz0 (nT 4 0 h3 (nF 3 0 h2 (nF 2 0 h1 (nF 1 0 h0 base))))
        · exact rz0 (nF 4 0 h3 (nF 3 0 h2 (nF 2 0 h1 (nF 1 0 h0 base))))
theorem rr_28_01 (dst src imm size cond : Int) (w : World) (d1 : 0 ≤ dst) (d2 : dst ≤ 15) (s1 : 0 ≤ src) (s2 : src ≤ 15) (i1 : -2147483648 ≤ imm) (i2 : imm ≤ 2147483647) :
    RrG 28 dst src imm size cond 0 1 false ⟨⟨[]⟩⟩ w := by
  have base := rbase dst src imm size cond d1 d2 s1 s2 i1 i2
  by_cases h0 : src ≠ 0
  · exact rz0 (nT 1 0 h0 base)
  · by_cases h1 : imm ≠ 0
    · exact rz0 (nT 2 0 h1 (nF 1 0 h0 base))
    · by_cases h2 : size ≠ 0
      · exact rz0 (nT 3 0 h2 (nF 2 0 h1 (nF 1 0 h0 base)))
      · by_cases h3 : cond ≠ 0
        · exact rz0 (nT 4 0 h3 (nF 3 0 h2 (nF 2 0 h1 (nF 1 0 h0 base))))
        · exact rz1 (nF 4 0 h3 (nF 3 0 h2 (nF 2 0 h1 (nF 1 0 h0 base))))
theorem rr_28_10 (dst src imm size cond : Int) (b : UInt8) (bs : List UInt8) (w : World) (d1 : 0 ≤ dst) (d2 : dst ≤ 15) (s1 : 0 ≤ src) (s2 : src ≤ 15) (i1 : -2147483648 ≤ imm) (i2 : imm ≤ 2147483647) :
    RrG 28 dst src imm size cond 1 0 true ⟨⟨b :: bs⟩⟩ w := by
  have base := rbase dst src imm size cond d1 d2 s1 s2 i1 i2
  by_cases h0 : src ≠ 0
  · exact rz0 (nT 1 0 h0 base)
  · by_cases h1 : imm ≠ 0
    · exact rz0 (nT 2 0 h1 (nF 1 0 h0 base))
    · by_cases h2 : size ≠ 0
      · exact rz0 (nT 3 0 h2 (nF 2 0 h1 (nF 1 0 h0 base)))
      · exact rz0 (nF 3 0 h2 (nF 2 0 h1 (nF 1 0 h0 base)))
theorem rr_28_11 (dst src imm size cond : Int) (w : World) (d1 : 0 ≤ dst) (d2 : dst ≤ 15) (s1 : 0 ≤ src) (s2 : src ≤ 15) (i1 : -2147483648 ≤ imm) (i2 : imm ≤ 2147483647) :
    RrG 28 dst src imm size cond 1 1 true ⟨⟨[]⟩⟩ w := by
  have base := rbase dst src imm size cond d1 d2 s1 s2 i1 i2
  by_cases h0 : src ≠ 0
  · exact rz0 (nT 1 0 h0 base)
  · by_cases h1 : imm ≠ 0
    · exact rz0 (nT 2 0 h1 (nF 1 0 h0 base))
    · by_cases h2 : size ≠ 0
      · exact rz0 (nT 3 0 h2 (nF 2 0 h1 (nF 1 0 h0 base)))
      · exact rz0 (nF 3 0 h2 (nF 2 0 h1 (nF 1 0 h0 base)))
theorem rr_38_00 (dst src imm size cond : Int) (b : UInt8) (bs : List UInt8) (w : World) (d1 : 0 ≤ dst) (d2 : dst ≤ 15) (s1 : 0 ≤ src) (s2 : src ≤ 15) (i1 : -2147483648 ≤ imm) (i2 : imm ≤ 2147483647) :
    RrG 38 dst src imm size cond 0 0 false ⟨⟨b :: bs⟩⟩ w := by
  have base := rbase dst src imm size cond d1 d2 s1 s2 i1 i2
  by_cases h0 : dst ≠ 0
  · exact rz0 (nT 0 0 h0 base)
  · by_cases h1 : src ≠ 0
    · exact rz0 (nT 1 0 h1 (nF 0 0 h0 base))
    · by_cases h2 : imm ≠ 0
      · exact rz0 (nT 2 0 h2 (nF 1 0 h1 (nF 0 0 h0 base)))
      · by_cases h3 : size ≠ 0
        · exact rz0 (nT 3 0 h3 (nF 2 0 h2 (nF 1 0 h1 (nF 0 0 h0 base))))
        · by_cases h4 : cond ≠ 0
          · exact rz0 (nT 4 0 h4 (nF 3 0 h3 (nF 2 0 h2 (nF 1 0 h1 (nF 0 0 h0 base)))))
          · exact rz0 (nF 4 0 h4 (nF 3 0 h3 (nF 2 0 h2 (nF 1 0 h1 (nF 0 0 h0 base)))))
theorem rr_38_01 (dst src imm size cond : Int) (w : World) (d1 : 0 ≤ dst) (d2 : dst ≤ 15) (s1 : 0 ≤ src) (s2 : src ≤ 15) (i1 : -2147483648 ≤ imm) (i2 : imm ≤ 2147483647) :
    RrG 38 dst src imm size cond 0 1 false ⟨⟨[]⟩⟩ w := by
  have base := rbase dst src imm size cond d1 d2 s1 s2 i1 i2
  by_cases h0 : dst ≠ 0
  · exact rz0 (nT 0 0 h0 base)
  · by_cases h1 : src ≠ 0
    · exact rz0 (nT 1 0 h1 (nF 0 0 h0 base))
    · by_cases h2 : imm ≠ 0
      · exact rz0 (nT 2 0 h2 (nF 1 0 h1 (nF 0 0 h0 base)))
      · by_cases h3 : size ≠ 0
        · exact rz0 (nT 3 0 h3 (nF 2 0 h2 (nF 1 0 h1 (nF 0 0 h0 base))))
        · by_cases h4 : cond ≠ 0
          · exact rz0 (nT 4 0 h4 (nF 3 0 h3 (nF 2 0 h2 (nF 1 0 h1 (nF 0 0 h0 base)))))
          · exact rz1 (nF 4 0 h4 (nF 3 0 h3 (nF 2 0 h2 (nF 1 0 h1 (nF 0 0 h0 base)))))
theorem rr_38_10 (dst src imm size cond : Int) (b : UInt8) (bs : List UInt8) (w : World) (d1 : 0 ≤ dst) (d2 : dst ≤ 15) (s1 : 0 ≤ src) (s2 : src ≤ 15) (i1 : -2147483648 ≤ imm) (i2 : imm ≤ 2147483647) :
    RrG 38 dst src imm size cond 1 0 true ⟨⟨b :: bs⟩⟩ w := by
  have base := rbase dst src imm size cond d1 d2 s1 s2 i1 i2
  by_cases h0 : dst ≠ 0
  · exact rz0 (nT 0 0 h0 base)
  · by_cases h1 : src ≠ 0
    · exact rz0 (nT 1 0 h1 (nF 0 0 h0 base))
    · by_cases h2 : imm ≠ 0
      · exact rz0 (nT 2 0 h2 (nF 1 0 h1 (nF 0 0 h0 base)))
      · by_cases h3 : size ≠ 0
        · exact rz0 (nT 3 0 h3 (nF 2 0 h2 (nF 1 0 h1 (nF 0 0 h0 base))))
        · exact rz0 (nF 3 0 h3 (nF 2 0 h2 (nF 1 0 h1 (nF 0 0 h0 base))))
theorem rr_38_11 (dst src imm size cond : Int) (w : World) (d1 : 0 ≤ dst) (d2 : dst ≤ 15) (s1 : 0 ≤ src) (s2 : src ≤ 15) (i1 : -2147483648 ≤ imm) (i2 : imm ≤ 2147483647) :
    RrG 38 dst src imm size cond 1 1 true ⟨⟨[]⟩⟩ w := by
  have base := rbase dst src imm size cond d1 d2 s1 s2 i1 i2
  by_cases h0 : dst ≠ 0
  · exact rz0 (nT 0 0 h0 base)
  · by_cases h1 : src ≠ 0
    · exact rz0 (nT 1 0 h1 (nF 0 0 h0 base))
    · by_cases h2 : imm ≠ 0
      · exact rz0 (nT 2 0 h2 (nF 1 0 h1 (nF 0 0 h0 base)))
      · by_cases h3 : size ≠ 0
        · exact rz0 (nT 3 0 h3 (nF 2 0 h2 (nF 1 0 h1 (nF 0 0 h0 base))))
        · exact rz0 (nF 3 0 h3 (nF 2 0 h2 (nF 1 0 h1 (nF 0 0 h0 base))))
end Go.Proofs.YtmmpkkpmlaiapaaGreatDoor
namespace Go.Proofs.YtmmpkkpmlaiapaaGreatDoor
open Go.RowKit
set_option linter.unusedVariables false
theorem rr_13_00 (dst src imm size cond : Int) (b : UInt8) (bs : List UInt8) (w : World) (d1 : 0 ≤ dst) (d2 : dst ≤ 15) (s1 : 0 ≤ src) (s2 : src ≤ 15) (i1 : -2147483648 ≤ imm) (i2 : imm ≤ 2147483647) :
    RrG 13 dst src imm size cond 0 0 false ⟨⟨b :: bs⟩⟩ w := by
  have base := rbase dst src imm size cond d1 d2 s1 s2 i1 i2
  by_cases h0 : imm ≠ 0
  · exact rz0 (nT 2 0 h0 base)
  · by_cases h1 : size ≠ 0
    · exact rz0 (nT 3 0 h1 (nF 2 0 h0 base))
    · by_cases h2 : cond ≠ 0
      · exact rz0 (nT 4 0 h2 (nF 3 0 h1 (nF 2 0 h0 base)))
      · exact rz0 (nF 4 0 h2 (nF 3 0 h1 (nF 2 0 h0 base)))
theorem rr_13_01 (dst src imm size cond : Int) (w : World) (d1 : 0 ≤ dst) (d2 : dst ≤ 15) (s1 : 0 ≤ src) (s2 : src ≤ 15) (i1 : -2147483648 ≤ imm) (i2 : imm ≤ 2147483647) :
    RrG 13 dst src imm size cond 0 1 false ⟨⟨[]⟩⟩ w := by
  have base := rbase dst src imm size cond d1 d2 s1 s2 i1 i2
  by_cases h0 : imm ≠ 0
  · exact rz0 (nT 2 0 h0 base)
  · by_cases h1 : size ≠ 0
    · exact rz0 (nT 3 0 h1 (nF 2 0 h0 base))
    · by_cases h2 : cond ≠ 0
      · exact rz0 (nT 4 0 h2 (nF 3 0 h1 (nF 2 0 h0 base)))
      · exact rz1 (nF 4 0 h2 (nF 3 0 h1 (nF 2 0 h0 base)))
theorem rr_13_10 (dst src imm size cond : Int) (b : UInt8) (bs : List UInt8) (w : World) (d1 : 0 ≤ dst) (d2 : dst ≤ 15) (s1 : 0 ≤ src) (s2 : src ≤ 15) (i1 : -2147483648 ≤ imm) (i2 : imm ≤ 2147483647) :
    RrG 13 dst src imm size cond 1 0 true ⟨⟨b :: bs⟩⟩ w := by
  have base := rbase dst src imm size cond d1 d2 s1 s2 i1 i2
  by_cases h0 : imm ≠ 0
  · exact rz0 (nT 2 0 h0 base)
  · by_cases h1 : size ≠ 0
    · exact rz0 (nT 3 0 h1 (nF 2 0 h0 base))
    · exact rz0 (nF 3 0 h1 (nF 2 0 h0 base))
theorem rr_13_11 (dst src imm size cond : Int) (w : World) (d1 : 0 ≤ dst) (d2 : dst ≤ 15) (s1 : 0 ≤ src) (s2 : src ≤ 15) (i1 : -2147483648 ≤ imm) (i2 : imm ≤ 2147483647) :
    RrG 13 dst src imm size cond 1 1 true ⟨⟨[]⟩⟩ w := by
  have base := rbase dst src imm size cond d1 d2 s1 s2 i1 i2
  by_cases h0 : imm ≠ 0
  · exact rz0 (nT 2 0 h0 base)
  · by_cases h1 : size ≠ 0
    · exact rz0 (nT 3 0 h1 (nF 2 0 h0 base))
    · exact rz0 (nF 3 0 h1 (nF 2 0 h0 base))
theorem rr_26_00 (dst src imm size cond : Int) (b : UInt8) (bs : List UInt8) (w : World) (d1 : 0 ≤ dst) (d2 : dst ≤ 15) (s1 : 0 ≤ src) (s2 : src ≤ 15) (i1 : -2147483648 ≤ imm) (i2 : imm ≤ 2147483647) :
    RrG 26 dst src imm size cond 0 0 false ⟨⟨b :: bs⟩⟩ w := by
  have base := rbase dst src imm size cond d1 d2 s1 s2 i1 i2
  by_cases h0 : src ≠ 0
  · exact rz0 (nT 1 0 h0 base)
  · by_cases h1 : size ≠ 0
    · exact rz0 (nT 3 0 h1 (nF 1 0 h0 base))
    · by_cases h2 : cond ≠ 0
      · exact rz0 (nT 4 0 h2 (nF 3 0 h1 (nF 1 0 h0 base)))
      · exact rz0 (nF 4 0 h2 (nF 3 0 h1 (nF 1 0 h0 base)))
theorem rr_26_01 (dst src imm size cond : Int) (w : World) (d1 : 0 ≤ dst) (d2 : dst ≤ 15) (s1 : 0 ≤ src) (s2 : src ≤ 15) (i1 : -2147483648 ≤ imm) (i2 : imm ≤ 2147483647) :
    RrG 26 dst src imm size cond 0 1 false ⟨⟨[]⟩⟩ w := by
  have base := rbase dst src imm size cond d1 d2 s1 s2 i1 i2
  by_cases h0 : src ≠ 0
  · exact rz0 (nT 1 0 h0 base)
  · by_cases h1 : size ≠ 0
    · exact rz0 (nT 3 0 h1 (nF 1 0 h0 base))
    · by_cases h2 : cond ≠ 0
      · exact rz0 (nT 4 0 h2 (nF 3 0 h1 (nF 1 0 h0 base)))
      · by_cases h3 : imm ≥ 0
        · by_cases h4 : imm ≤ 63
          · exact rz1 (kn_cons (kn_leq 2 63 true (decide_eq_true (h4))) (kn_cons (kn_geq 2 0 true (decide_eq_true (h3))) (nF 4 0 h2 (nF 3 0 h1 (nF 1 0 h0 base)))))
          · exact rz0 (kn_cons (kn_leq 2 63 false (decide_eq_false (h4))) (kn_cons (kn_geq 2 0 true (decide_eq_true (h3))) (nF 4 0 h2 (nF 3 0 h1 (nF 1 0 h0 base)))))
        · exact rz0 (kn_cons (kn_geq 2 0 false (decide_eq_false (h3))) (nF 4 0 h2 (nF 3 0 h1 (nF 1 0 h0 base))))
theorem rr_26_10 (dst src imm size cond : Int) (b : UInt8) (bs : List UInt8) (w : World) (d1 : 0 ≤ dst) (d2 : dst ≤ 15) (s1 : 0 ≤ src) (s2 : src ≤ 15) (i1 : -2147483648 ≤ imm) (i2 : imm ≤ 2147483647) :
    RrG 26 dst src imm size cond 1 0 true ⟨⟨b :: bs⟩⟩ w := by
  have base := rbase dst src imm size cond d1 d2 s1 s2 i1 i2
  by_cases h0 : src ≠ 0
  · exact rz0 (nT 1 0 h0 base)
  · by_cases h1 : size ≠ 0
    · exact rz0 (nT 3 0 h1 (nF 1 0 h0 base))
    · exact rz0 (nF 3 0 h1 (nF 1 0 h0 base))
theorem rr_26_11 (dst src imm size cond : Int) (w : World) (d1 : 0 ≤ dst) (d2 : dst ≤ 15) (s1 : 0 ≤ src) (s2 : src ≤ 15) (i1 : -2147483648 ≤ imm) (i2 : imm ≤ 2147483647) :
    RrG 26 dst src imm size cond 1 1 true ⟨⟨[]⟩⟩ w := by
  have base := rbase dst src imm size cond d1 d2 s1 s2 i1 i2
  by_cases h0 : src ≠ 0
  · exact rz0 (nT 1 0 h0 base)
  · by_cases h1 : size ≠ 0
    · exact rz0 (nT 3 0 h1 (nF 1 0 h0 base))
    · exact rz0 (nF 3 0 h1 (nF 1 0 h0 base))
theorem rr_29_00 (dst src imm size cond : Int) (b : UInt8) (bs : List UInt8) (w : World) (d1 : 0 ≤ dst) (d2 : dst ≤ 15) (s1 : 0 ≤ src) (s2 : src ≤ 15) (i1 : -2147483648 ≤ imm) (i2 : imm ≤ 2147483647) :
    RrG 29 dst src imm size cond 0 0 false ⟨⟨b :: bs⟩⟩ w := by
  have base := rbase dst src imm size cond d1 d2 s1 s2 i1 i2
  by_cases h0 : src ≠ 0
  · exact rz0 (nT 1 0 h0 base)
  · by_cases h1 : imm ≠ 0
    · exact rz0 (nT 2 0 h1 (nF 1 0 h0 base))
    · by_cases h2 : size ≠ 0
      · exact rz0 (nT 3 0 h2 (nF 2 0 h1 (nF 1 0 h0 base)))
      · by_cases h3 : cond ≠ 0
        · exact rz0 (nT 4 0 h3 (nF 3 0 h2 (nF 2 0 h1 (nF 1 0 h0 base))))
        · exact rz0 (nF 4 0 h3 (nF 3 0 h2 (nF 2 0 h1 (nF 1 0 h0 base))))
theorem rr_29_01 (dst src imm size cond : Int) (w : World) (d1 : 0 ≤ dst) (d2 : dst ≤ 15) (s1 : 0 ≤ src) (s2 : src ≤ 15) (i1 : -2147483648 ≤ imm) (i2 : imm ≤ 2147483647) :
    RrG 29 dst src imm size cond 0 1 false ⟨⟨[]⟩⟩ w := by
  have base := rbase dst src imm size cond d1 d2 s1 s2 i1 i2
  by_cases h0 : src ≠ 0
  · exact rz0 (nT 1 0 h0 base)
  · by_cases h1 : imm ≠ 0
    · exact rz0 (nT 2 0 h1 (nF 1 0 h0 base))
    · by_cases h2 : size ≠ 0
      · exact rz0 (nT 3 0 h2 (nF 2 0 h1 (nF 1 0 h0 base)))
      · by_cases h3 : cond ≠ 0
        · exact rz0 (nT 4 0 h3 (nF 3 0 h2 (nF 2 0 h1 (nF 1 0 h0 base))))
        · exact rz1 (nF 4 0 h3 (nF 3 0 h2 (nF 2 0 h1 (nF 1 0 h0 base))))
theorem rr_29_10 (dst src imm size cond : Int) (b : UInt8) (bs : List UInt8) (w : World) (d1 : 0 ≤ dst) (d2 : dst ≤ 15) (s1 : 0 ≤ src) (s2 : src ≤ 15) (i1 : -2147483648 ≤ imm) (i2 : imm ≤ 2147483647) :
    RrG 29 dst src imm size cond 1 0 true ⟨⟨b :: bs⟩⟩ w := by
  have base := rbase dst src imm size cond d1 d2 s1 s2 i1 i2
  by_cases h0 : src ≠ 0
  · exact rz0 (nT 1 0 h0 base)
  · by_cases h1 : imm ≠ 0
    · exact rz0 (nT 2 0 h1 (nF 1 0 h0 base))
    · by_cases h2 : size ≠ 0
      · exact rz0 (nT 3 0 h2 (nF 2 0 h1 (nF 1 0 h0 base)))
      · exact rz0 (nF 3 0 h2 (nF 2 0 h1 (nF 1 0 h0 base)))
theorem rr_29_11 (dst src imm size cond : Int) (w : World) (d1 : 0 ≤ dst) (d2 : dst ≤ 15) (s1 : 0 ≤ src) (s2 : src ≤ 15) (i1 : -2147483648 ≤ imm) (i2 : imm ≤ 2147483647) :
    RrG 29 dst src imm size cond 1 1 true ⟨⟨[]⟩⟩ w := by
  have base := rbase dst src imm size cond d1 d2 s1 s2 i1 i2
  by_cases h0 : src ≠ 0
  · exact rz0 (nT 1 0 h0 base)
  · by_cases h1 : imm ≠ 0
    · exact rz0 (nT 2 0 h1 (nF 1 0 h0 base))
    · by_cases h2 : size ≠ 0
      · exact rz0 (nT 3 0 h2 (nF 2 0 h1 (nF 1 0 h0 base)))
      · exact rz0 (nF 3 0 h2 (nF 2 0 h1 (nF 1 0 h0 base)))
theorem rr_32_00 (dst src imm size cond : Int) (b : UInt8) (bs : List UInt8) (w : World) (d1 : 0 ≤ dst) (d2 : dst ≤ 15) (s1 : 0 ≤ src) (s2 : src ≤ 15) (i1 : -2147483648 ≤ imm) (i2 : imm ≤ 2147483647) :
    RrG 32 dst src imm size cond 0 0 false ⟨⟨b :: bs⟩⟩ w := by
  have base := rbase dst src imm size cond d1 d2 s1 s2 i1 i2
  by_cases h0 : imm ≠ 0
  · exact rz0 (nT 2 0 h0 base)
  · by_cases h1 : size ≠ 0
    · exact rz0 (nT 3 0 h1 (nF 2 0 h0 base))
    · exact rz0 (nF 3 0 h1 (nF 2 0 h0 base))
theorem rr_32_01 (dst src imm size cond : Int) (w : World) (d1 : 0 ≤ dst) (d2 : dst ≤ 15) (s1 : 0 ≤ src) (s2 : src ≤ 15) (i1 : -2147483648 ≤ imm) (i2 : imm ≤ 2147483647) :
    RrG 32 dst src imm size cond 0 1 false ⟨⟨[]⟩⟩ w := by
  have base := rbase dst src imm size cond d1 d2 s1 s2 i1 i2
  by_cases h0 : imm ≠ 0
  · exact rz0 (nT 2 0 h0 base)
  · by_cases h1 : size ≠ 0
    · exact rz0 (nT 3 0 h1 (nF 2 0 h0 base))
    · by_cases h2 : cond < 0
      · exact rz0 (kn_cons (kn_lss 4 0 true (decide_eq_true (h2))) (nF 3 0 h1 (nF 2 0 h0 base)))
      · by_cases h3 : cond > 9
        · exact rz0 (kn_cons (kn_gtr 4 9 true (decide_eq_true (h3))) (kn_cons (kn_lss 4 0 false (decide_eq_false (h2))) (nF 3 0 h1 (nF 2 0 h0 base))))
        · exact rz1 (kn_cons (kn_gtr 4 9 false (decide_eq_false (h3))) (kn_cons (kn_lss 4 0 false (decide_eq_false (h2))) (nF 3 0 h1 (nF 2 0 h0 base))))
theorem rr_32_10 (dst src imm size cond : Int) (b : UInt8) (bs : List UInt8) (w : World) (d1 : 0 ≤ dst) (d2 : dst ≤ 15) (s1 : 0 ≤ src) (s2 : src ≤ 15) (i1 : -2147483648 ≤ imm) (i2 : imm ≤ 2147483647) :
    RrG 32 dst src imm size cond 1 0 true ⟨⟨b :: bs⟩⟩ w := by
  have base := rbase dst src imm size cond d1 d2 s1 s2 i1 i2
  by_cases h0 : imm ≠ 0
  · exact rz0 (nT 2 0 h0 base)
  · by_cases h1 : size ≠ 0
    · exact rz0 (nT 3 0 h1 (nF 2 0 h0 base))
    · exact rz0 (nF 3 0 h1 (nF 2 0 h0 base))
theorem rr_32_11 (dst src imm size cond : Int) (w : World) (d1 : 0 ≤ dst) (d2 : dst ≤ 15) (s1 : 0 ≤ src) (s2 : src ≤ 15) (i1 : -2147483648 ≤ imm) (i2 : imm ≤ 2147483647) :
    RrG 32 dst src imm size cond 1 1 true ⟨⟨[]⟩⟩ w := by
  have base := rbase dst src imm size cond d1 d2 s1 s2 i1 i2
  by_cases h0 : imm ≠ 0
  · exact rz0 (nT 2 0 h0 base)
  · by_cases h1 : size ≠ 0
    · exact rz0 (nT 3 0 h1 (nF 2 0 h0 base))
    · exact rz0 (nF 3 0 h1 (nF 2 0 h0 base))
theorem rr_39_00 (dst src imm size cond : Int) (b : UInt8) (bs : List UInt8) (w : World) (d1 : 0 ≤ dst) (d2 : dst ≤ 15) (s1 : 0 ≤ src) (s2 : src ≤ 15) (i1 : -2147483648 ≤ imm) (i2 : imm ≤ 2147483647) :
    RrG 39 dst src imm size cond 0 0 false ⟨⟨b :: bs⟩⟩ w := by
  have base := rbase dst src imm size cond d1 d2 s1 s2 i1 i2
  by_cases h0 : dst ≠ 0
  · exact rz0 (nT 0 0 h0 base)
  · by_cases h1 : src ≠ 0
    · exact rz0 (nT 1 0 h1 (nF 0 0 h0 base))
    · by_cases h2 : imm ≠ 0
      · exact rz0 (nT 2 0 h2 (nF 1 0 h1 (nF 0 0 h0 base)))
      · by_cases h3 : size ≠ 0
        · exact rz0 (nT 3 0 h3 (nF 2 0 h2 (nF 1 0 h1 (nF 0 0 h0 base))))
        · by_cases h4 : cond ≠ 0
          · exact rz0 (nT 4 0 h4 (nF 3 0 h3 (nF 2 0 h2 (nF 1 0 h1 (nF 0 0 h0 base)))))
          · exact rz0 (nF 4 0 h4 (nF 3 0 h3 (nF 2 0 h2 (nF 1 0 h1 (nF 0 0 h0 base)))))
theorem rr_39_01 (dst src imm size cond : Int) (w : World) (d1 : 0 ≤ dst) (d2 : dst ≤ 15) (s1 : 0 ≤ src) (s2 : src ≤ 15) (i1 : -2147483648 ≤ imm) (i2 : imm ≤ 2147483647) :
    RrG 39 dst src imm size cond 0 1 false ⟨⟨[]⟩⟩ w := by
  have base := rbase dst src imm size cond d1 d2 s1 s2 i1 i2
  by_cases h0 : dst ≠ 0
  · exact rz0 (nT 0 0 h0 base)
  · by_cases h1 : src ≠ 0
    · exact rz0 (nT 1 0 h1 (nF 0 0 h0 base))
    · by_cases h2 : imm ≠ 0
      · exact rz0 (nT 2 0 h2 (nF 1 0 h1 (nF 0 0 h0 base)))
      · by_cases h3 : size ≠ 0
        · exact rz0 (nT 3 0 h3 (nF 2 0 h2 (nF 1 0 h1 (nF 0 0 h0 base))))
        · by_cases h4 : cond ≠ 0
          · exact rz0 (nT 4 0 h4 (nF 3 0 h3 (nF 2 0 h2 (nF 1 0 h1 (nF 0 0 h0 base)))))
          · exact rz1 (nF 4 0 h4 (nF 3 0 h3 (nF 2 0 h2 (nF 1 0 h1 (nF 0 0 h0 base)))))
theorem rr_39_10 (dst src imm size cond : Int) (b : UInt8) (bs : List UInt8) (w : World) (d1 : 0 ≤ dst) (d2 : dst ≤ 15) (s1 : 0 ≤ src) (s2 : src ≤ 15) (i1 : -2147483648 ≤ imm) (i2 : imm ≤ 2147483647) :
    RrG 39 dst src imm size cond 1 0 true ⟨⟨b :: bs⟩⟩ w := by
  have base := rbase dst src imm size cond d1 d2 s1 s2 i1 i2
  by_cases h0 : dst ≠ 0
  · exact rz0 (nT 0 0 h0 base)
  · by_cases h1 : src ≠ 0
    · exact rz0 (nT 1 0 h1 (nF 0 0 h0 base))
    · by_cases h2 : imm ≠ 0
      · exact rz0 (nT 2 0 h2 (nF 1 0 h1 (nF 0 0 h0 base)))
      · by_cases h3 : size ≠ 0
        · exact rz0 (nT 3 0 h3 (nF 2 0 h2 (nF 1 0 h1 (nF 0 0 h0 base))))
        · exact rz0 (nF 3 0 h3 (nF 2 0 h2 (nF 1 0 h1 (nF 0 0 h0 base))))
theorem rr_39_11 (dst src imm size cond : Int) (w : World) (d1 : 0 ≤ dst) (d2 : dst ≤ 15) (s1 : 0 ≤ src) (s2 : src ≤ 15) (i1 : -2147483648 ≤ imm) (i2 : imm ≤ 2147483647) :
    RrG 39 dst src imm size cond 1 1 true ⟨⟨[]⟩⟩ w := by
  have base := rbase dst src imm size cond d1 d2 s1 s2 i1 i2
  by_cases h0 : dst ≠ 0
  · exact rz0 (nT 0 0 h0 base)
  · by_cases h1 : src ≠ 0
    · exact rz0 (nT 1 0 h1 (nF 0 0 h0 base))
    · by_cases h2 : imm ≠ 0
      · exact rz0 (nT 2 0 h2 (nF 1 0 h1 (nF 0 0 h0 base)))
      · by_cases h3 : size ≠ 0
        · exact rz0 (nT 3 0 h3 (nF 2 0 h2 (nF 1 0 h1 (nF 0 0 h0 base))))
        · exact rz0 (nF 3 0 h3 (nF 2 0 h2 (nF 1 0 h1 (nF 0 0 h0 base))))
end Go.Proofs.YtmmpkkpmlaiapaaGreatDoor
