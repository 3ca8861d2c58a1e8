/- What the listed tables of numbers hold when a call begins, cell by cell. No condition. -/
import Derived.Lib.ItoaNum
import Derived.Test.YtmmpkkpmlaiapaaGreatDoorRows
import Derived.Test.YtmmpkkpmlaiapaaGreatDoorLaid
import Derived.Test.YtmmpkkpmlaiapaaGreatDoorVmB
namespace Go.Proofs.YtmmpkkpmlaiapaaGreatDoor
open Go.RowKit
set_option linter.unusedVariables false
set_option maxRecDepth 100000
def laidS : List (String × DataW Unit) := [("math/bits.deBruijn32tab", Rows.laid_math_bits_deBruijn32tab), ("math/bits.deBruijn64tab", Rows.laid_math_bits_deBruijn64tab), ("internal/strconv.uint64pow10", Rows.laid_internal_strconv_uint64pow10), ("unicode/utf8.acceptRanges", Rows.laid_unicode_utf8_acceptRanges), ("strconv.ErrRange", Rows.laid_strconv_ErrRange), ("strconv.ErrSyntax", Rows.laid_strconv_ErrSyntax), ("unicode.White_Space", Rows.laid_unicode_White_Space), ("strings.asciiSpace", Rows.laid_strings_asciiSpace), ("unicode/utf8.first", Rows.laid_unicode_utf8_first)]
def flatAt (P : Program) (n : String) (k : IntKind) (g : Nat) : Bool :=
  match P.globalNamed n with
  | none => false
  | some g' => g'.beq g && match (P.globals[g]?).map (·.type) with
    | none => false
    | some t => match P.underlying t with
      | some (.array m e) => (match P.underlying e with | some (.int k') => k' == k | _ => false) && (P.cellsOf e).beq 1
      | _ => false
theorem flatAt_cells {P : Program} {w : World} {l : List (String × DataW Unit)} (h : laidMetH P l w) {n : String} {k : IntKind} {xs : List Int} (hm : (n, flatD k xs) ∈ l) {g : Nat} (hf : flatAt P n k g = true) :
    ∀ (i : Nat) v, (xs.map (Value.int k))[i]? = some v → w.cell? ⟨g, i, none⟩ = some v := by
  unfold flatAt at hf
  split at hf
  · cases hf
  · rename_i g' hg
    rw [Bool.and_eq_true] at hf
    obtain ⟨h1, hf⟩ := hf
    obtain rfl := Nat.eq_of_beq_eq_true h1
    split at hf
    · cases hf
    · rename_i t ht
      split at hf
      · rename_i m e hT
        rw [Bool.and_eq_true] at hf
        obtain ⟨h2, h3⟩ := hf
        split at h2
        · rename_i k' hE
          obtain rfl := eq_of_beq h2
          exact flat_cells h hm hg ht hT hE (Nat.eq_of_beq_eq_true h3)
        · cases h2
      · cases hf
def t1 : List Int := [0, 0, 0, 0, 0, 0, 0, 0, 0, 1, 1, 1, 1, 1, 0, 0, 0, 0, 0, 0, 0, 0, 0, 0, 0, 0, 0, 0, 0, 0, 0, 0, 1, 0, 0, 0, 0, 0, 0, 0, 0, 0, 0, 0, 0, 0, 0, 0, 0, 0, 0, 0, 0, 0, 0, 0, 0, 0, 0, 0, 0, 0, 0, 0, 0, 0, 0, 0, 0, 0, 0, 0, 0, 0, 0, 0, 0, 0, 0, 0, 0, 0, 0, 0, 0, 0, 0, 0, 0, 0, 0, 0, 0, 0, 0, 0, 0, 0, 0, 0, 0, 0, 0, 0, 0, 0, 0, 0, 0, 0, 0, 0, 0, 0, 0, 0, 0, 0, 0, 0, 0, 0, 0, 0, 0, 0, 0, 0, 0, 0, 0, 0, 0, 0, 0, 0, 0, 0, 0, 0, 0, 0, 0, 0, 0, 0, 0, 0, 0, 0, 0, 0, 0, 0, 0, 0, 0, 0, 0, 0, 0, 0, 0, 0, 0, 0, 0, 0, 0, 0, 0, 0, 0, 0, 0, 0, 0, 0, 0, 0, 0, 0, 0, 0, 0, 0, 0, 0, 0, 0, 0, 0, 0, 0, 0, 0, 0, 0, 0, 0, 0, 0, 0, 0, 0, 0, 0, 0, 0, 0, 0, 0, 0, 0, 0, 0, 0, 0, 0, 0, 0, 0, 0, 0, 0, 0, 0, 0, 0, 0, 0, 0, 0, 0, 0, 0, 0, 0, 0, 0, 0, 0, 0, 0, 0, 0, 0, 0, 0, 0, 0, 0, 0, 0, 0, 0]
theorem e1 : flatD .u8 t1 = Rows.laid_strings_asciiSpace := by kernel_rfl
theorem f1 : flatAt Tryz.prog "strings.asciiSpace" .u8 1 = true := by kernel_rfl
def t3 : List Int := [1, 10, 100, 1000, 10000, 100000, 1000000, 10000000, 100000000, 1000000000, 10000000000, 100000000000, 1000000000000, 10000000000000, 100000000000000, 1000000000000000, 10000000000000000, 100000000000000000, 1000000000000000000, 10000000000000000000]
theorem e3 : flatD .u64 t3 = Rows.laid_internal_strconv_uint64pow10 := by kernel_rfl
theorem f3 : flatAt Tryz.prog "internal/strconv.uint64pow10" .u64 3 = true := by kernel_rfl
def t8 : List Int := [0, 1, 28, 2, 29, 14, 24, 3, 30, 22, 20, 15, 25, 17, 4, 8, 31, 27, 13, 23, 21, 19, 16, 7, 26, 12, 18, 6, 11, 5, 10, 9]
theorem e8 : flatD .u8 t8 = Rows.laid_math_bits_deBruijn32tab := by kernel_rfl
theorem f8 : flatAt Tryz.prog "math/bits.deBruijn32tab" .u8 8 = true := by kernel_rfl
def t9 : List Int := [0, 1, 56, 2, 57, 49, 28, 3, 61, 58, 42, 50, 38, 29, 17, 4, 62, 47, 59, 36, 45, 43, 51, 22, 53, 39, 33, 30, 24, 18, 12, 5, 63, 55, 48, 27, 60, 41, 37, 16, 46, 35, 44, 21, 52, 32, 23, 11, 54, 26, 40, 15, 34, 20, 31, 10, 25, 14, 19, 9, 13, 8, 7, 6]
theorem e9 : flatD .u8 t9 = Rows.laid_math_bits_deBruijn64tab := by kernel_rfl
theorem f9 : flatAt Tryz.prog "math/bits.deBruijn64tab" .u8 9 = true := by kernel_rfl
def gn : Nat := 10
noncomputable def gs : Globs := [(1, t1.map (Value.int .u8)), (3, t3.map (Value.int .u64)), (8, t8.map (Value.int .u8)), (9, t9.map (Value.int .u8))]
theorem gs_ok : ∀ g ∈ gs, g.1 < gn ∧ pfs g.2 = true := by
  intro g hg
  simp only [gs, List.mem_cons, List.mem_nil_iff, or_false] at hg
  rcases hg with rfl | rfl | rfl | rfl <;> exact ⟨by decide, by kernel_rfl⟩
theorem gs_need {W : World} (h : laidMetH Tryz.prog laidS W) : NeedOk gs W ∧ gn ≤ W.heap.size := by
  have h1 := flatAt_cells h (show ("strings.asciiSpace", flatD .u8 t1) ∈ laidS by rw [e1]; exact .tail _ (.tail _ (.tail _ (.tail _ (.tail _ (.tail _ (.tail _ (.head _)))))))) f1
  have h3 := flatAt_cells h (show ("internal/strconv.uint64pow10", flatD .u64 t3) ∈ laidS by rw [e3]; exact .tail _ (.tail _ (.head _))) f3
  have h8 := flatAt_cells h (show ("math/bits.deBruijn32tab", flatD .u8 t8) ∈ laidS by rw [e8]; exact .head _) f8
  have h9 := flatAt_cells h (show ("math/bits.deBruijn64tab", flatD .u8 t9) ∈ laidS by rw [e9]; exact .tail _ (.head _)) f9
  refine ⟨?_, ?_⟩
  · intro g hg
    simp only [gs, List.mem_cons, List.mem_nil_iff, or_false] at hg
    rcases hg with rfl | rfl | rfl | rfl
    · exact h1
    · exact h3
    · exact h8
    · exact h9
  · exact cell_lt (h9 0 _ rfl)
theorem flat_parts {P : Program} {n : String} {k : IntKind} {g : Nat} (hf : flatAt P n k g = true) : ∃ t m e, P.globalNamed n = some g ∧ (P.globals[g]?).map (·.type) = some t ∧ P.underlying t = some (.array m e) ∧ P.underlying e = some (.int k) ∧ P.cellsOf e = 1 := by
  unfold flatAt at hf
  split at hf
  · cases hf
  · rename_i g' hg
    rw [Bool.and_eq_true] at hf
    obtain ⟨h1, hf⟩ := hf
    obtain rfl := Nat.eq_of_beq_eq_true h1
    split at hf
    · cases hf
    · rename_i t ht
      split at hf
      · rename_i m e hT
        rw [Bool.and_eq_true] at hf
        obtain ⟨h2, h3⟩ := hf
        split at h2
        · rename_i k' hE
          obtain rfl := eq_of_beq h2
          exact ⟨t, m, e, hg, ht, hT, hE, Nat.eq_of_beq_eq_true h3⟩
        · cases h2
      · cases hf
def cellsAt (P : Program) (g : Nat) : Bool := match (P.globals[g]?).map (·.type) with | none => false | some t => match P.underlying t with | some (.array m _) => (P.cellsOf t).beq m | _ => false
theorem powC : cellsAt Tryz.prog 3 = true := by kernel_rfl
theorem powT : t3 = Lib.pow10Tab := by kernel_rfl
theorem pow_of {W : World} (h : laidMetH Tryz.prog laidS W) : Lib.TabIs Tryz.prog W "internal/strconv.uint64pow10" .u64 Lib.pow10Tab := by
  obtain ⟨t, m, e, hg, ht, hT, hE, hc⟩ := flat_parts f3
  have hct : Tryz.prog.cellsOf t = m := by
    have := powC
    unfold cellsAt at this
    rw [ht] at this
    simp only [hT] at this
    exact Nat.eq_of_beq_eq_true this
  rw [← powT]
  exact flat_var h (show ("internal/strconv.uint64pow10", flatD .u64 t3) ∈ laidS by rw [e3]; exact .tail _ (.tail _ (.head _))) hg ht hT hE hc hct
def PowOk (w : World) : Prop := Lib.TabIs Tryz.prog w "internal/strconv.uint64pow10" .u64 Lib.pow10Tab ∧ 3 < w.heap.size
theorem PowOk.below {w w' : World} (h : PowOk w) (hb : Below w.heap.size w w') : PowOk w' := ⟨TabIs.below h.1 (by kernel_rfl : Tryz.prog.globalNamed "internal/strconv.uint64pow10" = some 3) h.2 hb, Nat.lt_of_lt_of_le h.2 hb.size⟩
theorem pow_ok {W : World} (h : laidMetH Tryz.prog laidS W) : PowOk W := ⟨pow_of h, Nat.lt_of_lt_of_le (by decide) (gs_need h).2⟩
end Go.Proofs.YtmmpkkpmlaiapaaGreatDoor
