/- What flow.Live answers, as sets of registers that are live. No condition. -/
import Derived.Test.YtegnaeinpacafaaGr1
import Derived.Test.YtegnaeinpacafaaFlD
namespace Go.Proofs.Ytegnaeinpacafaa
open Go.RowKit
set_option linter.unusedVariables false
set_option maxHeartbeats 2000000
open Classical in
noncomputable def lvB (blk : Nat → BlockD) (nx : Nat → List Int) (n r b i : Nat) : Bool := decide (LivePt blk nx n r b i)
open Classical in
theorem lvB_iff {blk : Nat → BlockD} {nx : Nat → List Int} {n r b i : Nat} : lvB blk nx n r b i = true ↔ LivePt blk nx n r b i := by unfold lvB; exact decide_eq_true_iff
theorem lv_in {blk : Nat → BlockD} {nx : Nat → List Int} {n K r b : Nat} {I O : Nat → List Nat} (h : LInv blk nx n K I O) (hd : LDone blk nx n K I O 0) (hr : r < 64 * K) (hb : b < n) : bitL (I b) r = lvB blk nx n r b 0 := by
  rw [Bool.eq_iff_iff, h.done hd hr hb, lvB_iff]
  exact ⟨LivePt.at_, LiveAt.pt hb⟩
theorem lv_lt {blk : Nat → BlockD} {nx : Nat → List Int} {n r b : Nat} (h : LiveAt blk nx n r b) : b < n := by cases h <;> assumption
theorem lv_out {blk : Nat → BlockD} {nx : Nat → List Int} {n K r b : Nat} {I O : Nat → List Nat} (h : LInv blk nx n K I O) (hd : LDone blk nx n K I O 0) (hnx : ∀ i k, i < n → k ∈ nx i → 0 ≤ k ∧ k < n) (hr : r < 64 * K) (hb : b < n) :
    bitL (O b) r = (nx b).any fun k => lvB blk nx n r k.toNat 0 := by
  rw [Bool.eq_iff_iff, h.done_out hd hnx hr hb, List.any_eq_true]
  constructor
  · rintro ⟨k, hk, hl⟩
    exact ⟨k, hk, by rw [lvB_iff]; exact LivePt.at_ hl⟩
  · rintro ⟨k, hk, hl⟩
    have := hnx b k hb hk
    rw [lvB_iff] at hl
    exact ⟨k.toNat, by rw [Int.toNat_of_nonneg this.1]; exact hk, LiveAt.pt (by omega) hl⟩
/-- live at a block's end, at its beginning -/
noncomputable def oB (f : FuncD) (i r : Nat) : Bool := (nxF f i).any fun k => lvB (blkF f) (nxF f) f.blocks.length r k.toNat 0
noncomputable def iB (f : FuncD) (i r : Nat) : Bool := lvB (blkF f) (nxF f) f.blocks.length r i 0
section
variable {w w' : World} {f : FuncD} {B R : Nat} {iv ov : Value} {vs : List Value} {I O : Nat → List Nat}
theorem live_o (hL : LS w w' B f.blocks.length f.blocks.length iv ov vs I O) (hI : LInv (blkF f) (nxF f) f.blocks.length ((R + 63) / 64) I O) (hD : LDone (blkF f) (nxF f) f.blocks.length ((R + 63) / 64) I O 0) (hnx : ∀ i k, i < f.blocks.length → k ∈ nxF f i → 0 ≤ k ∧ k < f.blocks.length) {i : Nat} (hi : i < f.blocks.length) :
    ∃ v, vs[f.blocks.length + i]? = some v ∧ SetB w' B v R (oB f i) := by
  obtain ⟨v, e1, e2⟩ := hL.so i hi
  exact ⟨v, e1, _, e2, hI.lo i hi, fun r hr => lv_out hI hD hnx (by omega) hi⟩
theorem live_i (hL : LS w w' B f.blocks.length f.blocks.length iv ov vs I O) (hI : LInv (blkF f) (nxF f) f.blocks.length ((R + 63) / 64) I O) (hD : LDone (blkF f) (nxF f) f.blocks.length ((R + 63) / 64) I O 0) {i : Nat} (hi : i < f.blocks.length) :
    ∃ v, vs[i]? = some v ∧ SetB w' B v R (iB f i) := by
  obtain ⟨v, e1, e2⟩ := hL.si i hi
  exact ⟨v, e1, _, e2, hI.li i hi, fun r hr => lv_in hI hD (by omega) hi⟩
end
end Go.Proofs.Ytegnaeinpacafaa
