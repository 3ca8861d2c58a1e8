/- What the statements' live answers. No condition. -/
import Derived.Test.YtcljdhpdknecjaaFl8
namespace Go.Proofs.Ytcljdhpdknecjaa
open Go.RowKit
set_option linter.unusedVariables false
set_option maxHeartbeats 2000000
open Classical in
noncomputable def livB (blk : Nat → BlockD) (nx : Nat → List Int) (n r b i : Nat) : Bool := decide (LivePt blk nx n r b i)
open Classical in
theorem livB_iff {blk : Nat → BlockD} {nx : Nat → List Int} {n r b i : Nat} : livB blk nx n r b i = true ↔ LivePt blk nx n r b i := by unfold livB; exact decide_eq_true_iff
theorem live_top (W0 : World) (f : FuncD) (A6 A7 A8 : Option Addr) (c6 c7 c8 n6 n7 : Nat) (rg : Int) (hb : SlR W0 9 (BlockR W0) (.slice A8 f.blocks.length c8) f.blocks) (n : Nat) (hn : n = f.blocks.length) (hn6 : n ≤ 1000000)
    (hnx : ∀ i k, i < n → k ∈ nxF f i → 0 ≤ k ∧ k < n) (hslim : ∀ b ∈ f.blocks, ∀ x ∈ b.ins, x.args.length ≤ 1000000) (r : Nat) (hr : r ≤ 1000000)
    (w w0 : World) (h0 : Below W0.heap.size W0 w0) (hw : Below w0.heap.size w0 w) (g cap b i : Nat) (hbn : b < n) (hil : i ≤ (blkF f b).ins.length) (hown : OwnB w w0.heap.size (.slice (some ⟨g, 0, none⟩) n cap) (List.replicate n false)) :
    Calls Try.prog 16 #[.agg #[.string f.name, .int .i64 f.params, .slice A7 n7 c7, .int .i64 rg, .slice A6 n6 c6, .slice A8 n c8], .int .i64 (b : Nat), .int .i64 (i : Nat), .int .i64 (r : Nat), .slice (some ⟨g, 0, none⟩) n cap] w
      fun e w' => e = .returned (.bool (livB (blkF f) (nxF f) n r b i)) ∧ Below w0.heap.size w0 w' := by
  refine (live_rec W0 f A6 A7 A8 c6 c7 c8 n6 n7 rg hb n hn hn6 hnx hslim r hr n w w0.heap.size g cap (List.replicate n false) b i (Nat.sub_le _ _) (h0.trans (hw.mono h0.size)) h0.size (by simp) hbn hil hown).mono ?_
  rintro e w' ⟨ret, l2, rfl, _, hg, _, _, hY, hN⟩
  refine ⟨?_, below_of_grown hw (Nat.le_refl _) hg (fun k hk => by cases hk; exact (World.ownsRow.lt hown g rfl).1)⟩
  refine ret_bool ?_
  cases ret
  · obtain ⟨h1, h2⟩ := hN rfl
    refine (Bool.eq_false_iff.2 (fun h => top_no (fun k hk => ?_) h2 h1 (livB_iff.1 h))).symm
    have := List.eq_of_mem_replicate (List.mem_of_getElem? hk)
    exact absurd this (by decide)
  · exact (livB_iff.2 (hY rfl)).symm
theorem liv_in {blk : Nat → BlockD} {nx : Nat → List Int} {n K r b : Nat} {I O : Nat → List Nat} (h : LInv blk nx n K I O) (hd : LDone blk nx n K I O 0) (hr : r < 64 * K) (hb : b < n) : bitL (I b) r = livB blk nx n r b 0 := by
  rw [Bool.eq_iff_iff, h.done hd hr hb, livB_iff]
  exact ⟨LivePt.at_, LiveAt.pt hb⟩
theorem liv_lt {blk : Nat → BlockD} {nx : Nat → List Int} {n r b : Nat} (h : LiveAt blk nx n r b) : b < n := by cases h <;> assumption
theorem liv_out {blk : Nat → BlockD} {nx : Nat → List Int} {n K r b : Nat} {I O : Nat → List Nat} (h : LInv blk nx n K I O) (hd : LDone blk nx n K I O 0) (hnx : ∀ i k, i < n → k ∈ nx i → 0 ≤ k ∧ k < n) (hr : r < 64 * K) (hb : b < n) :
    bitL (O b) r = (nx b).any fun k => livB blk nx n r k.toNat 0 := by
  rw [Bool.eq_iff_iff, h.done_out hd hnx hr hb, List.any_eq_true]
  constructor
  · rintro ⟨k, hk, hl⟩
    exact ⟨k, hk, by rw [livB_iff]; exact LivePt.at_ hl⟩
  · rintro ⟨k, hk, hl⟩
    have := hnx b k hb hk
    rw [livB_iff] at hl
    exact ⟨k.toNat, by rw [Int.toNat_of_nonneg this.1]; exact hk, LiveAt.pt (by omega) hl⟩
/-- .. ahead of an instruction -/
theorem liv_pt {blk : Nat → BlockD} {nx : Nat → List Int} {n K r b i : Nat} {I O : Nat → List Nat} (h : LInv blk nx n K I O) (hd : LDone blk nx n K I O 0) (hnx : ∀ i k, i < n → k ∈ nx i → 0 ≤ k ∧ k < n) (hr : r < 64 * K) (hb : b < n) :
    ptB (blk b) i (bitL (O b) r) r = livB blk nx n r b i := by
  have ho := h.done_out hd hnx hr hb
  rw [Bool.eq_iff_iff, livB_iff]
  unfold LivePt
  have hm : ∀ {f g : Bool}, (f = true → g = true) → ptB (blk b) i f r = true → ptB (blk b) i g r = true := fun hfg => backsB_mono (useB_mono hfg) _
  cases e : bitL (O b) r
  · constructor
    · exact Or.inl
    · rintro (h1 | ⟨h1, hx⟩)
      · exact h1
      · rw [ho.2 hx] at e; cases e
  · constructor
    · exact fun h1 => Or.inr ⟨h1, ho.1 e⟩
    · rintro (h1 | ⟨h1, _⟩)
      · exact hm (fun h => by cases h) h1
      · exact h1
end Go.Proofs.Ytcljdhpdknecjaa
