/- A type's blocks are no row of labels: what paints the row keeps the type. No condition. -/
import Derived.Test.YtpcfibnnboenhaaOlM
namespace Go.Proofs.Ytpcfibnnboenhaa
open Go.RowKit
set_option linter.unusedVariables false
theorem lab_ne {w : World} {g b : Nat} {l : List Bool} {cs : Array Value} (hL : LabB w g l) (h : w.heap[b]? = some (.cells cs 39 (0, 0))) : b ≠ g := by
  rintro rfl
  unfold LabB at hL
  rw [hL] at h
  simp at h
theorem TyC.free {w : World} {lo : Nat → Prop} {g : Nat} {l : List Bool} (hL : LabB w g l) : ∀ {t : Ty} {cs : List Value}, TyC w lo t cs → TyC w (fun b => b ≠ g) t cs
  | .int s sg c, cs, h => h
  | .ptr e, cs, ⟨b, ds, h, hl, h1, h2⟩ => ⟨b, ds, h, lab_ne hL h1, h1, TyC.free hL h2⟩
  | .arr e n, cs, ⟨b, ds, h, hl, h1, h2⟩ => ⟨b, ds, h, lab_ne hL h1, h1, TyC.free hL h2⟩
  | .str k, cs, h => h
  | .fn r a b, cs, ⟨q, g1, cap, ds, es, fs, h, hl, h1, h2, h3, h4, h5⟩ => ⟨q, g1, cap, ds, es, fs, h, ⟨lab_ne hL h1, lab_ne hL h2⟩, h1, h2, TyC.free hL h3, TyC.free hL h4, TyC.free hL h5⟩
theorem TyC.grown {w w' : World} {lo : Nat → Prop} {g : Nat} {l : List Bool} {t : Ty} {cs : List Value} (hL : LabB w g l) (h : TyC w lo t cs) (hg : w.grownBy w' (some g)) : TyC w' (fun b => b ≠ g) t cs :=
  (h.free hL).kept (fun b hb hl => hg.block b hl (by simp; exact hb))
theorem FldR.grown {w w' : World} {g : Nat} {l : List Bool} {cs : List Value} {f : FldP} (hL : LabB w g l) (h : FldR w cs f) (hg : w.grownBy w' (some g)) : FldR w' cs f := by
  obtain ⟨ds, h1, h2, h3, h4⟩ := h
  exact ⟨ds, h1, h2, (h3.grown hL hg).low (fun _ _ _ => trivial), h4⟩
theorem SlR.grownF {w w' : World} {g n : Nat} {l : List Bool} {vf : Value} {fs : List FldP} (h : SlR w 11 (FldR w) vf fs) (hf : FarV n vf) (hn : g < n) (hL : LabB w g l) (hg : w.grownBy w' (some g)) : SlR w' 11 (FldR w') vf fs := by
  obtain ⟨A, cap, rfl, h1, h2, h3⟩ := h
  refine ⟨A, cap, rfl, h1, h2, fun i x hi => ?_⟩
  obtain ⟨b, o, cs, rfl, k2, k3, k4⟩ := h3 i x hi
  have hb := hf b o _ _ rfl
  have h0 := k3 0 (by decide)
  obtain ⟨c0, hc0⟩ : ∃ c, cs[0]? = some c := ⟨_, List.getElem?_eq_getElem (by omega)⟩
  rw [hc0] at h0
  have hlt := World.block_lt_of_cell? _ _ h0
  refine ⟨b, o, cs, rfl, k2, fun j hj => ?_, k4.grown hL hg⟩
  rw [← k3 j hj]
  exact World.cell?_of_block (w := w) (a := ⟨b, o + i * 11 + j, none⟩) (hg.block b hlt (by simp; omega))
theorem TyC.all {w : World} {lo : Nat → Prop} {t : Ty} {cs : List Value} (h : TyC w lo t cs) : TyC w (fun _ => True) t cs := h.low (fun _ _ _ => trivial)
theorem Under.mono {d e : Nat} (h : d ≤ e) : ∀ {t : Ty}, Under d t → Under e t
  | .int _ _ _, _ => trivial
  | .ptr _, _ => trivial
  | .arr t n, u => Under.mono h (t := t) u
  | .str k, u => by
    have u : k < (d : Int) := u
    show k < (e : Int)
    omega
  | .fn _ _ _, _ => trivial
end Go.Proofs.Ytpcfibnnboenhaa
