/- ReadPlaces: the law's instructions may be. No condition. -/
import Derived.Test.YtamejgfmfneppaaDoorLkV
import Derived.Test.YtamejgfmfneppaaDoorRegA
namespace Go.Proofs.YtamejgfmfneppaaDoor
open Go.RowKit
set_option linter.unusedVariables false
theorem right_law (x : XInsD) (hx : x ∈ [insI 33 0 fB, insI 6 1 gyB, insI 6 2 fB, insI 35 0 startB, insI 39 0 bz, insI 38 0 bz]) (w : World) :
    Calls Tryd.prog 9 #[.agg (insV x).toArray] w fun e w' => e = .returned (.bool true) ∧ Below w.heap.size w w' := by
  simp only [List.mem_cons, List.not_mem_nil, or_false] at hx
  rcases hx with e | e | e | e | e | e <;> subst e
  · exact vrun mixed 100000 60 9 [.agg (insV (insI 33 0 fB)).toArray] (.bool true) rfl rfl (by kernel_rfl) w
  · exact vrun mixed 100000 60 9 [.agg (insV (insI 6 1 gyB)).toArray] (.bool true) rfl rfl (by kernel_rfl) w
  · exact vrun mixed 100000 60 9 [.agg (insV (insI 6 2 fB)).toArray] (.bool true) rfl rfl (by kernel_rfl) w
  · exact vrun mixed 100000 60 9 [.agg (insV (insI 35 0 startB)).toArray] (.bool true) rfl rfl (by kernel_rfl) w
  · exact vrun mixed 100000 60 9 [.agg (insV (insI 39 0 bz)).toArray] (.bool true) rfl rfl (by kernel_rfl) w
  · exact vrun mixed 100000 60 9 [.agg (insV (insI 38 0 bz)).toArray] (.bool true) rfl rfl (by kernel_rfl) w
theorem mem_codeB {back : Bool} {b : Nat} {x : XItemD} (h : x ∈ codeB back b) : x = labI startB ∨ x ∈ rowX ∨ x = fenI ∨ x = labI fB ∨ x = opI 38 0 bz := by
  unfold codeB at h
  simp only [List.mem_append, List.mem_replicate, List.mem_singleton, List.mem_cons, List.not_mem_nil, or_false] at h
  rcases h with h | h | ⟨_, h⟩ | (h | h) | h
  · exact Or.inl h
  · cases back
    · simp at h
    · exact Or.inr (Or.inl h)
  · exact Or.inr (Or.inr (Or.inl h))
  · exact Or.inr (Or.inr (Or.inr (Or.inl h)))
  · exact Or.inr (Or.inr (Or.inr (Or.inr h)))
  · cases back
    · exact Or.inr (Or.inl h)
    · simp at h
theorem itIn_B {back : Bool} {b : Nat} {x : XItemD} (h : x ∈ codeB back b) : ItIn x := by
  have hb : bz.size ≤ maxLen := by unfold maxLen; decide
  have hs : startB.size ≤ maxLen := by unfold maxLen; decide
  have hf : fB.size ≤ maxLen := by unfold maxLen; decide
  have hy : gyB.size ≤ maxLen := by unfold maxLen; decide
  have h0 : In64 0 := by unfold In64; decide
  rcases mem_codeB h with e | e | e | e | e
  · subst e; exact ⟨hs, h0, h0, h0, h0, h0, h0, hb⟩
  · simp only [rowX, List.mem_cons, List.not_mem_nil, or_false] at e
    rcases e with e | e | e | e <;> subst e
    · exact ⟨hb, by unfold In64; decide, h0, h0, h0, h0, h0, hf⟩
    · exact ⟨hb, by unfold In64; decide, by unfold In64; decide, h0, h0, h0, h0, hy⟩
    · exact ⟨hb, by unfold In64; decide, by unfold In64; decide, h0, h0, h0, h0, hf⟩
    · exact ⟨hb, by unfold In64; decide, h0, h0, h0, h0, h0, hs⟩
  · subst e; exact ⟨hb, by unfold In64; decide, h0, h0, h0, h0, h0, hb⟩
  · subst e; exact ⟨hf, h0, h0, h0, h0, h0, h0, hb⟩
  · subst e; exact ⟨hb, by unfold In64; decide, h0, h0, h0, h0, h0, hb⟩
theorem insIn_B {back : Bool} {b : Nat} {x : XItemD} (h : x ∈ codeB back b) (hl : nmL x.label = []) : x.ins ∈ [insI 33 0 fB, insI 6 1 gyB, insI 6 2 fB, insI 35 0 startB, insI 39 0 bz, insI 38 0 bz] := by
  rcases mem_codeB h with e | e | e | e | e
  · subst e; cases hl
  · simp only [rowX, List.mem_cons, List.not_mem_nil, or_false] at e
    rcases e with e | e | e | e <;> subst e <;> simp [opI]
  · subst e; simp [fenI, opI]
  · subst e; cases hl
  · subst e; simp [opI]
end Go.Proofs.YtamejgfmfneppaaDoor
