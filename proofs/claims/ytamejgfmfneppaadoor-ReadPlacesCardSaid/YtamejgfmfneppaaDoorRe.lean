/- Arguments of any shape, with the row's own reach: what stands where they read, part by part. Over any program. No condition. -/
import Derived.Test.YtamejgfmfneppaaDoorRd
import Derived.SizedLaws
namespace Go.Proofs.YtamejgfmfneppaaDoor
open Go.Joins Go.ChangeShapes Go.WideShapes Go.RowKit Go.Deep
set_option linter.unusedVariables false
section
variable {H : Type} {enc : TypeId × Value → H} {P : Program} {w : World}
/-- the cells read, as of a type; nothing weighs more than the reach -/
def Rw (enc : TypeId × Value → H) (P : Program) (w : World) (T : TypeId) (cs : List Value) : Prop := ∃ fuel x, DataW.trod enc P w 0 (fun _ => true) true fuel T cs = some x ∧ ∀ b ∈ x.1.weights P T, b ≤ reachBytes
theorem Rw.rd {T : TypeId} {cs : List Value} (h : Rw enc P w T cs) : Rd enc P w T cs := let ⟨f, x, h1, _⟩ := h; ⟨f, x, h1⟩
theorem Rw.of_trod {T : TypeId} {v : Value} {d : DataW H} {ps : List MemPlace} (h : DataW.Trod enc P w 0 (fun _ => true) true T v d ps) (hw : ∀ b ∈ d.weights P T, b ≤ reachBytes) : Rw enc P w T v.cells.toList := by
  obtain ⟨fuel, hf⟩ := h
  exact ⟨fuel, _, hf, hw⟩
theorem weightsAll_mem {e : TypeId} : ∀ (l : List (DataW H)) (d : DataW H), d ∈ l → ∀ b ∈ d.weights P e, b ∈ DataW.weightsAll P e l
  | x :: l, d, h, b, hb => by
    unfold DataW.weightsAll
    rw [List.mem_append]
    rcases List.mem_cons.1 h with rfl | h
    · exact Or.inl hb
    · exact Or.inr (weightsAll_mem l d h b hb)
theorem weightsEach_mem : ∀ (ts : List TypeId) (l : List (DataW H)) (i : Nat) (t : TypeId) (d : DataW H), ts[i]? = some t → l[i]? = some d → ∀ b ∈ d.weights P t, b ∈ DataW.weightsEach P ts l
  | [], _, i, t, d, h, _, _, _ => by simp at h
  | _ :: _, [], i, t, d, _, h, _, _ => by simp at h
  | t0 :: ts, x :: l, 0, t, d, h1, h2, b, hb => by
    simp only [List.getElem?_cons_zero, Option.some.injEq] at h1 h2
    subst h1 h2
    unfold DataW.weightsEach
    exact List.mem_append.2 (Or.inl hb)
  | t0 :: ts, x :: l, i + 1, t, d, h1, h2, b, hb => by
    unfold DataW.weightsEach
    exact List.mem_append.2 (Or.inr (weightsEach_mem ts l i t d (by simpa using h1) (by simpa using h2) b hb))
theorem Rw.struct {T : TypeId} {fs : Array Field} {cs : List Value} (hs : P.underlying T = some (.struct fs)) (h : Rw enc P w T cs) :
    cs.length = P.cellsOf T ∧ ∀ (i : Nat) (f : Field), fs[i]? = some f → Rw enc P w f.type ((cs.drop f.offset).take (P.cellsOf f.type)) := by
  obtain ⟨fuel, x, hf, hw⟩ := h
  obtain ⟨xs, n, _, hx, h1, h2, h3⟩ := DataW.trod_struct hs hf
  refine ⟨h1, fun i f hi => ?_⟩
  have hlt : i < xs.length := by rw [h2]; exact (Array.getElem?_eq_some_iff.1 hi).1
  refine ⟨n, xs[i], (h3 i f hi).trans (List.getElem?_eq_getElem hlt), fun b hb => hw b ?_⟩
  subst hx
  simp only [DataW.weights, hs]
  exact weightsEach_mem _ _ i f.type xs[i].1 (by simp [hi]) (by simp [List.getElem?_eq_getElem hlt]) b hb
theorem Rw.slice {T e : TypeId} {cs : List Value} (ht : P.underlying T = some (.slice e)) (h : Rw enc P w T cs) :
    ∃ A len cap, cs = [.slice A len cap] ∧ len ≤ cap ∧ cap ≤ maxLen ∧ SliceAt w A len (P.cellsOf e) (Rw enc P w e) ∧ cap * P.bytesOf e ≤ reachBytes := by
  obtain ⟨fuel, x, hf, hw⟩ := h
  rcases DataW.trod_slice ht hf with ⟨h1, _⟩ | ⟨a, len, cap, elems, rest, n, _, h1, hx, _, h2, h3, h4, h5, h6, _⟩
  · exact ⟨none, 0, 0, h1, Nat.le_refl _, by decide, (fun i hi => by omega), by simp [reachBytes]⟩
  · have hr := (h6 rfl).1
    subst hx
    simp only [DataW.weights, ht] at hw
    refine ⟨some a, len, cap, h1, h2, h3, fun i hi => ?_, ?_⟩
    · have e' := h5 i hi
      have hlt : i < elems.length := by omega
      rw [List.getElem?_eq_getElem hlt, Option.bind_eq_some_iff] at e'
      obtain ⟨cs', g1, g2⟩ := e'
      obtain ⟨_, k1, k2⟩ := World.cells?_some g1
      refine ⟨a, cs', rfl, k1, fun j hj => ?_, n, _, g2, fun b hb => hw b ?_⟩
      · rw [← k2 j hj, Addr.add_add]
      · refine List.mem_cons_of_mem _ (List.mem_append.2 (Or.inl ?_))
        exact weightsAll_mem _ _ (List.mem_map_of_mem (List.getElem_mem hlt)) b hb
    · have := hw _ List.mem_cons_self
      simp only [List.length_map, h4, hr] at this
      rw [show len + (cap - len) = cap by omega] at this
      exact this
/-- an argument that is a struct -/
theorem open_structW {r : Reach} {b0 : Nat} {T : TypeId} {fs : Array Field} {v : Value} {d : DataW H} {p : List MemPlace} (hs : P.underlying T = some (.struct fs)) (hv : Value.okWide P w r b0 T v) (h : DataW.Trod enc P w 0 (fun _ => true) true T v d p) (hw : ∀ b ∈ d.weights P T, b ≤ reachBytes) :
    ∃ cs : Array Value, v = .agg cs ∧ Rw enc P w T cs.toList := by
  obtain ⟨cs, rfl, _⟩ := okWide_struct hs hv
  exact ⟨cs, rfl, Rw.of_trod h hw⟩
end
end Go.Proofs.YtamejgfmfneppaaDoor
