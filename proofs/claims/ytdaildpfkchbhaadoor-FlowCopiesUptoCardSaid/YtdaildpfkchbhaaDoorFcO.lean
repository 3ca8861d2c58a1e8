/- FlowCopies: an rtl program that came in, of small bulk: its functions' names are short. No condition. -/
import Derived.Test.YtdaildpfkchbhaaDoorRz
import Derived.Test.YtdaildpfkchbhaaDoorRows
namespace Go.Proofs.YtdaildpfkchbhaaDoor
open Go.Joins Go.ChangeShapes Go.WideShapes Go.RowKit Go.Deep
set_option linter.unusedVariables false
set_option maxRecDepth 20000
theorem bulk_part {H : Type} {d : DataW H} {l : List (DataW H)} (h : d ∈ l) : Rows.uptoBulk d ≤ Rows.uptoBulkAll l := by
  induction l with
  | nil => cases h
  | cons x r ih =>
    simp only [Rows.uptoBulkAll]
    cases List.mem_cons.1 h with
    | inl e => subst e; omega
    | inr e => have := ih e; omega
section
variable {H : Type} {enc : TypeId × Value → H} {w : World}
/-- the cells read, and what they read as is of bulk at most K -/
def Bk (enc : TypeId × Value → H) (P : Program) (w : World) (T : TypeId) (K : Nat) (cs : List Value) : Prop := ∃ fuel x, DataW.trod enc P w 0 (fun _ => true) true fuel T cs = some x ∧ Rows.uptoBulk x.1 ≤ K
theorem Bk.of_trod {P : Program} {T : TypeId} {v : Value} {d : DataW H} {ps : List MemPlace} {K : Nat} (h : DataW.Trod enc P w 0 (fun _ => true) true T v d ps) (hk : Rows.uptoBulk d ≤ K) : Bk enc P w T K v.cells.toList := by
  obtain ⟨fuel, hf⟩ := h
  exact ⟨fuel, _, hf, hk⟩
theorem Bk.struct {P : Program} {T : TypeId} {fs : Array Field} {cs : List Value} {K : Nat} (hs : P.underlying T = some (.struct fs)) (h : Bk enc P w T K cs) :
    cs.length = P.cellsOf T ∧ ∀ (i : Nat) (f : Field), fs[i]? = some f → Bk enc P w f.type K ((cs.drop f.offset).take (P.cellsOf f.type)) := by
  obtain ⟨fuel, x, hf, hk⟩ := h
  obtain ⟨xs, n, _, hx, h1, h2, h3⟩ := DataW.trod_struct hs hf
  refine ⟨h1, fun i f hi => ?_⟩
  have hlt : i < xs.length := by rw [h2]; exact (Array.getElem?_eq_some_iff.1 hi).1
  refine ⟨n, xs[i], (h3 i f hi).trans (List.getElem?_eq_getElem hlt), ?_⟩
  subst hx
  simp only [Rows.uptoBulk] at hk
  exact Nat.le_trans (bulk_part (List.mem_map.2 ⟨_, List.getElem_mem hlt, rfl⟩)) (Nat.le_of_succ_le hk)
theorem Bk.slice {P : Program} {T e : TypeId} {cs : List Value} {K : Nat} (ht : P.underlying T = some (.slice e)) (h : Bk enc P w T K cs) :
    ∃ A len cap, cs = [.slice A len cap] ∧ SliceAt w A len (P.cellsOf e) (Bk enc P w e K) := by
  obtain ⟨fuel, x, hf, hk⟩ := h
  rcases DataW.trod_slice ht hf with ⟨h1, _⟩ | ⟨a, len, cap, elems, rest, n, _, h1, hx, _, h2, h3, h4, h5, h6, _⟩
  · exact ⟨none, 0, 0, h1, (fun i hi => by omega)⟩
  · subst hx
    simp only [Rows.uptoBulk] at hk
    refine ⟨some a, len, cap, h1, fun i hi => ?_⟩
    have e' := h5 i hi
    have hlt : i < elems.length := by omega
    rw [List.getElem?_eq_getElem hlt, Option.bind_eq_some_iff] at e'
    obtain ⟨cs', g1, g2⟩ := e'
    obtain ⟨_, k1, k2⟩ := World.cells?_some g1
    refine ⟨a, cs', rfl, k1, fun j hj => ?_, n, _, g2, ?_⟩
    · rw [← k2 j hj, Addr.add_add]
    · exact Nat.le_trans (bulk_part (List.mem_map.2 ⟨_, List.getElem_mem hlt, rfl⟩)) (Nat.le_trans (Nat.le_add_right _ _) (Nat.le_of_succ_le hk))
theorem Bk.str {P : Program} {T : TypeId} {cs : List Value} {K : Nat} (ht : P.underlying T = some .string) (h : Bk enc P w T K cs) : ∃ s : ByteArray, cs = [.string s] ∧ s.size ≤ K := by
  obtain ⟨fuel, x, hf, hk⟩ := h
  obtain ⟨s, h1, h2, h3⟩ := DataW.trod_string ht hf
  refine ⟨s, h1, ?_⟩
  subst h2
  simp only [Rows.uptoBulk] at hk
  have h4 : s.data.toList.length = s.size := rfl
  omega
end
theorem open_progK {H : Type} {enc : TypeId × Value → H} {w : World} {r : Reach} {b0 : Nat} {v : Value} {d : DataW H} {p : List MemPlace} {K : Nat} (hv : Value.okWide Tryd.prog w r b0 25 v) (h : DataW.Trod enc Tryd.prog w 0 (fun _ => true) true 25 v d p) (hw : ∀ b ∈ d.weights Tryd.prog 25, b ≤ reachBytes) (hk : Rows.uptoBulk d ≤ K) :
    ∃ (x : ProgD) (vf vg : Value), v = .agg #[vf, vg, .int .i64 x.data, .int .i64 x.main] ∧ In w x vf vg ∧ ∀ f ∈ x.funcs, f.name.size ≤ K := by
  obtain ⟨cs, rfl, hr⟩ := open_structW Tryd.underlying25 hv h hw
  have hb : Bk enc Tryd.prog w 25 K cs.toList := Bk.of_trod h hk
  obtain ⟨x, vf, vg, e, h1, h2, h3, h4, h5, h6⟩ := open_ProgR hr
  obtain ⟨hl, hf⟩ := hb.struct Tryd.underlying25
  have q0 := hf 0 _ rfl
  rw [e] at q0
  have q0 : Bk enc Tryd.prog w 22 K (([vf, vg, .int .i64 x.data, .int .i64 x.main].drop 0).take (Tryd.prog.cellsOf 22)) := q0
  rw [show Tryd.prog.cellsOf 22 = 1 by kernel_rfl] at q0
  refine ⟨x, vf, vg, ?_, ⟨h1, h2, h3, h4, h5, h6⟩, ?_⟩
  · congr 1
    exact Array.ext' (by simpa using e)
  · intro f hfm
    obtain ⟨i, hi⟩ := List.mem_iff_getElem?.1 hfm
    obtain ⟨A, len, cap, e1, hat⟩ := Bk.slice Tryd.underlying22 q0
    obtain ⟨A2, cap2, e2, _, _, h8⟩ := h1
    simp only [List.drop_zero, List.take_succ_cons, List.take_zero, List.cons.injEq, and_true] at e1
    rw [e2] at e1
    simp only [Value.slice.injEq] at e1
    obtain ⟨rfl, rfl, rfl⟩ := e1
    obtain ⟨ad, cs1, g1, g2, g3, g4⟩ := hat i (List.getElem?_eq_some_iff.1 hi).1
    obtain ⟨b, o, cs2, k1, k2, k3, vs, vl, vb, k4, _⟩ := h8 i f hi
    subst k4
    rw [g1] at k1
    obtain rfl := Option.some.inj k1
    rw [Tryd.cells_e_Func] at g2 g3
    have c1 := g3 0 (by omega)
    have c2 := k3 0 (by omega)
    rw [Addr.add_lit] at c1
    have e3 : o + (i * 6 + 0) = o + i * 6 + 0 := by omega
    rw [e3, c2] at c1
    obtain ⟨_, hf2⟩ := g4.struct Tryd.underlying32
    have hq := hf2 0 _ rfl
    obtain ⟨s, hs1, hs2⟩ := Bk.str Tryd.underlying9 hq
    have h0 : ((cs1.drop 0).take 1)[0]? = cs1[0]? := by simp
    have hs1' : (cs1.drop 0).take 1 = [.string s] := hs1
    rw [hs1'] at h0
    have h9 : cs1[0]? = some (.string s) := h0.symm
    rw [h9] at c1
    have h10 : (Value.string f.name) = .string s := by simpa using c1
    cases h10
    exact hs2
end Go.Proofs.YtdaildpfkchbhaaDoor
