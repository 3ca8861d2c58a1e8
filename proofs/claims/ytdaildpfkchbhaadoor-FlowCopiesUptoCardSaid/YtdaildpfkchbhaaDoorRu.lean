/- Walks: what instructions and ends read, where ends lead. No condition. -/
import Derived.Test.YtdaildpfkchbhaaDoorRt
namespace Go.Proofs.YtdaildpfkchbhaaDoor
open Go.RowKit
set_option linter.unusedVariables false
set_option maxHeartbeats 1000000
def flatA (l : List ArgD) : List Value := l.flatMap fun a => [.int .i64 a.reg, .int .i64 a.num]
theorem flatA_length (l : List ArgD) : (flatA l).length = l.length * 2 := by
  induction l with
  | nil => rfl
  | cons a l ih => simp only [flatA, List.flatMap_cons, List.length_append, List.length_cons, List.length_nil] at *; omega
theorem flatA_at : ∀ (l : List ArgD) (i : Nat) (a : ArgD), l[i]? = some a → (flatA l)[i * 2]? = some (.int .i64 a.reg) ∧ (flatA l)[i * 2 + 1]? = some (.int .i64 a.num)
  | [], i, a, h => by simp at h
  | b :: l, 0, a, h => by
    simp only [List.getElem?_cons_zero, Option.some.injEq] at h
    subst h
    exact ⟨rfl, rfl⟩
  | b :: l, i + 1, a, h => by
    have := flatA_at l i a (by simpa using h)
    simp only [flatA, List.flatMap_cons] at *
    rw [show (i + 1) * 2 = i * 2 + 2 by omega]
    exact ⟨by simpa using this.1, by simpa [Nat.add_assoc] using this.2⟩
def ArgsIn (l : List ArgD) : Prop := ∀ a ∈ l, In64 a.reg ∧ In64 a.num
theorem SlR.argsIn {w : World} {v : Value} {l : List ArgD} (h : SlR w 2 ArgR v l) : ArgsIn l := by
  intro a ha
  obtain ⟨A, cap, _, _, _, h4⟩ := h
  obtain ⟨i, hi⟩ := List.getElem?_of_mem ha
  obtain ⟨b, o, cs, _, _, _, e⟩ := h4 i a hi
  exact e.2
theorem own_slR {w : World} {base n : Nat} {e : TypeId} {v : Value} {l : List ArgD} (h : w.ownsRow base e 2 v n (flatA l)) (hn : n = l.length) (hin : ArgsIn l) : SlR w 2 ArgR v l := by
  subst hn
  rcases h.2 with ⟨rfl, h0⟩ | ⟨g, cap, cur, rfl, _, h2, h3, h4, h5, h6⟩
  · exact ⟨none, 0, by rw [h0], by omega, by decide, fun i x hi => by
      have := (List.getElem?_eq_some_iff.1 hi).1
      omega⟩
  · refine ⟨some ⟨g, 0, none⟩, cap, rfl, h3, h4, fun i x hi => ?_⟩
    have hlt := (List.getElem?_eq_some_iff.1 hi).1
    obtain ⟨a1, a2⟩ := flatA_at l i x hi
    refine ⟨g, 0, [.int .i64 x.reg, .int .i64 x.num], rfl, rfl, fun j hj => ?_, rfl, hin x (List.mem_of_getElem? hi)⟩
    match j, hj with
    | 0, _ => rw [Nat.add_zero, Nat.zero_add, h.cellAt _ (by omega), a1]; rfl
    | 1, _ => rw [Nat.zero_add, h.cellAt _ (by omega), a2]; rfl
theorem two_lit (w : World) (g : Nat) (a b : ArgD) (T : TypeId) (hg : g = w.heap.size) (ha : In64 a.reg ∧ In64 a.num) (hb : In64 b.reg ∧ In64 b.num) :
    SlR (w.alloc (.cells #[.int .i64 a.reg, .int .i64 a.num, .int .i64 b.reg, .int .i64 b.num] T)) 2 ArgR (.slice (some ⟨g, 0, none⟩) 2 2) [a, b] := by
  subst hg
  exact own_slR (World.ownsRow_lit (e := T) (size := 2) w #[.int .i64 a.reg, .int .i64 a.num, .int .i64 b.reg, .int .i64 b.num] 2 (Nat.le_refl _) (by decide) rfl) rfl (fun x hx => by
    rcases List.mem_cons.1 hx with rfl | hx
    · exact ha
    · rcases List.mem_cons.1 hx with rfl | hx
      · exact hb
      · cases hx)
theorem one_lit (w : World) (g : Nat) (a : ArgD) (T : TypeId) (hg : g = w.heap.size) (ha : In64 a.reg ∧ In64 a.num) :
    SlR (w.alloc (.cells #[.int .i64 a.reg, .int .i64 a.num] T)) 2 ArgR (.slice (some ⟨g, 0, none⟩) 1 1) [a] := by
  subst hg
  exact own_slR (World.ownsRow_lit (e := T) (size := 2) w #[.int .i64 a.reg, .int .i64 a.num] 1 (Nat.le_refl _) (by decide) rfl) rfl (fun x hx => by
    rcases List.mem_cons.1 hx with rfl | hx
    · exact ha
    · cases hx)
theorem nil_lit {α : Type} (w : World) (C : Nat) (R : List Value → α → Prop) : SlR w C R (.slice none 0 0) [] := ⟨none, 0, rfl, Nat.le_refl _, by decide, fun i x hi => by simp at hi⟩
/-- what an instruction reads -/
def readsD (x : InsD) : List ArgD :=
  if x.op = 28 then x.args else if x.op = 29 then x.a :: x.args else if (3 ≤ x.op ∧ x.op ≤ 21) ∨ x.op = 27 then [x.a, x.b] else if x.op = 23 ∨ x.op = 24 ∨ x.op = 25 then [] else [x.a]
def readsT (t : TermD) : List ArgD := if t.kind = 2 then [t.a, t.b] else if t.kind = 3 then [t.a] else []
def nextT (t : TermD) : List Int := if t.kind = 1 then [t.to_] else if t.kind = 2 then [t.to_, t.els] else []
/-- an instruction as a value -/
abbrev insV (x : InsD) (va : Value) : Value := .agg #[.int .i64 x.op, .int .i64 x.dst, .int .i64 x.a.reg, .int .i64 x.a.num, .int .i64 x.b.reg, .int .i64 x.b.num, .int .i64 x.size, .bool x.signed, .bool x.secret, .int .i64 x.ref, .int .i64 x.off, va]
abbrev termV (t : TermD) : Value := .agg #[.int .i64 t.kind, .int .i64 t.op, .int .i64 t.a.reg, .int .i64 t.a.num, .int .i64 t.b.reg, .int .i64 t.b.num, .int .i64 t.to_, .int .i64 t.els]
/-- a slice of arguments comes back -/
def Args (w : World) (l : List ArgD) (e : Ending) (w' : World) : Prop := ∃ v, e = .returned v ∧ SlR w' 2 ArgR v l ∧ Below w.heap.size w w'
theorem Tryd.infoArg : (Tryd.prog.info? 37).map (fun i => (i.zero, i.size, i.bytes)) = some (some (.agg #[.int .i64 0, .int .i64 0]), 2, 16) := by kernel_rfl
theorem SlR.news {w : World} {A : Option Addr} {n cap : Nat} {l : List ArgD} (h : SlR w 2 ArgR (.slice A n cap) l) (hl : 0 < l.length) :
    ∃ b o, A = some ⟨b, o, none⟩ ∧ ∀ j u, (flatA l)[j]? = some u → w.cell? ((⟨b, o, none⟩ : Addr).add j) = some u := by
  obtain ⟨A', cap', h1, _, _, h4⟩ := h
  simp only [Value.slice.injEq] at h1
  obtain ⟨rfl, rfl, rfl⟩ := h1
  obtain ⟨b, o, _, rfl, _⟩ := h4 0 _ (List.getElem?_eq_getElem hl)
  refine ⟨b, o, rfl, fun j u hj => ?_⟩
  have hlt : j < l.length * 2 := by rw [← flatA_length]; exact (List.getElem?_eq_some_iff.1 hj).1
  have hi : j / 2 < l.length := by omega
  obtain ⟨b', o', cs, e0, e1, e2, e3, _⟩ := h4 (j / 2) _ (List.getElem?_eq_getElem hi)
  simp only [Option.some.injEq, Addr.mk.injEq, and_true] at e0
  obtain ⟨rfl, rfl⟩ := e0
  subst e3
  obtain ⟨a1, a2⟩ := flatA_at l (j / 2) _ (List.getElem?_eq_getElem hi)
  rw [Addr.add_lit]
  rcases Nat.mod_two_eq_zero_or_one j with hm | hm
  · rw [show j / 2 * 2 = j by omega] at a1
    rw [a1] at hj
    have := e2 0 (by omega)
    rw [Nat.add_zero, show j / 2 * 2 = j by omega] at this
    rw [this]; simpa using hj
  · rw [show j / 2 * 2 + 1 = j by omega] at a2
    rw [a2] at hj
    have := e2 1 (by omega)
    rw [Nat.add_assoc, show j / 2 * 2 + 1 = j by omega] at this
    rw [this]; simpa using hj
/-- append to a row of the call's own -/
theorem append_args (w : World) (a : ArgD) (ha : In64 a.reg ∧ In64 a.num) (g : Nat) (hg : w.heap[g]? = some (.cells #[.int .i64 a.reg, .int .i64 a.num] 37 (0, 0))) (v : Value) (l : List ArgD) (h : SlR w 2 ArgR v l) (hl : l.length ≤ 1000000) :
    ∃ v' w', (Builtin.append_ #[43, 43] 43 #[.slice (some ⟨g, 0, none⟩) 1 1, v]).run Tryd.prog w = .ok v' w' ∧ SlR w' 2 ArgR v' (a :: l) ∧ w.grownBy w' (some g) := by
  obtain ⟨i0, hi, hz0, hz1, hz2⟩ := info_parts Tryd.infoArg
  have hown : w.ownsRow g 37 2 (.slice (some ⟨g, 0, none⟩) 1 1) 1 (flatA [a]) :=
    ⟨rfl, .inr ⟨g, 1, _, rfl, Nat.le_refl _, hg, Nat.le_refl _, by decide, rfl, rfl⟩⟩
  have hin : ArgsIn (a :: l) := fun x hx => by
    rcases List.mem_cons.1 hx with rfl | hx
    · exact ha
    · exact h.argsIn x hx
  by_cases h0 : l.length = 0
  · have : l = [] := List.length_eq_zero_iff.1 h0
    subst this
    obtain ⟨A, cap, rfl, _⟩ := h
    refine ⟨.slice (some ⟨g, 0, none⟩) 1 1, w, ?_, own_slR hown rfl hin, ⟨rfl, rfl, rfl, Nat.le_refl _, fun _ _ _ => rfl⟩⟩
    cases A with
    | none => simp [Builtin.append_, run_underlying Tryd.underlying43, sizeOf, typeInfo, hi, Builtin.lenOf, Builtin.firstCells, storeCells]
    | some ad => simp [Builtin.append_, run_underlying Tryd.underlying43, sizeOf, typeInfo, hi, Builtin.lenOf, Builtin.firstCells, storeCells, loadCells, loadCellsFrom]
  · obtain ⟨A, cap, rfl, h1, h2, _⟩ := id h
    obtain ⟨b, o, rfl, hnews⟩ := h.news (by omega)
    obtain ⟨v', w', hr, g1, g2, _⟩ := run_append_own (P := Tryd.prog) w g 43 43 37 i0 _ 2 16 Tryd.underlying43 hi hz0 hz1 hz2 rfl (by decide) _ 1 (flatA [a]) hown ⟨b, o, none⟩ l.length cap (flatA l) (flatA_length l) hnews
      (fun u hu => by
        obtain ⟨x, _, hx⟩ := List.mem_flatMap.1 hu
        rcases List.mem_cons.1 hx with rfl | hx
        · rfl
        · rcases List.mem_cons.1 hx with rfl | hx
          · rfl
          · cases hx) (by unfold maxLen; omega) (by omega) (Nat.le_of_lt (blk_lt hg))
    exact ⟨v', w', hr, own_slR (e := 37) (l := a :: l) g1 (by simp; omega) hin, g2⟩
end Go.Proofs.YtdaildpfkchbhaaDoor
