/- Rows copied into new memory: append(nil, v...). No condition. -/
import Derived.Test.YtdaildpfkchbhaaDoorPdP
import Derived.Test.YtdaildpfkchbhaaDoorStruct
import Derived.ArgAppend
import Derived.Laws.OwnMore
import Derived.OwnWalk
import Derived.OneCell
namespace Go.Proofs.YtdaildpfkchbhaaDoor
open Go.RowKit
set_option linter.unusedVariables false
set_option maxHeartbeats 2000000
theorem flatten_at (C : Nat) : ∀ (css : List (List Value)) (i j : Nat) (cs : List Value), (∀ cs ∈ css, cs.length = C) → css[i]? = some cs → j < C → css.flatten[i * C + j]? = cs[j]?
  | [], i, j, cs, _, h, _ => by simp at h
  | c :: css, 0, j, cs, hl, h, hj => by
    obtain rfl : c = cs := by simpa using h
    have := hl c List.mem_cons_self
    rw [List.flatten_cons, Nat.zero_mul, Nat.zero_add, List.getElem?_append_left (by omega)]
  | c :: css, i + 1, j, cs, hl, h, hj => by
    have h0 := hl c List.mem_cons_self
    rw [List.flatten_cons, List.getElem?_append_right (by rw [Nat.add_mul, Nat.one_mul]; omega), show (i + 1) * C + j - c.length = i * C + j by rw [Nat.add_mul, Nat.one_mul]; omega]
    exact flatten_at C css i j cs (fun x hx => hl x (List.mem_cons_of_mem _ hx)) (by simpa using h) hj
theorem flatten_len (C : Nat) : ∀ (css : List (List Value)), (∀ cs ∈ css, cs.length = C) → css.flatten.length = css.length * C
  | [], _ => by simp
  | c :: css, h => by
    rw [List.flatten_cons, List.length_append, h c List.mem_cons_self, flatten_len C css (fun x hx => h x (List.mem_cons_of_mem _ hx)), List.length_cons, Nat.add_mul, Nat.one_mul, Nat.add_comm]
/-- what a slice that reads has for cells -/
theorem SlR.css {α : Type} {w : World} {C : Nat} {R : List Value → α → Prop} {v : Value} {xs : List α} (h : SlR w C R v xs) (hC : 0 < C) :
    ∃ css : List (List Value), css.length = xs.length ∧ (∀ cs ∈ css, cs.length = C) ∧ (∀ (i : Nat) cs x, css[i]? = some cs → xs[i]? = some x → R cs x) ∧
      ∃ A cap, v = .slice A xs.length cap ∧ (0 < xs.length → ∃ b o, A = some ⟨b, o, none⟩ ∧ ∀ j u, css.flatten[j]? = some u → w.cell? ⟨b, o + j, none⟩ = some u) := by
  obtain ⟨A, cap, rfl, h1, h2, h3⟩ := h
  obtain ⟨css, k1, k2⟩ := choose_list (p := fun i cs => ∃ x b o, xs[i]? = some x ∧ A = some ⟨b, o, none⟩ ∧ cs.length = C ∧ (∀ j, j < C → w.cell? ⟨b, o + i * C + j, none⟩ = cs[j]?) ∧ R cs x) xs.length (fun i hi => by
    obtain ⟨b, o, cs, e1, e2, e3, e4⟩ := h3 i xs[i] (List.getElem?_eq_getElem hi)
    exact ⟨cs, _, b, o, List.getElem?_eq_getElem hi, e1, e2, e3, e4⟩)
  have hlen : ∀ cs ∈ css, cs.length = C := fun cs hcs => by
    obtain ⟨i, hi⟩ := List.mem_iff_getElem?.1 hcs
    obtain ⟨x, b, o, _, _, e, _⟩ := k2 i cs hi
    exact e
  refine ⟨css, k1, hlen, fun i cs x hi hx => ?_, A, cap, rfl, fun h0 => ?_⟩
  · obtain ⟨y, b, o, e1, _, _, _, e5⟩ := k2 i cs hi
    rw [hx] at e1
    rw [Option.some.inj e1]; exact e5
  · obtain ⟨cs0, hcs0⟩ : ∃ cs, css[0]? = some cs := ⟨_, List.getElem?_eq_getElem (by omega)⟩
    obtain ⟨y, b, o, _, e2, _⟩ := k2 0 cs0 hcs0
    refine ⟨b, o, e2, fun j u hj => ?_⟩
    have hjl : j < css.length * C := by
      have := (List.getElem?_eq_some_iff.1 hj).1
      rwa [flatten_len C css hlen] at this
    have hdiv : j / C < css.length := by rw [Nat.div_lt_iff_lt_mul hC]; exact hjl
    obtain ⟨cs, hcs⟩ : ∃ cs, css[j / C]? = some cs := ⟨_, List.getElem?_eq_getElem hdiv⟩
    obtain ⟨x, b', o', _, e3, e4, e5, _⟩ := k2 _ cs hcs
    rw [e2] at e3
    obtain ⟨rfl, rfl⟩ : b = b' ∧ o = o' := by simpa using e3
    have hmod : j % C < C := Nat.mod_lt _ hC
    have hj2 : j / C * C + j % C = j := by rw [Nat.mul_comm]; exact Nat.div_add_mod j C
    have e6 := flatten_at C css (j / C) (j % C) cs hlen hcs hmod
    rw [hj2, hj] at e6
    have e7 := e5 _ hmod
    rw [← e6, show o + j / C * C + j % C = o + j by omega] at e7
    exact e7
/-- a row copied into new memory: 'append(nil, v...)' -/
theorem copy_row {P : Program} {α : Type} {w : World} {C : Nat} {R : List Value → α → Prop} {v : Value} {xs : List α} (t T : TypeId) (i : TypeInfo) (z : Value) (bytes : Nat) (ht : P.underlying t = some (.slice T)) (hi : P.info? T = some i) (hz : i.zero = some z)
    (hsize : i.size = C) (hby : i.bytes = bytes) (hzs : z.cells.size = C) (hC : 0 < C) (h : SlR w C R v xs) (h1 : ∀ cs x, R cs x → ∀ u ∈ cs, u.oneCell' = true) (h63 : xs.length ≤ maxLen) (hbytes : xs.length * bytes ≤ 140737488355328) :
    ∃ (v' : Value) (w' : World) (css : List (List Value)), (Builtin.append_ #[t, t] t #[.slice none 0 0, v]).run P w = .ok v' w' ∧ w'.ownsRow w.heap.size T C v' xs.length css.flatten ∧ css.length = xs.length ∧ (∀ cs ∈ css, cs.length = C) ∧
      (∀ (i : Nat) cs x, css[i]? = some cs → xs[i]? = some x → R cs x) ∧ Below w.heap.size w w' := by
  obtain ⟨css, k1, k2, k3, A, cap, rfl, k4⟩ := h.css hC
  by_cases h0 : xs.length = 0
  · have hn : css = [] := by apply List.length_eq_zero_iff.1; omega
    subst hn
    refine ⟨.slice none 0 0, w, [], ?_, by rw [h0]; exact World.ownsRow_nil _ _ _ _, by simp [h0], (fun _ h => by cases h), (fun i cs x h => by simp at h), Below.refl _ _⟩
    rw [h0]
    cases A with
    | none => exact run_append_owned_none (P := P) w 0 t t T i C ht hi _ 0 [] (World.ownsRow_nil _ _ _ _)
    | some a => simp [Builtin.append_, run_underlying ht, sizeOf, typeInfo, hi, Builtin.lenOf, Builtin.firstCells, loadCells, loadCellsFrom]
  · obtain ⟨b, o, rfl, k5⟩ := k4 (by omega)
    obtain ⟨v', w', hr, g1, g2, g3⟩ := run_append_own (P := P) (w := w) w.heap.size t t T i z C bytes ht hi hz hsize hby hzs hC _ 0 [] (World.ownsRow_nil _ _ _ _) ⟨b, o, none⟩ xs.length cap css.flatten (by rw [flatten_len C css k2, k1])
      (fun j u hu => by rw [Addr.add_lit]; exact k5 j u hu) (fun u hu => by
        obtain ⟨cs, hcs, hu2⟩ := List.mem_flatten.1 hu
        obtain ⟨i, hi⟩ := List.mem_iff_getElem?.1 hcs
        have hil := (List.getElem?_eq_some_iff.1 hi).1
        exact h1 cs xs[i] (k3 i cs _ hi (List.getElem?_eq_getElem (by omega))) u hu2) (by omega) (by rw [Nat.zero_add]; exact hbytes) (Nat.le_refl _)
    rw [Nat.zero_add, List.nil_append] at g1
    exact ⟨v', w', css, hr, g1, k1, k2, k3, ⟨g2.os, g2.tape, g2.output, g2.size, fun k hk => g2.block k hk (by simp [Value.ownBlock])⟩⟩
theorem info_partsC {P : Program} {T : TypeId} {C B : Nat} (h : (P.info? T).map (fun i => (i.zero.map (·.cells.size), i.size, i.bytes)) = some (some C, C, B)) : ∃ i z, P.info? T = some i ∧ i.zero = some z ∧ z.cells.size = C ∧ i.size = C ∧ i.bytes = B := by
  cases hi : P.info? T with
  | none => rw [hi] at h; cases h
  | some i =>
    rw [hi] at h
    simp only [Option.map_some, Option.some.injEq, Prod.mk.injEq] at h
    obtain ⟨h1, h2, h3⟩ := h
    cases hz : i.zero with
    | none => rw [hz] at h1; cases h1
    | some z => rw [hz] at h1; exact ⟨i, z, rfl, hz, by simpa using h1, h2, h3⟩
theorem wpList_append_run {P : Program} (w : World) {ops : Array Oper} {rest : List Oper} {o : Oper} {a : Act} {Q : Exit → Act → World → Prop} (hgd : o.guard = none) (s x : Operand) (t : TypeId)
    (ho : o.op = .call { callee := .builtin .append, args := #[s, x], argTypes := #[t, t] }) (v u v' : Value) (w' : World) (hs : a.eval s = v) (hx : a.eval x = u)
    (hr : (Builtin.append_ #[t, t] o.type #[v, u]).run P w = .ok v' w') (h : wpList P ops Q rest (a.put o.dst v') w') : wpList P ops Q (o :: rest) a w :=
  wpList_plain hgd fun _ hK => by
    unfold Oper.wp execOp
    simp only [ho, resolve, invoke, builtin, Sem.run_bind, Sem.run_pure, Result.andThen_ok, List.map_toArray, List.map_cons, List.map_nil, hs, hx, hr]
    exact hK _ _ h
theorem row_slR {α : Type} {w w' : World} {B C : Nat} {T : TypeId} {v : Value} {css : List (List Value)} {R : List Value → α → Prop} {xs : List α} (h : w.ownsRow B T C v xs.length css.flatten) (hl : css.length = xs.length) (he : ∀ cs ∈ css, cs.length = C) (hR : ∀ (i : Nat) cs x, css[i]? = some cs → xs[i]? = some x → R cs x)
    (hw : ∀ b, v.ownBlock = some b → w'.heap[b]? = w.heap[b]?) : SlR w' C R v xs := by
  rcases h.2 with ⟨rfl, e⟩ | ⟨g, cap, cur, rfl, h1, h2, h3, h4, _⟩
  · exact ⟨none, 0, by rw [e], by omega, by decide, fun i x hi => by have := (List.getElem?_eq_some_iff.1 hi).1; omega⟩
  · refine ⟨_, cap, rfl, h3, h4, fun i x hi => ?_⟩
    have hlt : i < xs.length := (List.getElem?_eq_some_iff.1 hi).1
    obtain ⟨cs, hcs⟩ : ∃ cs, css[i]? = some cs := ⟨_, List.getElem?_eq_getElem (by omega)⟩
    refine ⟨g, 0, cs, rfl, he cs (List.mem_of_getElem? hcs), fun j hj => ?_, hR i cs x hcs hi⟩
    have hk : i * C + j < xs.length * C := by
      have : (i + 1) * C ≤ xs.length * C := Nat.mul_le_mul_right C (by omega)
      rw [Nat.add_mul, Nat.one_mul] at this
      omega
    rw [Nat.zero_add]
    have e : w'.cell? ⟨g, i * C + j, none⟩ = w.cell? ⟨g, i * C + j, none⟩ := World.cell?_of_block (w := w) (a := ⟨g, i * C + j, none⟩) (hw g rfl)
    rw [e, World.ownsRow.cellAt h (i * C + j) hk]
    exact flatten_at C css i j cs he hcs hj
end Go.Proofs.YtdaildpfkchbhaaDoor
