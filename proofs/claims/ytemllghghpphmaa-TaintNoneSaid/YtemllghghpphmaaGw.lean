/- Rows of whole structs that the call builds, element by element; each element reads as it should wherever what it rests on is as it was. No condition. -/
import Derived.Test.YtemllghghpphmaaOc
import Derived.Test.YtemllghghpphmaaRt
namespace Go.Proofs.Ytemllghghpphmaa
open Go.RowKit
set_option linter.unusedVariables false
/-- what lies below lo or from hi on is as it was, but the row's own block -/
def Apart (lo hi : Nat) (v : Value) (w w' : World) : Prop := ∀ b, (b < lo ∨ hi ≤ b) → b < w.heap.size → some b ≠ v.ownBlock → w'.heap[b]? = w.heap[b]?
def Foot (lo hi : Nat) (w w' : World) : Prop := ∀ b, (b < lo ∨ hi ≤ b) → b < w.heap.size → w'.heap[b]? = w.heap[b]?
theorem Foot.of_below {lo hi : Nat} {w w' : World} (h : Below w.heap.size w w') : Foot lo hi w w' := fun b _ hb => h.block b hb
theorem Foot.refl (lo hi : Nat) (w : World) : Foot lo hi w w := fun _ _ _ => rfl
theorem Foot.trans {lo hi : Nat} {a b c : World} (h : Foot lo hi a b) (k : Foot lo hi b c) (hs : a.heap.size ≤ b.heap.size) : Foot lo hi a c := fun x hx hl => (k x hx (by omega)).trans (h x hx hl)
theorem Foot.mono {lo hi lo' hi' : Nat} {a b : World} (h : Foot lo hi a b) (h1 : lo' ≤ lo) (h2 : hi ≤ hi') : Foot lo' hi' a b := fun x hx hl => h x (by omega) hl
theorem Foot.set {lo hi : Nat} {a b : World} (h : Foot lo hi a b) {p : Addr} (h1 : lo ≤ p.block) (h2 : p.block < hi) (v : Value) : Foot lo hi a (b.setCell p v) := fun x hx hl => by
  rw [← h x hx hl]
  exact Below.heap_setCell _ _ _ _ (by omega)
theorem Foot.cell {lo hi : Nat} {w w' : World} (h : Foot lo hi w w') {p : Addr} (hp : p.block < lo ∨ hi ≤ p.block) {v : Value} (hv : w.cell? p = some v) : w'.cell? p = some v :=
  (World.cell?_of_block (w := w) (h p.block hp (World.block_lt_of_cell? _ _ hv))).trans hv
/-- what came in below lo reads as it did -/
theorem SlR.foot {α : Type} {W0 w' : World} {C : Nat} {R : List Value → α → Prop} {v : Value} {xs : List α} (h : SlR W0 C R v xs) (hC : 0 < C) (hf : ∀ b, b < W0.heap.size → w'.heap[b]? = W0.heap[b]?) : SlR w' C R v xs := by
  obtain ⟨A, cap, rfl, h1, h2, h3⟩ := h
  refine ⟨A, cap, rfl, h1, h2, fun i x hi => ?_⟩
  obtain ⟨b, o, cs, rfl, k1, k2, k3⟩ := h3 i x hi
  refine ⟨b, o, cs, rfl, k1, fun j hj => ?_, k3⟩
  rw [← k2 j hj]
  have hlt : b < W0.heap.size := by
    have e := k2 j hj
    rw [List.getElem?_eq_getElem (by omega)] at e
    exact World.block_lt_of_cell? _ _ e
  exact World.cell?_of_block (w := W0) (hf b hlt)
structure Grow {α : Type} (lo B C : Nat) (T : TypeId) (R : World → List Value → α → Prop) (w : World) (v : Value) (xs : List α) (css : List (List Value)) : Prop where
  len : css.length = xs.length
  each : ∀ cs ∈ css, cs.length = C
  row : w.ownsRow B T C v xs.length css.flatten
  el : ∀ w', Apart lo B v w w' → ∀ (i : Nat) (cs : List Value) (x : α), css[i]? = some cs → xs[i]? = some x → R w' cs x
section
variable {α : Type} {lo B C : Nat} {T : TypeId} {R : World → List Value → α → Prop} {w w1 : World} {v : Value} {xs : List α} {css : List (List Value)}
theorem Grow.nil (lo B C : Nat) (T : TypeId) (R : World → List Value → α → Prop) (w : World) : Grow lo B C T R w (.slice none 0 0) [] [] :=
  ⟨rfl, (fun cs h => by cases h), World.ownsRow_nil _ _ _ _, fun w' _ i cs x h => by simp at h⟩
theorem own_foot {base size n : Nat} {T : TypeId} {v : Value} {xs : List Value} (h : w.ownsRow base T size v n xs) (hf : ∀ b, base ≤ b → b < w.heap.size → w1.heap[b]? = w.heap[b]?) : w1.ownsRow base T size v n xs := by
  refine ⟨h.1, ?_⟩
  rcases h.2 with h1 | ⟨g, cap, cur, h1, h2, h3, h4⟩
  · exact Or.inl h1
  · exact Or.inr ⟨g, cap, cur, h1, h2, (hf g h2 (blk_lt h3)).trans h3, h4⟩
theorem Grow.kept (h : Grow lo B C T R w v xs css) (hf : Foot lo B w w1) (hs : w.heap.size ≤ w1.heap.size) : Grow lo B C T R w1 v xs css :=
  ⟨h.len, h.each, own_foot h.row (fun b hb hl => hf b (Or.inr hb) hl), fun w' ha => h.el w' (fun b hb hl hn => (ha b hb (by omega) hn).trans (hf b hb hl))⟩
theorem Grow.later (h : Grow lo B C T R w v xs css) (hb : Below w.heap.size w w1) : Grow lo B C T R w1 v xs css := h.kept (Foot.of_below hb) hb.size
theorem Grow.alloc (h : Grow lo B C T R w v xs css) (o : Obj) : Grow lo B C T R (w.alloc o) v xs css := h.later (below_alloc o (Below.refl _ _))
theorem Grow.setCell (h : Grow lo B C T R w v xs css) {p : Addr} (h1 : lo ≤ p.block) (h2 : p.block < B) (u : Value) : Grow lo B C T R (w.setCell p u) v xs css := h.kept ((Foot.refl _ _ _).set h1 h2 u) (by simp)
theorem Grow.lt (h : Grow lo B C T R w v xs css) : ∀ k, v.ownBlock = some k → B ≤ k ∧ k < w.heap.size := fun k hk => h.row.lt k hk
theorem Grow.slice (h : Grow lo B C T R w v xs css) : ∃ A cap, v = .slice A xs.length cap ∧ xs.length ≤ maxLen := own_slice h.row
theorem flatten_at (C : Nat) : ∀ (css : List (List Value)) (i j : Nat) (cs : List Value), (∀ cs ∈ css, cs.length = C) → css[i]? = some cs → j < C → css.flatten[i * C + j]? = cs[j]?
  | [], i, j, cs, _, h, _ => by simp at h
  | c :: css, 0, j, cs, hl, h, hj => by
    obtain rfl : c = cs := by simpa using h
    have := hl c List.mem_cons_self
    rw [List.flatten_cons, Nat.zero_mul, Nat.zero_add, List.getElem?_append_left (by omega)]
  | c :: css, i + 1, j, cs, hl, h, hj => by
    have h0 := hl c List.mem_cons_self
    rw [List.flatten_cons, List.getElem?_append_right (by rw [Nat.add_mul, Nat.one_mul]; omega), show (i + 1) * C + j - c.length = i * C + j by rw [Nat.add_mul, Nat.one_mul]; omega]
    exact flatten_at C css i j cs (fun x hx => hl x (List.mem_cons_of_mem _ hx)) (by simpa using h) hj
theorem Grow.slR (h : Grow lo B C T R w v xs css) (w' : World) (hf : Foot lo B w w') : SlR w' C (R w') v xs := by
  have hr := h.row
  have hlen := h.len
  have hel := h.el w' (fun b hb hl _ => hf b hb hl)
  rcases hr.2 with ⟨rfl, e⟩ | ⟨g, cap, cur, rfl, h1, h2, h3, h4, _⟩
  · exact ⟨none, 0, by rw [e], by omega, by decide, fun i x hi => by have := (List.getElem?_eq_some_iff.1 hi).1; omega⟩
  · refine ⟨_, cap, rfl, h3, h4, fun i x hi => ?_⟩
    have hlt : i < xs.length := (List.getElem?_eq_some_iff.1 hi).1
    obtain ⟨cs, hcs⟩ : ∃ cs, css[i]? = some cs := ⟨_, List.getElem?_eq_getElem (by omega)⟩
    refine ⟨g, 0, cs, rfl, h.each cs (List.mem_of_getElem? hcs), fun j hj => ?_, hel i cs x hcs hi⟩
    have hk : i * C + j < xs.length * C := by
      have : (i + 1) * C ≤ xs.length * C := Nat.mul_le_mul_right C (by omega)
      rw [Nat.add_mul, Nat.one_mul] at this
      omega
    rw [Nat.zero_add]
    have e : w'.cell? ⟨g, i * C + j, none⟩ = w.cell? ⟨g, i * C + j, none⟩ := World.cell?_of_block (w := w) (a := ⟨g, i * C + j, none⟩) (hf g (Or.inr h1) (blk_lt h2))
    rw [e, World.ownsRow.cellAt hr (i * C + j) hk]
    exact flatten_at C css i j cs h.each hcs hj
/-- one element more, that was made from hi on -/
theorem Grow.add {P : Program} (t : TypeId) (i : TypeInfo) (z : Value) (bytes : Nat) (ht : P.underlying t = some (.slice T)) (hi : P.info? T = some i) (hz : i.zero = some z)
    (hsize : i.size = C) (hby : i.bytes = bytes) (hzs : z.cells.size = C) (hC : 0 < C) (h : Grow lo B C T R w v xs css) (hi0 : Nat) (hB : B ≤ hi0) (hlo : lo ≤ B) (hv : ∀ k, v.ownBlock = some k → k < hi0) (cs : Array Value) (hcs : cs.size = C) (x : α)
    (hx : ∀ w', Foot lo hi0 w w' → R w' cs.toList x) (h1 : ∀ u ∈ cs.toList, u.oneCell' = true) (g : Nat) (hg : g = w.heap.size) (hsz : hi0 ≤ w.heap.size)
    (h63 : xs.length + 1 ≤ maxLen) (hbytes : (xs.length + 1) * bytes ≤ 140737488355328) :
    ∃ v' w', (Builtin.append_ #[t, t] t #[v, .slice (some ⟨g, 0, none⟩) 1 1]).run P (w.alloc (.cells cs T)) = .ok v' w' ∧ Grow lo B C T R w' v' (xs ++ [x]) (css ++ [cs.toList]) ∧ w.grownBy w' v.ownBlock ∧ Moved w v v' := by
  obtain ⟨v', w', r1, r2, r3, r4⟩ := append_oneC (P := P) (w := w) B t T i z C bytes ht hi hz hsize hby hzs hC v xs.length css.flatten h.row cs hcs g hg h1 h63 hbytes (by omega)
  refine ⟨v', w', r1, ⟨by simp [h.len], fun c hc => ?_, by simpa using r2, fun w'' ha => ?_⟩, r3, r4⟩
  · rcases List.mem_append.1 hc with hc | hc
    · exact h.each c hc
    · rw [List.mem_singleton.1 hc]; simpa using hcs
  · have hrow := h.row
    have old : ∀ b, (b < lo ∨ B ≤ b) → b < w.heap.size → some b ≠ v.ownBlock → w''.heap[b]? = w.heap[b]? := fun b hb hl hn => by
      have hs := r3.size
      refine (ha b hb (by omega) (fun e => ?_)).trans (r3.block b hl hn)
      rcases r4 b e.symm with k | k
      · exact hn k.symm
      · omega
    have e1 := h.el w'' old
    have hf : Foot lo hi0 w w'' := fun b hb hl => old b (by omega) hl (fun e => by have := hv b e.symm; have := (hrow.lt b e.symm).1; omega)
    intro j c y hj hy
    by_cases hlt : j < css.length
    · rw [List.getElem?_append_left hlt] at hj
      rw [List.getElem?_append_left (by rw [← h.len]; exact hlt)] at hy
      exact e1 j c y hj hy
    · have hj1 : j = css.length := by
        have := (List.getElem?_eq_some_iff.1 hj).1
        simp at this; omega
      subst hj1
      rw [List.getElem?_append_right (Nat.le_refl _), Nat.sub_self] at hj
      rw [h.len, List.getElem?_append_right (Nat.le_refl _), Nat.sub_self] at hy
      simp only [List.getElem?_cons_zero, Option.some.injEq] at hj hy
      subst hj hy
      exact hx w'' hf
end
end Go.Proofs.Ytemllghghpphmaa
