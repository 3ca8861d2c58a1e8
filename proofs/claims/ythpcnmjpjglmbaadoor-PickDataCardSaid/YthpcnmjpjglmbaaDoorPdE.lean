/- pick.Data: the data's items. No condition. -/
import Derived.Test.YthpcnmjpjglmbaaDoorPdD
import Derived.Test.YthpcnmjpjglmbaaDoorOc
import Derived.Test.YthpcnmjpjglmbaaDoorRz
namespace Go.Proofs.YthpcnmjpjglmbaaDoor
open Go.RowKit
set_option linter.unusedVariables false
set_option maxHeartbeats 4000000
set_option maxRecDepth 100000
/-- rows of cells that read as these -/
def El {α : Type} (C : Nat) (R : List Value → α → Prop) (l : List α) (css : List (List Value)) : Prop := css.length = l.length ∧ (∀ cs ∈ css, cs.length = C) ∧ ∀ (i : Nat) cs x, css[i]? = some cs → l[i]? = some x → R cs x
theorem El.nil {α : Type} (C : Nat) (R : List Value → α → Prop) : El C R [] [] := ⟨rfl, (fun cs h => by cases h), fun i cs x h => by simp at h⟩
theorem El.snoc {α : Type} {C : Nat} {R : List Value → α → Prop} {l : List α} {css : List (List Value)} (h : El C R l css) (cs : List Value) (x : α) (hc : cs.length = C) (hr : R cs x) : El C R (l ++ [x]) (css ++ [cs]) := by
  obtain ⟨h1, h2, h3⟩ := h
  refine ⟨by simp [h1], fun c hm => ?_, fun i c y hi hy => ?_⟩
  · rcases List.mem_append.1 hm with hm | hm
    · exact h2 c hm
    · rw [List.mem_singleton.1 hm]; exact hc
  · by_cases hlt : i < css.length
    · rw [List.getElem?_append_left hlt] at hi
      rw [List.getElem?_append_left (by omega)] at hy
      exact h3 i c y hi hy
    · have e : i = css.length := by have := (List.getElem?_eq_some_iff.1 hi).1; simp at this; omega
      subst e
      rw [List.getElem?_append_right (Nat.le_refl _), Nat.sub_self] at hi
      rw [h1, List.getElem?_append_right (Nat.le_refl _), Nat.sub_self] at hy
      simp only [List.getElem?_cons_zero, Option.some.injEq] at hi hy
      subst hi hy
      exact hr
def DatR (cs : List Value) (d : DatD) : Prop := ∃ A c, cs = [.int .i64 d.kind, .string d.name, .slice A d.len c, .int .i64 d.n]
structure RowD (B : Nat) (w : World) (v : Value) (ds : List DatD) (css : List (List Value)) : Prop where
  own : w.ownsRow B 36 4 v ds.length css.flatten
  el : El 4 DatR ds css
  nn : ∀ d ∈ ds, NnD d
theorem RowD.later {B : Nat} {w w' : World} {v : Value} {ds : List DatD} {css : List (List Value)} (h : RowD B w v ds css) (hb : Below w.heap.size w w') : RowD B w' v ds css := ⟨own_below h.own hb, h.el, h.nn⟩
def KeptD (w w' : World) : Prop := ∀ (b : Nat) (cs : Array Value) (T : TypeId) (fr : Nat × Nat), w.heap[b]? = some (Obj.cells cs T fr) → T ≠ 36 → w'.heap[b]? = some (Obj.cells cs T fr)
theorem RowD.push {B : Nat} {w : World} {v : Value} {ds : List DatD} {css : List (List Value)} (h : RowD B w v ds css) (hB : B ≤ w.heap.size) (d : DatD) (A : Option Addr) (c : Nat) (hn : NnD d) (hl : ds.length ≤ 1000000) :
    ∃ v' w' cs, (Builtin.append_ #[31, 31] 31 #[v, .slice (some ⟨w.heap.size, 0, none⟩) 1 1]).run Tryd.prog (w.alloc (.cells #[.int .i64 d.kind, .string d.name, .slice A d.len c, .int .i64 d.n] 36)) = .ok v' w' ∧ (∃ A' n' c', v' = .slice A' n' c') ∧ RowD B w' v' (ds ++ [d]) (css ++ [cs]) ∧ Below B w w' ∧ KeptD w w' := by
  obtain ⟨i0, z0, q1, q2, q3, q4, q5⟩ := info_partsC (C := 4) (B := 56) (show (Tryd.prog.info? 36).map (fun i => (i.zero.map (·.cells.size), i.size, i.bytes)) = some (some 4, 4, 56) by kernel_rfl)
  obtain ⟨v', w', r1, r2, r3, r4⟩ := append_oneC (P := Tryd.prog) B 31 36 i0 z0 4 56 Tryd.underlying31 q1 q2 q4 q5 q3 (by decide) v ds.length css.flatten h.own #[.int .i64 d.kind, .string d.name, .slice A d.len c, .int .i64 d.n] rfl w.heap.size rfl (fun u hu => by
    simp only [List.mem_cons, List.not_mem_nil, or_false] at hu
    rcases hu with e | e | e | e <;> subst e <;> rfl) (by unfold maxLen; omega) (by omega) hB
  obtain ⟨A9, c9, e9, _⟩ := own_slice r2
  have hg : ∀ k, v.ownBlock = some k → ∃ cs, w.heap[k]? = some (.cells cs 36 (0, 0)) ∧ B ≤ k := fun k hk => by
    rcases h.own.2 with ⟨rfl, e⟩ | ⟨g', cap, cur, rfl, k1, k2, _⟩
    · simp [Value.ownBlock] at hk
    · simp only [Value.ownBlock, Option.some.injEq] at hk
      subst hk
      exact ⟨_, k2, k1⟩
  refine ⟨v', w', [.int .i64 d.kind, .string d.name, .slice A d.len c, .int .i64 d.n], r1, ⟨A9, _, c9, e9⟩, ⟨by simpa using r2, h.el.snoc _ d rfl ⟨A, c, rfl⟩, fun x hx => ?_⟩, below_of_grown (Below.refl _ _) hB r3 (fun k hk => let ⟨_, _, h⟩ := hg k hk; h), fun b cs T fr hb hT => ?_⟩
  · rcases List.mem_append.1 hx with hx | hx
    · exact h.nn x hx
    · rw [List.mem_singleton.1 hx]; exact hn
  · refine (r3.block b (blk_lt hb) (fun e => ?_)).trans hb
    obtain ⟨cs', k1, _⟩ := hg b e.symm
    rw [hb] at k1
    simp only [Option.some.injEq, Obj.cells.injEq] at k1
    exact hT k1.2.1
end Go.Proofs.YthpcnmjpjglmbaaDoor
