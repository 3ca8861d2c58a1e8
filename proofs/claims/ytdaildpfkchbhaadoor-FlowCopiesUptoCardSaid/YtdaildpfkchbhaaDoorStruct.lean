/- Laws over any program: whole structs stored into a new variable, loaded out of a block or out of its middle. No condition. -/
import Derived.Test.YtdaildpfkchbhaaDoorLib
import Derived.Deep.MidRow
namespace Go.Proofs.YtdaildpfkchbhaaDoor
open Go.RowKit
set_option linter.unusedVariables false
theorem blk_new' {w : World} {o : Obj} {n : Nat} (hn : n = w.heap.size) : (w.alloc o).heap[n]? = some o := by subst hn; exact blk_new w o
theorem below_drewN {B : Nat} {w x : World} (h : Below B w x) (n : Nat) : Below B w (x.drewN n) := ⟨h.os, h.tape, h.output, h.size, h.block⟩
theorem setCells_block (b : Nat) : ∀ (vs pre post : List Value) (w : World) (T : TypeId) (fr : Nat × Nat), w.heap[b]? = some (.cells (pre ++ post).toArray T fr) → vs.length = post.length →
    w.setCells b pre.length vs = { w with heap := w.heap.setIfInBounds b (.cells (pre ++ vs).toArray T fr) }
  | [], pre, post, w, T, fr, h, hl => by
    have : post = [] := by cases post with | nil => rfl | cons _ _ => simp at hl
    subst this
    have hb := blk_lt h
    unfold World.setCells
    have e : w.heap.setIfInBounds b (.cells (pre ++ []).toArray T fr) = w.heap := by
      apply Array.ext_getElem?
      intro i
      by_cases hi : i = b
      · subst hi; rw [Array.getElem?_setIfInBounds_self_of_lt hb, h]
      · rw [Array.getElem?_setIfInBounds_ne (fun e => hi e.symm)]
    rw [e]
  | v :: vs, pre, [], w, T, fr, h, hl => by simp at hl
  | v :: vs, pre, p :: post, w, T, fr, h, hl => by
    have hb := blk_lt h
    unfold World.setCells
    have h1 : (w.setCell ⟨b, pre.length, none⟩ v).heap[b]? = some (.cells ((pre ++ [v]) ++ post).toArray T fr) := by
      rw [blk_setCell h v]
      congr 2
      apply Array.ext_getElem?
      intro i
      simp only [List.append_assoc, List.cons_append, List.nil_append, Array.getElem?_setIfInBounds, List.size_toArray, List.getElem?_toArray]
      by_cases hi : pre.length = i
      · subst hi; simp
      · rw [if_neg hi]
        rcases Nat.lt_or_ge i pre.length with hlt | hge
        · rw [List.getElem?_append_left hlt, List.getElem?_append_left hlt]
        · obtain ⟨k, hk⟩ : ∃ k, i = pre.length + 1 + k := ⟨i - pre.length - 1, by omega⟩
          subst hk
          rw [List.getElem?_append_right (by omega), List.getElem?_append_right (by omega)]
          have : pre.length + 1 + k - pre.length = k + 1 := by omega
          rw [this]; rfl
    have ih := setCells_block b vs (pre ++ [v]) post (w.setCell ⟨b, pre.length, none⟩ v) T fr h1 (by simpa using hl)
    rw [List.length_append, List.length_singleton] at ih
    rw [ih]
    simp only [World.setCell, List.append_assoc, List.cons_append, List.nil_append]
    congr 1
    apply Array.ext_getElem?
    intro i
    by_cases hi : i = b
    · subst hi
      rw [Array.getElem?_setIfInBounds_self_of_lt (by simpa using hb), Array.getElem?_setIfInBounds_self_of_lt hb]
    · rw [Array.getElem?_setIfInBounds_ne (fun e => hi e.symm), Array.getElem?_setIfInBounds_ne (fun e => hi e.symm), Array.getElem?_modify]
      rw [if_neg (fun e => hi e.symm)]
theorem setCells_new (w : World) (zs cs : Array Value) (T : TypeId) (hsz : zs.size = cs.size) :
    (w.alloc (.cells zs T)).setCells w.heap.size 0 cs.toList = w.alloc (.cells cs T) := by
  have := setCells_block w.heap.size cs.toList [] zs.toList (w.alloc (.cells zs T)) T (0, 0) (by simpa using blk_new w (.cells zs T)) (by simpa using hsz.symm)
  simp only [List.length_nil, List.nil_append] at this
  rw [this]
  simp only [World.alloc]
  congr 1
  apply Array.ext_getElem?
  intro i
  by_cases hi : i = w.heap.size
  · subst hi
    rw [Array.getElem?_setIfInBounds_self_of_lt (by simp)]
    simp
  · rw [Array.getElem?_setIfInBounds_ne (fun e => hi e.symm)]
    rcases Nat.lt_or_ge i w.heap.size with h | h
    · rw [Array.getElem?_push_lt h, Array.getElem?_push_lt h]
    · rw [Array.getElem?_eq_none (by simp; omega), Array.getElem?_eq_none (by simp; omega)]
/-- a whole struct stored into a variable that has just been made -/
theorem wpList_store_new {P : Program} {ops : Array Oper} {rest : List Oper} {op : Oper} {a : Act} {w : World} {Q : Exit → Act → World → Prop} {zs cs : Array Value} {T : TypeId} (hgd : op.guard = none) (ty : TypeId) (x y : Operand) (ho : op.op = .store ty x y)
    (hx : a.eval x = .pointer (some ⟨w.heap.size, 0, none⟩)) (hy : a.eval y = .agg cs) (hsz : zs.size = cs.size) (hi : (P.info? ty).map (·.size) = some cs.size) (h1 : cs.all (·.oneCell') = true)
    (h : wpList P ops Q rest (a.put op.dst undef) (w.alloc (.cells cs T))) : wpList P ops Q (op :: rest) a (w.alloc (.cells zs T)) :=
  wpList_store_mid hgd ty x y ho w.heap.size 0 cs hx hy (fun j hj => by
    have hb := blk_new w (.cells zs T)
    have hj' : j < zs.size := by omega
    rw [Nat.zero_add]
    exact ⟨by rw [blk_cell hb (Array.getElem?_eq_getElem hj')]; rfl, blk_free hb⟩) hi h1 (by rw [setCells_new w zs cs T hsz]; exact h)
/-- a whole struct stored into a block that is known -/
theorem wpList_store_blk {P : Program} {ops : Array Oper} {rest : List Oper} {op : Oper} {a : Act} {w : World} {Q : Exit → Act → World → Prop} {zs cs : Array Value} {T : TypeId} (hgd : op.guard = none) (ty : TypeId) (x y : Operand) (ho : op.op = .store ty x y)
    (g : Nat) (hx : a.eval x = .pointer (some ⟨g, 0, none⟩)) (hy : a.eval y = .agg cs) (hg : w.heap[g]? = some (.cells zs T (0, 0))) (hsz : zs.size = cs.size) (hi : (P.info? ty).map (·.size) = some cs.size) (h1 : cs.all (·.oneCell') = true)
    (h : ∀ w', w'.heap[g]? = some (.cells cs T (0, 0)) → (∀ B w0, B ≤ g → Below B w0 w → Below B w0 w') → w'.heap.size = w.heap.size → (∀ k, k ≠ g → w'.heap[k]? = w.heap[k]?) → wpList P ops Q rest (a.put op.dst undef) w') : wpList P ops Q (op :: rest) a w := by
  refine wpList_store_mid hgd ty x y ho g 0 cs hx hy (fun j hj => ?_) hi h1 ?_
  · have hj' : j < zs.size := by omega
    rw [Nat.zero_add]
    exact ⟨by rw [blk_cell hg (Array.getElem?_eq_getElem hj')]; rfl, blk_free hg⟩
  · have e := setCells_block g cs.toList [] zs.toList w T (0, 0) (by simpa using hg) (by simpa using hsz.symm)
    simp only [List.length_nil, List.nil_append] at e
    rw [e]
    refine h _ ?_ (fun B w0 hB hb => ?_) (by simp) (fun k hk => ?_)
    · show (w.heap.setIfInBounds g _)[g]? = _
      rw [Array.getElem?_setIfInBounds_self_of_lt (blk_lt hg)]
    · refine ⟨hb.os, hb.tape, hb.output, by simpa using hb.size, fun k hk => ?_⟩
      show (w.heap.setIfInBounds g _)[k]? = _
      rw [Array.getElem?_setIfInBounds_ne (by omega)]
      exact hb.block k hk
    · show (w.heap.setIfInBounds g _)[k]? = _
      rw [Array.getElem?_setIfInBounds_ne (fun e => hk e.symm)]
/-- the same in a region that is taken operation by operation -/
theorem step_store_blk {P : Program} {ops : Array Oper} {op : Oper} {a : Act} {w : World} {K : Act → World → Prop} {Q : Exit → Act → World → Prop} {E : Prop} {zs cs : Array Value} {T : TypeId} (hgd : op.guard = none) (ty : TypeId) (x y : Operand) (ho : op.op = .store ty x y)
    (g : Nat) (hx : a.eval x = .pointer (some ⟨g, 0, none⟩)) (hy : a.eval y = .agg cs) (hg : w.heap[g]? = some (.cells zs T (0, 0))) (hsz : zs.size = cs.size) (hi : (P.info? ty).map (·.size) = some cs.size) (h1 : cs.all (·.oneCell') = true)
    (h : ∀ w', w'.heap[g]? = some (.cells cs T (0, 0)) → (∀ B w0, B ≤ g → Below B w0 w → Below B w0 w') → w'.heap.size = w.heap.size → (∀ k, k ≠ g → w'.heap[k]? = w.heap[k]?) → K (a.put op.dst undef) w') : if Region.wanted op (yielded ops a.tmps) = true then Oper.wp P op a w K Q else E := by
  rw [if_pos (show Region.wanted op (yielded ops a.tmps) = true by simp [Region.wanted, hgd])]
  refine wp_store_mid ty x y ho g 0 cs hx hy (fun j hj => ?_) hi h1 ?_
  · have hj' : j < zs.size := by omega
    rw [Nat.zero_add]
    exact ⟨by rw [blk_cell hg (Array.getElem?_eq_getElem hj')]; rfl, blk_free hg⟩
  · have e := setCells_block g cs.toList [] zs.toList w T (0, 0) (by simpa using hg) (by simpa using hsz.symm)
    simp only [List.length_nil, List.nil_append] at e
    rw [e]
    refine h _ ?_ (fun B w0 hB hb => ?_) (by simp) (fun k hk => ?_)
    · show (w.heap.setIfInBounds g _)[g]? = _
      rw [Array.getElem?_setIfInBounds_self_of_lt (blk_lt hg)]
    · refine ⟨hb.os, hb.tape, hb.output, by simpa using hb.size, fun k hk => ?_⟩
      show (w.heap.setIfInBounds g _)[k]? = _
      rw [Array.getElem?_setIfInBounds_ne (by omega)]
      exact hb.block k hk
    · show (w.heap.setIfInBounds g _)[k]? = _
      rw [Array.getElem?_setIfInBounds_ne (fun e => hk e.symm)]
end Go.Proofs.YtdaildpfkchbhaaDoor
