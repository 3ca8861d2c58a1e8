/- Two pages compared; a map's next entry, wherever its iterator lies. No condition. -/
import Derived.Test.YthkaachgfiljmaaLib
import Derived.Laws.StructEq
import Derived.Laws.IdiomRangeMap
namespace Go.Proofs.Ythkaachgfiljmaa
open Go.RowKit
set_option linter.unusedVariables false
theorem run_equalIn_nums {P : Program} (w : World) (d : Nat) (t e : TypeId) (n : Nat) (k : IntKind) (ht : P.underlying t = some (.array n e)) (he : P.underlying e = some (.int k)) (hsz : ∀ w, (sizeOf e).run P w = .ok 1 w)
    (xs ys : Array Value) (X Y : Nat → Int) (hx : ∀ i, i < n → xs[i]? = some (.int k (X i))) (hy : ∀ i, i < n → ys[i]? = some (.int k (Y i))) :
    (Op.equalIn (d + 2) t (.agg xs) (.agg ys)).run P w = .ok ((List.range n).all fun i => X i == Y i) w := by
  rw [List.range_eq_range', Op.equalIn]
  simp only [Sem.run_bind, run_underlying ht, Result.andThen_ok, hsz, Std.Legacy.Range.forIn_eq_forIn_range', Std.Legacy.Range.size, Nat.sub_zero, Nat.add_sub_cancel, Nat.div_one]
  have hl : ∀ i ∈ List.range' 0 n 1, i < n := fun i hi => by simpa using (List.mem_range'_1.1 hi).2
  generalize List.range' 0 n 1 = l at hl ⊢
  induction l with
  | nil => simp
  | cons i l ih =>
    have hi : i < n := hl i (by simp)
    have px : (part e xs (i * 1)).run P w = .ok (.int k (X i)) w := by
      simp [part, isAgg, run_underlying he, hx i hi]
    have py : (part e ys (i * 1)).run P w = .ok (.int k (Y i)) w := by
      simp [part, isAgg, run_underlying he, hy i hi]
    have pe : (Op.equalIn (d + 1) e (.int k (X i)) (.int k (Y i))).run P w = .ok (X i == Y i) w := by
      rw [run_equalIn_int w d e k k _ _ he]
    simp only [List.forIn_cons, Sem.run_bind, px, py, pe, Result.andThen_ok, List.all_cons]
    cases hb : (X i == Y i)
    · simp
    · simp only [Bool.not_true, Bool.false_eq_true, if_false, Sem.run_pure, Result.andThen_ok, Bool.true_and]
      exact ih fun j hj => hl j (by simp [hj])
theorem run_neq_nums {P : Program} (w : World) (t e : TypeId) (n : Nat) (k : IntKind) (ht : P.underlying t = some (.array n e)) (he : P.underlying e = some (.int k)) (hsz : ∀ w, (sizeOf e).run P w = .ok 1 w)
    (xs ys : Array Value) (X Y : Nat → Int) (hx : ∀ i, i < n → xs[i]? = some (.int k (X i))) (hy : ∀ i, i < n → ys[i]? = some (.int k (Y i))) :
    (binOp .neq t (.agg xs) (.agg ys)).run P w = .ok (.bool (!((List.range n).all fun i => X i == Y i))) w := by
  rw [run_neq_struct, run_equalIn_nums w 9998 t e n k ht he hsz xs ys X Y hx hy]
  rfl
/-- a world whose block mp is another object -/
def setB (w : World) (mp : Nat) (o : Obj) : World := { w with heap := w.heap.setIfInBounds mp o }
theorem setB_ne {w : World} {mp k : Nat} {o : Obj} (h : k ≠ mp) : (setB w mp o).heap[k]? = w.heap[k]? := by
  simp only [setB]; rw [Array.getElem?_setIfInBounds_ne (fun e => h e.symm)]
theorem setB_eq {w : World} {mp : Nat} {o : Obj} (h : mp < w.heap.size) : (setB w mp o).heap[mp]? = some o := by
  simp only [setB]; rw [Array.getElem?_setIfInBounds_self_of_lt h]
theorem setB_size {w : World} {mp : Nat} {o : Obj} : (setB w mp o).heap.size = w.heap.size := by simp [setB]
theorem Below.setB {B : Nat} {a b : World} (h : Below B a b) {mp : Nat} (hp : B ≤ mp) (o : Obj) : Below B a (setB b mp o) :=
  ⟨h.os, h.tape, h.output, by rw [setB_size]; exact h.size, fun k hk => by rw [setB_ne (by omega)]; exact h.block k hk⟩
/-- 'next' over a map that has not turned since the loop began, the iterator in block r -/
theorem run_next_at {P : Program} (w : World) (ty : TypeId) (r bm since c0 : Nat) (seen : Array Nat) (es : Array MapEntry) (clock : Nat) (hr : w.heap[r]? = some (.mapIter (some bm) since seen c0)) (hb : w.heap[bm]? = some (.map es clock))
    (hold : ∀ x ∈ es.toList, x.born < since) (hsc : since ≤ c0) :
    ((leftOf es seen).size = 0 ∧ (Instr.next (.pointer (some ⟨r, 0, none⟩)) false ty).run P w = .ok (.tuple #[.bool false]) w) ∨
    ∃ e ∈ (leftOf es seen).toList, ∃ w1 : World, (w1 = w ∨ w1 = w.drew) ∧ (Instr.next (.pointer (some ⟨r, 0, none⟩)) false ty).run P w = .ok (.tuple #[.bool true, e.key, e.val]) (setB w1 r (.mapIter (some bm) since (seen.push e.born) clock)) := by
  simp only [Instr.next, getObj, Sem.run_bind, Sem.run, hr, hb, Result.andThen, next_test_false seen es since c0 hold hsc, Bool.false_eq_true, if_false]
  unfold leftOf
  have hmem : ∀ x ∈ (Array.filter (fun e => !seen.contains e.born) es).toList, x.born < since := fun x hx => hold x (by simp at hx ⊢; exact hx.1)
  generalize Array.filter (fun e => !seen.contains e.born) es = L at hmem ⊢
  have e1 : L.filter (fun x => decide (x.born < since)) = L := Array.filter_eq_self.2 (fun x hx => by simpa using hmem x (by simpa using hx))
  have e2 : L.filter (fun x => decide (x.born ≥ since)) = #[] := by
    rw [Array.filter_eq_empty_iff]
    intro x hx
    have := hmem x (by simpa using hx)
    simp
    omega
  simp only [e1, e2, Array.append_empty]
  by_cases h0 : L.size = 0
  · left
    have : L = #[] := Array.eq_empty_of_size_eq_zero h0
    subst this
    refine ⟨rfl, ?_⟩
    simp [choose, Sem.run, Question.forced]
  · right
    have hne : L.isEmpty = false := by simp [Array.isEmpty, h0]
    simp only [hne, Bool.false_eq_true, if_false, Array.empty_append, Array.size_map]
    have hch : ∃ (j : Nat) (w1 : World), j < L.size ∧ (w1 = w ∨ w1 = w.drew) ∧ (choose (Question.mapNext L.size)).run P w = .ok j w1 := by
      by_cases hf : L.size ≤ 1
      · exact ⟨0, w, by omega, Or.inl rfl, by simp [choose, Sem.run, Question.forced, hf]⟩
      · exact ⟨_, w.drew, Nat.mod_lt _ (by omega), Or.inr rfl, by
          simp only [choose, Sem.run, Question.forced, decide_eq_true_eq, hf, if_false, Question.cut]
          rfl⟩
    obtain ⟨j, w1, hj, hal, hrun⟩ := hch
    refine ⟨L[j], by simp, w1, hal, ?_⟩
    have hr1 : w1.heap[r]? = some (.mapIter (some bm) since seen c0) := by rcases hal with rfl | rfl <;> exact hr
    have hset : ∀ (o' : Obj), (setObj r o').run P w1 = .ok () (setB w1 r o') := fun o' => by
      simp only [setObj, Sem.run, hr1]
      rfl
    simp only [hrun, Array.getElem?_map, Array.getElem?_eq_getElem hj, Option.map_some, Sem.run_bind, hset, Result.andThen]
    rfl
theorem run_entry_at {P : Program} (w : World) (r bm since : Nat) (seen : Array Nat) (es : Array MapEntry) (clock : Nat) (e : MapEntry) (hr : w.heap[r]? = some (.mapIter (some bm) since (seen.push e.born) clock)) (hb : w.heap[bm]? = some (.map es clock)) (he : e ∈ es.toList) (hn : (es.toList.map (·.born)).Nodup) :
    (Instr.entry (.pointer (some ⟨r, 0, none⟩))).run P w = .ok (.tuple #[e.key, e.val]) w := by
  have hf : es.find? (·.born == e.born) = some e := by rw [← Array.find?_toList]; exact find_born e es.toList hn he
  simp only [Instr.entry, getObj, Sem.run_bind, Sem.run, hr, hb, Result.andThen, Array.back?_push, bne_self_eq_false, Bool.false_eq_true, if_false, hf]
  rfl
theorem run_range_at {P : Program} (w : World) (t k e : TypeId) (bm : Nat) (es : Array MapEntry) (clock : Nat) (ht : P.underlying t = some (.map k e)) (hb : w.heap[bm]? = some (.map es clock)) :
    (Instr.range t (.map (some bm))).run P w = .ok (.pointer (some ⟨w.heap.size, 0, none⟩)) (w.alloc (.mapIter (some bm) clock #[] clock)) := run_range_map w t k e bm es clock ht hb
end Go.Proofs.Ythkaachgfiljmaa
