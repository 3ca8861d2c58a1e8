/- taint.Of for any function: what it builds, round by round. No condition. -/
import Derived.Test.YtbogcompeefoaaaDoorPlT
import Derived.Test.YtbogcompeefoaaaDoorQc
import Derived.Test.YtbogcompeefoaaaDoorQb
namespace Go.Proofs.YtbogcompeefoaaaDoor
open Go.RowKit
set_option linter.unusedVariables false
set_option maxHeartbeats 4000000
theorem Tryd.infoRowB : (Tryd.prog.info? 36).map (fun i => (i.zero, i.size, i.bytes)) = some (some (.slice none 0 0), 1, 24) := by kernel_rfl
theorem Tryd.infoB : (Tryd.prog.info? 4).map (fun i => (i.zero, i.size, i.bytes)) = some (some (.bool false), 1, 1) := by kernel_rfl
/-- rows of bools, one an instruction's block, apart from the row v2 -/
structure RowsB (w : World) (B : Nat) (v2 : Value) (xs : List Value) (bs : List (List Bool)) : Prop where
  len : xs.length = bs.length
  row : ∀ (q : Nat) (l : List Bool), bs[q]? = some l → ∃ v : Value, xs[q]? = some v ∧ w.ownsRow B 4 1 v l.length (l.map Value.bool) ∧ (v.ownBlock = none ∨ v.ownBlock ≠ v2.ownBlock)
theorem RowsB.nil (w : World) (B : Nat) (v2 : Value) : RowsB w B v2 [] [] := ⟨rfl, fun q l h => by simp at h⟩
theorem RowsB.step {w w' : World} {B : Nat} {v2 v2' : Value} {xs : List Value} {bs : List (List Bool)} (h : RowsB w B v2 xs bs) (hk : ∀ (q : Nat) (l : List Bool) (v : Value), w.ownsRow B 4 1 v l.length (l.map Value.bool) → (v.ownBlock = none ∨ v.ownBlock ≠ v2.ownBlock) → w'.ownsRow B 4 1 v l.length (l.map Value.bool) ∧ (v.ownBlock = none ∨ v.ownBlock ≠ v2'.ownBlock)) : RowsB w' B v2' xs bs :=
  ⟨h.len, fun q l hq => let ⟨v, h1, h2, h3⟩ := h.row q l hq; let ⟨h4, h5⟩ := hk q l v h2 h3; ⟨v, h1, h4, h5⟩⟩
theorem RowsB.later {w w' : World} {B : Nat} {v2 : Value} {xs : List Value} {bs : List (List Bool)} (h : RowsB w B v2 xs bs) (hb : Below w.heap.size w w') : RowsB w' B v2 xs bs :=
  h.step (fun q l v h1 h2 => ⟨own_below h1 hb, h2⟩)
theorem RowsB.snoc {w : World} {B : Nat} {v2 : Value} {xs : List Value} {bs : List (List Bool)} (h : RowsB w B v2 xs bs) {v : Value} {l : List Bool} (h1 : w.ownsRow B 4 1 v l.length (l.map Value.bool)) (h2 : v.ownBlock = none ∨ v.ownBlock ≠ v2.ownBlock) : RowsB w B v2 (xs ++ [v]) (bs ++ [l]) := by
  refine ⟨by rw [List.length_append, List.length_append, h.len]; rfl, fun q m hq => ?_⟩
  by_cases hlt : q < bs.length
  · rw [List.getElem?_append_left hlt] at hq
    obtain ⟨u, h3, h4⟩ := h.row q m hq
    exact ⟨u, by rw [List.getElem?_append_left (by rw [h.len]; exact hlt)]; exact h3, h4⟩
  · have hlt2 := (List.getElem?_eq_some_iff.1 hq).1
    rw [List.length_append, List.length_singleton] at hlt2
    obtain rfl : q = bs.length := by omega
    rw [List.getElem?_append_right (Nat.le_refl _), Nat.sub_self] at hq
    obtain rfl : l = m := by simpa using hq
    exact ⟨v, by rw [← h.len, List.getElem?_append_right (Nat.le_refl _), Nat.sub_self]; rfl, h1, h2⟩
theorem TS.rebase {W0 w : World} {B n m : Nat} {iv : Value} {vs : List Value} {I : Nat → List Nat} (h : TS W0 w B n m iv vs I) : TS w w B n m iv vs I := ⟨h.ri, h.len, h.si, h.rest, h.ap, Below.refl _ _⟩
theorem TS.far {W0 w w' : World} {B n m : Nat} {iv : Value} {vs : List Value} {I : Nat → List Nat} {r : Option Nat} (h : TS W0 w B n m iv vs I) (hg : w.grownBy w' r) (h1 : iv.ownBlock = none ∨ iv.ownBlock ≠ r) (h2 : ∀ (k : Nat) v, vs[k]? = some v → k < m → (v.ownBlock = none ∨ v.ownBlock ≠ r)) : TS w' w' B n m iv vs I :=
  ⟨h.ri.kept hg h1, h.len, fun k hk => let ⟨v, e, hs⟩ := h.si k hk; ⟨v, e, own_kept hs hg (h2 k v e hk)⟩, h.rest, h.ap, Below.refl _ _⟩
set_option maxRecDepth 100000 in
structure OfT (w0 w : World) (Bs Br n gi ci : Nat) (vs : List Value) (I : Nat → List Nat) (gm j : Nat) (v1 v2 : Value) (xs ys : List Value) (an : Bool) (bs : List (List Bool)) : Prop where
  sets : TS w w Bs n n (.slice (some ⟨gi, 0, none⟩) n ci) vs I
  m : w.heap[gm]? = some (.cells #[v1, v2, .bool an] 81 (0, 0))
  r1 : w.ownsRow Br 36 1 v1 j xs
  r2 : w.ownsRow Br 4 1 v2 j ys
  below : Below w0.heap.size w0 w
  rows : RowsB w Br v2 xs bs
section
variable {w0 w w' : World} {Bs Br n gi ci : Nat} {vs : List Value} {I : Nat → List Nat} {gm j : Nat} {v1 v2 : Value} {xs ys : List Value} {an : Bool} {bs : List (List Bool)}
theorem OfT.later (h : OfT w0 w Bs Br n gi ci vs I gm j v1 v2 xs ys an bs) (hBs : Bs ≤ w.heap.size) (hb : Below w.heap.size w w') : OfT w0 w' Bs Br n gi ci vs I gm j v1 v2 xs ys an bs :=
  ⟨(h.sets.more hBs hb).rebase, blk_below h.m hb, own_below h.r1 hb, own_below h.r2 hb, h.below.bt hb, h.rows.later hb⟩
/-- only the marks' block is turned, and what is new: the flag is another -/
theorem OfT.turn (h : OfT w0 w Bs Br n gi ci vs I gm j v1 v2 xs ys an bs) (hgm : w0.heap.size ≤ gm) {b : Bool} (hs : w.grownBy w' (some gm)) (hm : w'.heap[gm]? = some (.cells #[v1, v2, .bool b] 81 (0, 0))) : OfT w0 w' Bs Br n gi ci vs I gm j v1 v2 xs ys b bs :=
  ⟨h.sets.far hs (own_blk h.sets.ri h.m (by decide)) (fun k v hv hk => by
      obtain ⟨u, e, hu⟩ := h.sets.si k hk
      rw [hv] at e
      obtain rfl := Option.some.inj e
      exact own_blk hu.1 h.m (by decide)), hm, h.r1.kept hs (own_blk h.r1 h.m (by decide)), h.r2.kept hs (own_blk h.r2 h.m (by decide)), below_of_grown h.below (Nat.le_refl _) hs (fun k hk => by cases hk; exact hgm), h.rows.step (fun q l v h1 h2 => ⟨h1.kept hs (own_blk h1 h.m (by decide)), h2⟩)⟩
/-- the flag is stored -/
theorem OfT.flag (h : OfT w0 w Bs Br n gi ci vs I gm j v1 v2 xs ys an bs) (hgm : w0.heap.size ≤ gm) (b : Bool) : OfT w0 (w.setCell ⟨gm, 2, none⟩ (.bool b)) Bs Br n gi ci vs I gm j v1 v2 xs ys b bs :=
  h.turn hgm (grown_set w gm 2 (.bool b)) (blk_setCell (i := 2) h.m (Value.bool b))
theorem OfT.addIns (h : OfT w0 w Bs Br n gi ci vs I gm j v1 v2 xs ys an bs) (hj : j ≤ 1000000) (hgm : w0.heap.size ≤ gm) (hBr : w0.heap.size ≤ Br) (hBr2 : Br ≤ w.heap.size) (x : Value) (l : List Bool) (hx : x.oneCell' = true) (hl : w.ownsRow Br 4 1 x l.length (l.map Value.bool)) (hap : x.ownBlock = none ∨ x.ownBlock ≠ v2.ownBlock) :
    ∃ v' w', (Builtin.append_ #[79, 79] 79 #[v1, .slice (some ⟨w.heap.size, 0, none⟩) 1 1]).run Tryd.prog (w.alloc (.cells #[x] 36)) = .ok v' w' ∧ w'.cell? ⟨gm, 0, none⟩ = some v1 ∧ w'.frozen? ⟨gm, 0, none⟩ = false ∧ gm < w'.heap.size ∧ (∃ A m c, v' = .slice A m c) ∧
      (∀ (b : Nat) (cs : Array Value) (T : TypeId), T ≠ 36 → w.heap[b]? = some (.cells cs T (0, 0)) → w'.heap[b]? = some (.cells cs T (0, 0))) ∧ w.grownBy w' v1.ownBlock ∧
      ∃ W, W = w'.setCell ⟨gm, 0, none⟩ v' ∧ TS W W Bs n n (.slice (some ⟨gi, 0, none⟩) n ci) vs I ∧ W.heap[gm]? = some (.cells #[v', v2, .bool an] 81 (0, 0)) ∧ W.ownsRow Br 36 1 v' (j + 1) (xs ++ [x]) ∧ W.ownsRow Br 4 1 v2 j ys ∧ Below w0.heap.size w0 W ∧ RowsB W Br v2 (xs ++ [x]) (bs ++ [l]) := by
  obtain ⟨i0, hi, hz0, hz1, hz2⟩ := info_parts Tryd.infoRowB
  obtain ⟨v', w', r1, r2, r3, r4⟩ := append_one (P := Tryd.prog) (w := w) Br 79 36 i0 _ 24 Tryd.underlying79 hi hz0 hz1 hz2 rfl v1 j xs h.r1 x _ rfl hx (by unfold maxLen; omega) (by omega) hBr2
  have hm := blk_kept h.m r3 (own_blk h.r1 h.m (by decide))
  obtain ⟨A, c, hv', _⟩ := own_slice r2
  have hbw : Below w0.heap.size w0 w' := below_of_grown h.below (Nat.le_refl _) r3 (fun k hk => by have := (h.r1.lt k hk).1; omega)
  have hs : w'.grownBy (w'.setCell ⟨gm, 0, none⟩ v') (some gm) := grown_set w' gm 0 v'
  have hsets := h.sets.far r3 (own_ne h.sets.ri h.r1 (by decide)) (fun k v hv hk => by
    obtain ⟨u, e, hu⟩ := h.sets.si k hk
    rw [hv] at e
    obtain rfl := Option.some.inj e
    exact own_ne hu.1 h.r1 (by decide))
  have hr2 := h.r2.kept r3 (own_ne h.r2 h.r1 (by decide))
  have hrw := (h.rows.snoc hl hap).step (w' := w') (v2' := v2) (fun q l v h1 h2 => ⟨h1.kept r3 (own_ne h1 h.r1 (by decide)), h2⟩)
  refine ⟨v', w', r1, blk_cell hm rfl, blk_free hm, blk_lt hm, ⟨_, _, _, hv'⟩, fun b cs T hT hb => blk_kept hb r3 (own_blk h.r1 hb (Ne.symm hT)), r3, _, rfl, ?_, ?_, ?_, ?_, ?_, ?_⟩
  · exact hsets.far hs (own_blk hsets.ri hm (by decide)) (fun k v hv hk => by
      obtain ⟨u, e, hu⟩ := hsets.si k hk
      rw [hv] at e
      obtain rfl := Option.some.inj e
      exact own_blk hu.1 hm (by decide))
  · have := blk_setCell (i := 0) hm v'
    exact this
  · exact r2.kept hs (own_blk r2 hm (by decide))
  · exact hr2.kept hs (own_blk hr2 hm (by decide))
  · exact Below.setCell hbw (p := ⟨gm, 0, none⟩) hgm v'
  · exact hrw.step (fun q l v h1 h2 => ⟨h1.kept hs (own_blk h1 hm (by decide)), h2⟩)
theorem OfT.addEnd {W w : World} (h1 : TS w w Bs n n (.slice (some ⟨gi, 0, none⟩) n ci) vs I) (h2 : w.heap[gm]? = some (.cells #[v1, v2, .bool an] 81 (0, 0))) (h3 : w.ownsRow Br 36 1 v1 (j + 1) xs) (h4 : w.ownsRow Br 4 1 v2 j ys) (h5 : Below w0.heap.size w0 w) (h6 : RowsB w Br v2 xs bs)
    (hj : j ≤ 1000000) (hgm : w0.heap.size ≤ gm) (hBr : w0.heap.size ≤ Br) (hBr2 : Br ≤ w.heap.size) (x : Value) (hx : x.oneCell' = true) :
    ∃ v' w', (Builtin.append_ #[36, 36] 36 #[v2, .slice (some ⟨w.heap.size, 0, none⟩) 1 1]).run Tryd.prog (w.alloc (.cells #[x] 4)) = .ok v' w' ∧ w'.cell? ⟨gm, 1, none⟩ = some v2 ∧ w'.frozen? ⟨gm, 1, none⟩ = false ∧ gm < w'.heap.size ∧ (∃ A m c, v' = .slice A m c) ∧
      OfT w0 (w'.setCell ⟨gm, 1, none⟩ v') Bs Br n gi ci vs I gm (j + 1) v1 v' xs (ys ++ [x]) an bs ∧ w.heap.size ≤ w'.heap.size ∧ (∀ (b : Nat) (cs : Array Value) (T : TypeId), T ≠ 4 → w.heap[b]? = some (.cells cs T (0, 0)) → w'.heap[b]? = some (.cells cs T (0, 0))) := by
  obtain ⟨i0, hi, hz0, hz1, hz2⟩ := info_parts Tryd.infoB
  obtain ⟨v', w', r1, r2, r3, r4⟩ := append_one (P := Tryd.prog) (w := w) Br 36 4 i0 _ 1 Tryd.underlying36 hi hz0 hz1 hz2 rfl v2 j ys h4 x _ rfl hx (by unfold maxLen; omega) (by omega) hBr2
  have hm := blk_kept h2 r3 (own_blk h4 h2 (by decide))
  obtain ⟨A, c, hv', _⟩ := own_slice r2
  have hbw : Below w0.heap.size w0 w' := below_of_grown h5 (Nat.le_refl _) r3 (fun k hk => by have := (h4.lt k hk).1; omega)
  have hs : w'.grownBy (w'.setCell ⟨gm, 1, none⟩ v') (some gm) := grown_set w' gm 1 v'
  have hsets := h1.far r3 (own_ne h1.ri h4 (by decide)) (fun k v hv hk => by
    obtain ⟨u, e, hu⟩ := h1.si k hk
    rw [hv] at e
    obtain rfl := Option.some.inj e
    exact own_ne hu.1 h4 (by decide))
  have hr1 := h3.kept r3 (own_ne h3 h4 (by decide))
  have hrw := h6.step (w' := w') (v2' := v') (fun q l v g1 g2 => ⟨g1.kept r3 g2, by
    cases ho : v.ownBlock with
    | none => exact Or.inl rfl
    | some k =>
      refine Or.inr (fun e => ?_)
      rw [ho] at g2
      rcases r4 k e.symm with h | h
      · rcases g2 with g2 | g2
        · cases g2
        · exact g2 h.symm
      · have := (g1.lt k ho).2
        omega⟩)
  refine ⟨v', w', r1, blk_cell hm rfl, blk_free hm, blk_lt hm, ⟨_, _, _, hv'⟩, ⟨?_, ?_, ?_, ?_, ?_, ?_⟩, r3.size, fun b cs T hT hb => blk_kept hb r3 (own_blk h4 hb (Ne.symm hT))⟩
  · exact hsets.far hs (own_blk hsets.ri hm (by decide)) (fun k v hv hk => by
      obtain ⟨u, e, hu⟩ := hsets.si k hk
      rw [hv] at e
      obtain rfl := Option.some.inj e
      exact own_blk hu.1 hm (by decide))
  · have := blk_setCell (i := 1) hm v'
    exact this
  · exact hr1.kept hs (own_blk hr1 hm (by decide))
  · exact r2.kept hs (own_blk r2 hm (by decide))
  · exact Below.setCell hbw (p := ⟨gm, 1, none⟩) hgm v'
  · exact hrw.step (fun q l v h1 h2 => ⟨h1.kept hs (own_blk h1 hm (by decide)), h2⟩)
end
end Go.Proofs.YtbogcompeefoaaaDoor
