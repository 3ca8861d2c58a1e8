/- What stands in memory while taint.Of runs where nothing is secret. No condition. -/
import Derived.Test.YtemllghghpphmaaTw
import Derived.Test.YtemllghghpphmaaStruct
import Derived.Deep.RegionLaw
namespace Go.Proofs.Ytemllghghpphmaa
open Go.RowKit
set_option linter.unusedVariables false
set_option maxHeartbeats 4000000
theorem step_append_run {P : Program} {ops : Array Oper} {o : Oper} {a : Act} {w : World} {K : Act → World → Prop} {Q : Exit → Act → World → Prop} {E : Prop} (hg : o.guard = none) (s x : Operand) (t : TypeId)
    (hop : o.op = .call { callee := .builtin .append, args := #[s, x], argTypes := #[t, t] }) (v u v' : Value) (w' : World) (hs : a.eval s = v) (hx : a.eval x = u)
    (hr : (Builtin.append_ #[t, t] o.type #[v, u]).run P w = .ok v' w') (hK : K (a.put o.dst v') w') : if Region.wanted o (yielded ops a.tmps) = true then Oper.wp P o a w K Q else E := by
  have hw : Region.wanted o (yielded ops a.tmps) = true := by simp [Region.wanted, hg]
  rw [if_pos hw]
  unfold Oper.wp execOp
  simp only [hop, resolve, invoke, builtin, Sem.run_bind, Sem.run_pure, Result.andThen_ok, List.map_toArray, List.map_cons, List.map_nil, hs, hx, hr]
  exact hK
/-- what a skipped operation yields decides no guard -/
@[go_sem] theorem yielded_undef : Go.yielded.match_1 (fun _ => Option Bool) (some undef) (fun b => some b) (fun _ => none) = none := rfl
theorem Try.infoRowB : (Try.prog.info? 23).map (fun i => (i.zero, i.size, i.bytes)) = some (some (.slice none 0 0), 1, 24) := by kernel_rfl
theorem Try.infoB : (Try.prog.info? 4).map (fun i => (i.zero, i.size, i.bytes)) = some (some (.bool false), 1, 1) := by kernel_rfl
theorem bits_none {l : List Nat} (h : ∀ r, bitL l r = false) (xs : List InsD) (hx : ∀ x ∈ xs, x.secret = false) (hd : ∀ x ∈ xs, x.dst < 64 * l.length) (r : Nat) : bitL (stepsL l xs) r = false := by
  rw [bit_steps xs l hd]
  have e : bitL l = fun _ => false := funext h
  rw [e]
  exact stepsB_none xs r hx
theorem has_none {l : List Nat} (h : ∀ r, bitL l r = false) (i : Int) : hasL l i = false := by unfold hasL; rw [h]; simp
theorem grownBy_setCell (W : World) (b o : Nat) (v : Value) : W.grownBy (W.setCell ⟨b, o, none⟩ v) (some b) := ⟨rfl, rfl, rfl, by simp, fun k _ hk => Below.heap_setCell _ _ _ k (fun e => hk (by rw [e]))⟩
structure OfS (w0 w : World) (Bs Br n gi ci : Nat) (vs : List Value) (I : Nat → List Nat) (gm j : Nat) (v1 v2 : Value) (xs ys : List Value) : Prop where
  sets : TS w w Bs n n (.slice (some ⟨gi, 0, none⟩) n ci) vs I
  m : w.heap[gm]? = some (.cells #[v1, v2, .bool false] 43 (0, 0))
  r1 : w.ownsRow Br 23 1 v1 j xs
  r2 : w.ownsRow Br 4 1 v2 j ys
  below : Below w0.heap.size w0 w
section
variable {w0 w w' : World} {Bs Br n gi ci : Nat} {vs : List Value} {I : Nat → List Nat} {gm j : Nat} {v1 v2 : Value} {xs ys : List Value}
theorem OfS.later (h : OfS w0 w Bs Br n gi ci vs I gm j v1 v2 xs ys) (hBs : Bs ≤ w.heap.size) (hb : Below w.heap.size w w') : OfS w0 w' Bs Br n gi ci vs I gm j v1 v2 xs ys :=
  ⟨(h.sets.more hBs hb).rebase, blk_below h.m hb, own_below h.r1 hb, own_below h.r2 hb, h.below.bt hb⟩
theorem OfS.addIns (h : OfS w0 w Bs Br n gi ci vs I gm j v1 v2 xs ys) (hj : j ≤ 1000000) (hgm : w0.heap.size ≤ gm) (hBr : w0.heap.size ≤ Br) (hBr2 : Br ≤ w.heap.size) (x : Value) (hx : x.oneCell' = true) :
    ∃ v' w', (Builtin.append_ #[41, 41] 41 #[v1, .slice (some ⟨w.heap.size, 0, none⟩) 1 1]).run Try.prog (w.alloc (.cells #[x] 23)) = .ok v' w' ∧ w'.cell? ⟨gm, 0, none⟩ = some v1 ∧ w'.frozen? ⟨gm, 0, none⟩ = false ∧ gm < w'.heap.size ∧ (∃ A m c, v' = .slice A m c) ∧
      (∀ (b : Nat) (cs : Array Value) (T : TypeId), T ≠ 23 → w.heap[b]? = some (.cells cs T (0, 0)) → w'.heap[b]? = some (.cells cs T (0, 0))) ∧ w.grownBy w' v1.ownBlock ∧
      ∃ W, W = w'.setCell ⟨gm, 0, none⟩ v' ∧ TS W W Bs n n (.slice (some ⟨gi, 0, none⟩) n ci) vs I ∧ W.heap[gm]? = some (.cells #[v', v2, .bool false] 43 (0, 0)) ∧ W.ownsRow Br 23 1 v' (j + 1) (xs ++ [x]) ∧ W.ownsRow Br 4 1 v2 j ys ∧ Below w0.heap.size w0 W := by
  obtain ⟨i0, hi, hz0, hz1, hz2⟩ := info_parts Try.infoRowB
  obtain ⟨v', w', r1, r2, r3, r4⟩ := append_one (P := Try.prog) (w := w) Br 41 23 i0 _ 24 Try.underlying41 hi hz0 hz1 hz2 rfl v1 j xs h.r1 x _ rfl hx (by unfold maxLen; omega) (by omega) hBr2
  have hm := blk_kept h.m r3 (own_blk h.r1 h.m (by decide))
  obtain ⟨A, c, hv', _⟩ := own_slice r2
  have hbw : Below w0.heap.size w0 w' := below_of_grown h.below (Nat.le_refl _) r3 (fun k hk => by have := (h.r1.lt k hk).1; omega)
  have hs : w'.grownBy (w'.setCell ⟨gm, 0, none⟩ v') (some gm) := grownBy_setCell w' gm 0 v'
  have hsets := h.sets.far r3 (own_ne h.sets.ri h.r1 (by decide)) (fun k v hv hk => by
    obtain ⟨u, e, hu⟩ := h.sets.si k hk
    rw [hv] at e
    obtain rfl := Option.some.inj e
    exact own_ne hu.1 h.r1 (by decide))
  have hr2 := h.r2.kept r3 (own_ne h.r2 h.r1 (by decide))
  refine ⟨v', w', r1, blk_cell hm rfl, blk_free hm, blk_lt hm, ⟨_, _, _, hv'⟩, fun b cs T hT hb => blk_kept hb r3 (own_blk h.r1 hb (Ne.symm hT)), r3, _, rfl, ?_, ?_, ?_, ?_, ?_⟩
  · exact hsets.far hs (own_blk hsets.ri hm (by decide)) (fun k v hv hk => by
      obtain ⟨u, e, hu⟩ := hsets.si k hk
      rw [hv] at e
      obtain rfl := Option.some.inj e
      exact own_blk hu.1 hm (by decide))
  · have := blk_setCell (i := 0) hm v'
    exact this
  · exact r2.kept hs (own_blk r2 hm (by decide))
  · exact hr2.kept hs (own_blk hr2 hm (by decide))
  · exact Below.setCell hbw (p := ⟨gm, 0, none⟩) hgm v'
theorem OfS.addEnd {W w : World} (h1 : TS w w Bs n n (.slice (some ⟨gi, 0, none⟩) n ci) vs I) (h2 : w.heap[gm]? = some (.cells #[v1, v2, .bool false] 43 (0, 0))) (h3 : w.ownsRow Br 23 1 v1 (j + 1) xs) (h4 : w.ownsRow Br 4 1 v2 j ys) (h5 : Below w0.heap.size w0 w)
    (hj : j ≤ 1000000) (hgm : w0.heap.size ≤ gm) (hBr : w0.heap.size ≤ Br) (hBr2 : Br ≤ w.heap.size) (x : Value) (hx : x.oneCell' = true) :
    ∃ v' w', (Builtin.append_ #[23, 23] 23 #[v2, .slice (some ⟨w.heap.size, 0, none⟩) 1 1]).run Try.prog (w.alloc (.cells #[x] 4)) = .ok v' w' ∧ w'.cell? ⟨gm, 1, none⟩ = some v2 ∧ w'.frozen? ⟨gm, 1, none⟩ = false ∧ gm < w'.heap.size ∧ (∃ A m c, v' = .slice A m c) ∧
      OfS w0 (w'.setCell ⟨gm, 1, none⟩ v') Bs Br n gi ci vs I gm (j + 1) v1 v' xs (ys ++ [x]) ∧ w.heap.size ≤ w'.heap.size ∧ (∀ (b : Nat) (cs : Array Value) (T : TypeId), T ≠ 4 → w.heap[b]? = some (.cells cs T (0, 0)) → w'.heap[b]? = some (.cells cs T (0, 0))) := by
  obtain ⟨i0, hi, hz0, hz1, hz2⟩ := info_parts Try.infoB
  obtain ⟨v', w', r1, r2, r3, r4⟩ := append_one (P := Try.prog) (w := w) Br 23 4 i0 _ 1 Try.underlying23 hi hz0 hz1 hz2 rfl v2 j ys h4 x _ rfl hx (by unfold maxLen; omega) (by omega) hBr2
  have hm := blk_kept h2 r3 (own_blk h4 h2 (by decide))
  obtain ⟨A, c, hv', _⟩ := own_slice r2
  have hbw : Below w0.heap.size w0 w' := below_of_grown h5 (Nat.le_refl _) r3 (fun k hk => by have := (h4.lt k hk).1; omega)
  have hs : w'.grownBy (w'.setCell ⟨gm, 1, none⟩ v') (some gm) := grownBy_setCell w' gm 1 v'
  have hsets := h1.far r3 (own_ne h1.ri h4 (by decide)) (fun k v hv hk => by
    obtain ⟨u, e, hu⟩ := h1.si k hk
    rw [hv] at e
    obtain rfl := Option.some.inj e
    exact own_ne hu.1 h4 (by decide))
  have hr1 := h3.kept r3 (own_ne h3 h4 (by decide))
  refine ⟨v', w', r1, blk_cell hm rfl, blk_free hm, blk_lt hm, ⟨_, _, _, hv'⟩, ⟨?_, ?_, ?_, ?_, ?_⟩, r3.size, fun b cs T hT hb => blk_kept hb r3 (own_blk h4 hb (Ne.symm hT))⟩
  · exact hsets.far hs (own_blk hsets.ri hm (by decide)) (fun k v hv hk => by
      obtain ⟨u, e, hu⟩ := hsets.si k hk
      rw [hv] at e
      obtain rfl := Option.some.inj e
      exact own_blk hu.1 hm (by decide))
  · have := blk_setCell (i := 1) hm v'
    exact this
  · exact hr1.kept hs (own_blk hr1 hm (by decide))
  · exact r2.kept hs (own_blk r2 hm (by decide))
  · exact Below.setCell hbw (p := ⟨gm, 1, none⟩) hgm v'
end
end Go.Proofs.Ytemllghghpphmaa
