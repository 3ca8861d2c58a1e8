/- FlowCopies: what stays of a copy's shape while it is written into. No condition. -/
import Derived.Test.YtdaildpfkchbhaaDoorFcH
namespace Go.Proofs.YtdaildpfkchbhaaDoor
open Go.RowKit
set_option linter.unusedVariables false
set_option maxHeartbeats 4000000
def QA (w : World) (B : Nat) (va : Value) : Prop := ∃ A n c, va = .slice A n c ∧ n ≤ c ∧ c ≤ maxLen ∧ (n = 0 ∨ ∃ g cur, A = some ⟨g, 0, none⟩ ∧ B ≤ g ∧ w.heap[g]? = some (.cells cur 37 (0, 0)) ∧ n * 2 ≤ cur.size)
def QI (w : World) (B : Nat) (v : Value) (n : Nat) : Prop := ∃ A c, v = .slice A n c ∧ n ≤ c ∧ c ≤ maxLen ∧ (n = 0 ∨ ∃ g cur, A = some ⟨g, 0, none⟩ ∧ B ≤ g ∧ w.heap[g]? = some (.cells cur 45 (0, 0)) ∧ n * 12 ≤ cur.size ∧ ∀ k, k < n → ∃ va, cur[k * 12 + 11]? = some va ∧ QA w B va)
def QB (w : World) (B g : Nat) (bs : List BlockD) : Prop := ∃ cur, B ≤ g ∧ w.heap[g]? = some (.cells cur 41 (0, 0)) ∧ bs.length * 9 ≤ cur.size ∧ ∀ i b, bs[i]? = some b → ∃ vi, cur[i * 9]? = some vi ∧ QI w B vi b.ins.length
/-- one block's contents changed -/
def Upd (w w' : World) (h : Nat) (T : TypeId) (cur cur' : Array Value) : Prop := w.heap[h]? = some (.cells cur T (0, 0)) ∧ w'.heap[h]? = some (.cells cur' T (0, 0)) ∧ cur'.size = cur.size ∧ w.grownBy w' (some h)
theorem Upd.blk {w w' : World} {h : Nat} {T : TypeId} {cur cur' : Array Value} (u : Upd w w' h T cur cur') {g : Nat} {c : Array Value} {T2 : TypeId} {fr : Nat × Nat} (hg : w.heap[g]? = some (.cells c T2 fr)) (hT : T2 ≠ T) : w'.heap[g]? = some (.cells c T2 fr) :=
  (u.2.2.2.block g (blk_lt hg) (fun e => by
    have e2 := Option.some.inj e
    subst e2
    rw [u.1] at hg
    simp only [Option.some.injEq, Obj.cells.injEq] at hg
    exact hT hg.2.1.symm)).trans hg
/-- .. or of the same type -/
theorem Upd.any {w w' : World} {h : Nat} {T : TypeId} {cur cur' : Array Value} (u : Upd w w' h T cur cur') {g : Nat} {c : Array Value} {T2 : TypeId} (hg : w.heap[g]? = some (.cells c T2 (0, 0))) :
    w'.heap[g]? = some (.cells c T2 (0, 0)) ∨ (g = h ∧ T2 = T ∧ c = cur) := by
  by_cases e : g = h
  · subst e
    have := u.1
    rw [hg] at this
    simp only [Option.some.injEq, Obj.cells.injEq] at this
    exact Or.inr ⟨rfl, this.2.1, this.1⟩
  · exact Or.inl ((u.2.2.2.block g (blk_lt hg) (by simpa using e)).trans hg)
theorem QA.upd {w w' : World} {B : Nat} {va : Value} (q : QA w B va) {h : Nat} {T : TypeId} {cur cur' : Array Value} (u : Upd w w' h T cur cur') : QA w' B va := by
  obtain ⟨A, n, c, h1, h2, h3, h4⟩ := q
  refine ⟨A, n, c, h1, h2, h3, ?_⟩
  rcases h4 with h4 | ⟨g, cu, e1, e2, e3, e4⟩
  · exact Or.inl h4
  · rcases u.any e3 with k | ⟨rfl, rfl, rfl⟩
    · exact Or.inr ⟨g, cu, e1, e2, k, e4⟩
    · exact Or.inr ⟨g, cur', e1, e2, u.2.1, by rw [u.2.2.1]; exact e4⟩
/-- new instructions have no arguments -/
def InsKeep (cur cur' : Array Value) : Prop := ∀ k, cur'[k * 12 + 11]? = cur[k * 12 + 11]? ∨ (cur'[k * 12 + 11]? = some (.slice none 0 0))
theorem QI.upd {w w' : World} {B n : Nat} {v : Value} (q : QI w B v n) {h : Nat} {T : TypeId} {cur cur' : Array Value} (u : Upd w w' h T cur cur') (hI : T = 45 → InsKeep cur cur') : QI w' B v n := by
  obtain ⟨A, c, h1, h2, h3, h4⟩ := q
  refine ⟨A, c, h1, h2, h3, ?_⟩
  rcases h4 with h4 | ⟨g, cu, e1, e2, e3, e4, e5⟩
  · exact Or.inl h4
  · rcases u.any e3 with k | ⟨rfl, rfl, rfl⟩
    · refine Or.inr ⟨g, cu, e1, e2, k, e4, fun i hi => ?_⟩
      obtain ⟨va, f1, f2⟩ := e5 i hi
      exact ⟨va, f1, f2.upd u⟩
    · refine Or.inr ⟨g, cur', e1, e2, u.2.1, by rw [u.2.2.1]; exact e4, fun i hi => ?_⟩
      obtain ⟨va, f1, f2⟩ := e5 i hi
      rcases hI rfl i with k | k
      · exact ⟨va, k.trans f1, f2.upd u⟩
      · exact ⟨_, k, none, 0, 0, rfl, Nat.le_refl _, by decide, Or.inl rfl⟩
theorem QB.upd {w w' : World} {B g : Nat} {bs : List BlockD} (q : QB w B g bs) {h : Nat} {T : TypeId} {cur cur' : Array Value} (u : Upd w w' h T cur cur') (hI : T = 45 → InsKeep cur cur') (hB : T = 41 → ∀ i, cur'[i * 9]? = cur[i * 9]?) : QB w' B g bs := by
  obtain ⟨cu, h1, h2, h3, h4⟩ := q
  rcases u.any h2 with k | ⟨rfl, rfl, rfl⟩
  · refine ⟨cu, h1, k, h3, fun i b hb => ?_⟩
    obtain ⟨vi, f1, f2⟩ := h4 i b hb
    exact ⟨vi, f1, f2.upd u hI⟩
  · refine ⟨cur', h1, u.2.1, by rw [u.2.2.1]; exact h3, fun i b hb => ?_⟩
    obtain ⟨vi, f1, f2⟩ := h4 i b hb
    exact ⟨vi, (hB rfl i).trans f1, f2.upd u hI⟩
theorem QA.later {w w' : World} {B : Nat} {va : Value} (q : QA w B va) (hb : Below w.heap.size w w') : QA w' B va := by
  obtain ⟨A, n, c, h1, h2, h3, h4⟩ := q
  refine ⟨A, n, c, h1, h2, h3, ?_⟩
  rcases h4 with h4 | ⟨g, cu, e1, e2, e3, e4⟩
  · exact Or.inl h4
  · exact Or.inr ⟨g, cu, e1, e2, blk_below e3 hb, e4⟩
theorem QI.later {w w' : World} {B n : Nat} {v : Value} (q : QI w B v n) (hb : Below w.heap.size w w') : QI w' B v n := by
  obtain ⟨A, c, h1, h2, h3, h4⟩ := q
  refine ⟨A, c, h1, h2, h3, ?_⟩
  rcases h4 with h4 | ⟨g, cu, e1, e2, e3, e4, e5⟩
  · exact Or.inl h4
  · refine Or.inr ⟨g, cu, e1, e2, blk_below e3 hb, e4, fun i hi => ?_⟩
    obtain ⟨va, f1, f2⟩ := e5 i hi
    exact ⟨va, f1, f2.later hb⟩
theorem QB.later {w w' : World} {B g : Nat} {bs : List BlockD} (q : QB w B g bs) (hb : Below w.heap.size w w') : QB w' B g bs := by
  obtain ⟨cu, h1, h2, h3, h4⟩ := q
  refine ⟨cu, h1, blk_below h2 hb, h3, fun i b hb2 => ?_⟩
  obtain ⟨vi, f1, f2⟩ := h4 i b hb2
  exact ⟨vi, f1, f2.later hb⟩
theorem RowB.shape {w0 w : World} {B g : Nat} {bs : List BlockD} (h : RowB w B g bs (fun _ vi b => NewI w0 w B vi b.ins b.ins.length)) : QB w B g bs := by
  obtain ⟨cur, h1, h2, h3⟩ := h
  refine ⟨cur, h1, h2, ?_, fun i b hb => ?_⟩
  · rcases Nat.eq_zero_or_pos bs.length with e | e
    · rw [e]; omega
    · obtain ⟨vi, k1, _⟩ := h3 (bs.length - 1) _ (List.getElem?_eq_getElem (by omega))
      have := (Array.getElem?_eq_some_iff.1 (k1 8 (by omega))).1
      omega
  · obtain ⟨vi, k1, A, c, k2, k3, k4, k5⟩ := h3 i b hb
    refine ⟨vi, k1 0 (by omega), A, c, k2, k3, k4, ?_⟩
    rcases k5 with k5 | ⟨gi, ci, e1, e2, e3, e4⟩
    · exact Or.inl (by rw [k5]; rfl)
    · refine Or.inr ⟨gi, ci, e1, e2, e3, ?_, fun k hk => ?_⟩
      · rcases Nat.eq_zero_or_pos b.ins.length with e | e
        · rw [e]; omega
        · obtain ⟨va, f1, _⟩ := e4 (b.ins.length - 1) _ (List.getElem?_eq_getElem (by omega))
          have := (Array.getElem?_eq_some_iff.1 (f1 11 (by omega))).1
          omega
      · obtain ⟨va, f1, f2, _⟩ := e4 k _ (List.getElem?_eq_getElem hk)
        refine ⟨va, f1 11 (by omega), ?_⟩
        rcases own_cells (f2 hk) with ⟨rfl, e⟩ | ⟨ga, cap, ca, rfl, q1, q2, q3, q4, q5, q6⟩
        · exact ⟨none, 0, 0, rfl, Nat.le_refl _, by decide, Or.inl rfl⟩
        · exact ⟨_, _, cap, rfl, q3, q4, Or.inr ⟨ga, ca, rfl, q1, q2, by rw [q5]; exact Nat.mul_le_mul_right 2 q3⟩⟩
/-- cells stored in a row, from some place on -/
theorem setCells_upd (g : Nat) : ∀ (vs : List Value) (w : World) (o : Nat) (cur : Array Value) (T : TypeId), w.heap[g]? = some (.cells cur T (0, 0)) → o + vs.length ≤ cur.size →
    ∃ cur', Upd w (w.setCells g o vs) g T cur cur' ∧ (∀ j, j < vs.length → cur'[o + j]? = vs[j]?) ∧ (∀ i, (i < o ∨ o + vs.length ≤ i) → cur'[i]? = cur[i]?)
  | [], w, o, cur, T, h, _ => ⟨cur, ⟨h, h, rfl, ⟨rfl, rfl, rfl, Nat.le_refl _, fun _ _ _ => rfl⟩⟩, (fun j hj => by simp at hj), fun i _ => rfl⟩
  | v :: vs, w, o, cur, T, h, hl => by
    rw [List.length_cons] at hl
    have h1 : (w.setCell ⟨g, o, none⟩ v).heap[g]? = some (.cells (cur.setIfInBounds o v) T (0, 0)) := blk_setCell h v
    obtain ⟨cur', u, k1, k2⟩ := setCells_upd g vs (w.setCell ⟨g, o, none⟩ v) (o + 1) (cur.setIfInBounds o v) T h1 (by rw [Array.size_setIfInBounds]; omega)
    have hg := grown_set w g o v
    refine ⟨cur', ⟨h, u.2.1, by rw [u.2.2.1, Array.size_setIfInBounds], ?_⟩, fun j hj => ?_, fun i hi => ?_⟩
    · exact grown_trans hg u.2.2.2
    · match j with
      | 0 =>
        rw [Nat.add_zero, k2 o (by omega), Array.getElem?_setIfInBounds, if_pos rfl, if_pos (by omega)]; rfl
      | j + 1 =>
        rw [List.length_cons] at hj
        have := k1 j (by omega)
        rw [show o + 1 + j = o + (j + 1) by omega] at this
        rw [this]; rfl
    · rw [List.length_cons] at hi
      rw [k2 i (by omega), Array.getElem?_setIfInBounds, if_neg (by omega)]
/-- a whole struct stored into a row -/
theorem step_store_at {P : Program} {ops : Array Oper} {op : Oper} {a : Act} {w : World} {K : Act → World → Prop} {Q : Exit → Act → World → Prop} {E : Prop} {zs cs : Array Value} {T : TypeId} (hgd : op.guard = none) (ty : TypeId) (x y : Operand) (ho : op.op = .store ty x y)
    (g o : Nat) (hx : a.eval x = .pointer (some ⟨g, o, none⟩)) (hy : a.eval y = .agg cs) (hg : w.heap[g]? = some (.cells zs T (0, 0))) (hsz : o + cs.size ≤ zs.size) (hi : (P.info? ty).map (·.size) = some cs.size) (h1 : cs.all (·.oneCell') = true)
    (h : ∀ w' cur', Upd w w' g T zs cur' → (∀ j, j < cs.size → cur'[o + j]? = cs[j]?) → (∀ i, (i < o ∨ o + cs.size ≤ i) → cur'[i]? = zs[i]?) → K (a.put op.dst undef) w') : if Region.wanted op (yielded ops a.tmps) = true then Oper.wp P op a w K Q else E := by
  rw [if_pos (show Region.wanted op (yielded ops a.tmps) = true by simp [Region.wanted, hgd])]
  obtain ⟨cur', u, k1, k2⟩ := setCells_upd g cs.toList w o zs T hg (by simpa using hsz)
  refine wp_store_mid ty x y ho g o cs hx hy (fun j hj => ?_) hi h1 (h _ cur' u (fun j hj => ?_) (fun i hi => k2 i (by simpa using hi)))
  · have hj' : o + j < zs.size := by omega
    exact ⟨by rw [blk_cell hg (Array.getElem?_eq_getElem hj')]; rfl, blk_free hg⟩
  · rw [k1 j (by simpa using hj), Array.getElem?_toList]
/-- a copy while it is written into -/
def ShC (w : World) (gc g : Nat) (bs : List BlockD) (CX : Array Value) (vs : Value) (n1 : Nat) (wr : World) : Prop :=
  Below w.heap.size w wr ∧ wr.heap[gc]? = some (.cells CX 32 (0, 0)) ∧ QB wr w.heap.size g bs ∧ ∃ l : List Bool, wr.ownsRow w.heap.size 4 1 vs n1 (l.map Value.bool)
theorem ShC.later {w : World} {gc g : Nat} {bs : List BlockD} {CX : Array Value} {vs : Value} {n1 : Nat} {wr w' : World} (h : ShC w gc g bs CX vs n1 wr) (hb : Below wr.heap.size wr w') : ShC w gc g bs CX vs n1 w' :=
  ⟨below_over h.1 hb, blk_below h.2.1 hb, h.2.2.1.later hb, by obtain ⟨l, hl⟩ := h.2.2.2; exact ⟨l, own_below hl hb⟩⟩
theorem ShC.upd {w : World} {gc g : Nat} {bs : List BlockD} {CX : Array Value} {vs : Value} {n1 : Nat} {wr w' : World} (h : ShC w gc g bs CX vs n1 wr) {b : Nat} {T : TypeId} {cur cur' : Array Value} (u : Upd wr w' b T cur cur') (hb : w.heap.size ≤ b) (h1 : T ≠ 32) (h2 : T ≠ 4)
    (hI : T = 45 → InsKeep cur cur') (hB : T = 41 → ∀ i, cur'[i * 9]? = cur[i * 9]?) : ShC w gc g bs CX vs n1 w' := by
  obtain ⟨k1, k2, k3, l, k4⟩ := h
  refine ⟨below_of_grown k1 (Nat.le_refl _) u.2.2.2 (fun j hj => by cases hj; exact hb), u.blk k2 (fun e => h1 e.symm), k3.upd u hI hB, l, k4.kept u.2.2.2 ?_⟩
  exact own_blk k4 u.1 (fun e => h2 e.symm)
theorem ShC.ins {w : World} {gc g : Nat} {bs : List BlockD} {CX : Array Value} {vs : Value} {n1 : Nat} {wr : World} (h : ShC w gc g bs CX vs n1 wr) {i : Nat} {b : BlockD} {vi : Value} (hb : bs[i]? = some b) (hc : wr.cell? ⟨g, i * 9, none⟩ = some vi) : QI wr w.heap.size vi b.ins.length := by
  obtain ⟨cur, h1, h2, h3, h4⟩ := h.2.2.1
  obtain ⟨vi', f1, f2⟩ := h4 i b hb
  have := blk_cell h2 f1
  rw [hc] at this
  rw [Option.some.inj this]; exact f2
theorem QI.args {wr : World} {B gi m c n : Nat} (h : QI wr B (.slice (some ⟨gi, 0, none⟩) m c) n) {q : Nat} {va : Value} (hq : q < n) (hc : wr.cell? ⟨gi, q * 12 + 11, none⟩ = some va) : QA wr B va := by
  obtain ⟨A, c', h1, _, _, h4⟩ := h
  simp only [Value.slice.injEq] at h1
  rcases h4 with h4 | ⟨g, cur, e1, e2, e3, e4, e5⟩
  · omega
  · rw [e1] at h1
    obtain ⟨h5, _, _⟩ := h1
    obtain rfl : gi = g := by simpa using h5
    obtain ⟨va', f1, f2⟩ := e5 q hq
    have := blk_cell e3 f1
    rw [hc] at this
    rw [Option.some.inj this]; exact f2
/-- the list of what is secret is written into -/
theorem ShC.setB {w : World} {gc g gs c n1 j : Nat} {bs : List BlockD} {CX : Array Value} {wr : World} (h : ShC w gc g bs CX (.slice (some ⟨gs, 0, none⟩) n1 c) n1 wr) (x : Bool) : ShC w gc g bs CX (.slice (some ⟨gs, 0, none⟩) n1 c) n1 (wr.setCell ⟨gs, j, none⟩ (.bool x)) := by
  obtain ⟨k1, k2, k3, l, k4⟩ := h
  obtain ⟨s1, s2⟩ := World.ownsRow.stored k4 j (.bool x)
  rcases own_cells k4 with ⟨e, _⟩ | ⟨g2, cap2, cur, e, q1, q2, _⟩
  · cases e
  · simp only [Value.slice.injEq] at e
    obtain ⟨e1, _, _⟩ := e
    obtain rfl : gs = g2 := by simpa using e1
    have u : Upd wr (wr.setCell ⟨gs, j, none⟩ (.bool x)) gs 4 cur (cur.setIfInBounds j (.bool x)) := ⟨q2, blk_setCell q2 _, by simp, s2⟩
    exact ⟨below_set k1 _ _ _ q1, u.blk k2 (by decide), k3.upd u (fun e => absurd e (by decide)) (fun e => absurd e (by decide)), l.set j x, by rw [List.map_set]; exact s1⟩
theorem SlR.map' {α β : Type} {w : World} {C : Nat} {R : List Value → α → Prop} {R' : List Value → β → Prop} {v : Value} {xs : List α} (f : α → β) (h : SlR w C R v xs) (hi : ∀ cs x, R cs x → R' cs (f x)) : SlR w C R' v (xs.map f) := by
  obtain ⟨A, cap, rfl, h2, h3, h4⟩ := h
  refine ⟨A, cap, by rw [List.length_map], by rw [List.length_map]; exact h2, h3, fun i y hy => ?_⟩
  rw [List.getElem?_map] at hy
  cases hx : xs[i]? with
  | none => rw [hx] at hy; cases hy
  | some x =>
    rw [hx] at hy
    obtain rfl := Option.some.inj hy
    obtain ⟨b, o, cs, e1, e2, e3, e4⟩ := h4 i x hx
    exact ⟨b, o, cs, e1, e2, e3, hi _ _ e4⟩
def lensF (f : FuncD) : List Nat := f.blocks.map fun b => b.ins.length
theorem szF_of {w : World} {cs : List Value} {f : FuncD} (h : FuncR w cs f) : SzF w cs (lensF f) := by
  obtain ⟨vs, vl, vb, rfl, _, _, h1, _, _, h2, _, h3, _⟩ := h
  obtain ⟨A1, c1, rfl, _⟩ := h1
  obtain ⟨A2, c2, rfl, _⟩ := h2
  refine ⟨_, _, _, A1, A2, _, c1, _, c2, vb, rfl, h3.map' _ (fun cs b hb => ?_)⟩
  obtain ⟨vi, rfl, hs, _⟩ := hb
  obtain ⟨A3, c3, rfl, _⟩ := hs
  exact ⟨A3, c3, _, _, _, _, _, _, _, _, rfl⟩
theorem szF_fx {w : World} {cs : List Value} {f : FuncD} (h : FX w cs f) : SzF w cs (lensF f) := by
  obtain ⟨A1, A2, n1, c1, n2, c2, g, cap, rfl, k1, k2, cur, k3, k4⟩ := h
  refine ⟨_, _, _, A1, A2, n1, c1, n2, c2, _, rfl, ?_⟩
  refine ⟨some ⟨g, 0, none⟩, cap, by rw [lensF, List.length_map], by rw [lensF, List.length_map]; exact k1, k2, fun i y hy => ?_⟩
  rw [lensF, List.getElem?_map] at hy
  cases hx : f.blocks[i]? with
  | none => rw [hx] at hy; cases hy
  | some b =>
    rw [hx] at hy
    obtain rfl := Option.some.inj hy
    obtain ⟨A, c, f1⟩ := k4 i b hx
    refine ⟨g, 0, blkL b (.slice A b.ins.length c), rfl, rfl, fun j hj => ?_, A, c, b.term.kind, b.term.op, b.term.a.reg, b.term.a.num, b.term.b.reg, b.term.b.num, b.term.to_, b.term.els, rfl⟩
    rw [Nat.zero_add]
    have := f1 j hj
    rw [List.getElem?_eq_getElem (show j < (blkL b (.slice A b.ins.length c)).length from hj)] at this ⊢
    exact blk_cell k3 this
theorem RowQ.size {w : World} {B : Nat} {v : Value} {fs : List FuncD} {css : List (List Value)} (h : RowQ w B v fs css) : SlR w 6 (SzF w) v (fs.map lensF) := by
  have := row_slR (w' := w) (R := FX w) h.1 h.2.1 h.2.2.1 h.2.2.2 (fun _ _ => rfl)
  exact this.map' _ (fun cs f hf => szF_fx hf)
theorem RowQ.slX {w : World} {B : Nat} {v : Value} {fs : List FuncD} {css : List (List Value)} (h : RowQ w B v fs css) : SlR w 6 (FX w) v fs :=
  row_slR (w' := w) (R := FX w) h.1 h.2.1 h.2.2.1 h.2.2.2 (fun _ _ => rfl)
theorem n_any (w : World) (n : Int) (h : In64 n) : Calls Tryd.prog 8 #[.int .i64 n] w fun e w' => e = .returned (.agg #[.int .i64 (-1), .int .i64 n]) ∧ Below w.heap.size w w' := by
  go_enter Tryd.func8, Tryd.ntmps8
  go_wp2_with fail
  go_returns
  exact ⟨rfl, below_alloc _ (Below.refl _ _)⟩
end Go.Proofs.YtdaildpfkchbhaaDoor
