/- read.Link: an image in memory. No condition. -/
import Derived.Test.YtamejgfmfneppaaDoorLkM
import Derived.Test.YtamejgfmfneppaaDoorOc
import Derived.Deep.AppendSrc
import Derived.Deep.Upon
namespace Go.Proofs.YtamejgfmfneppaaDoor
open Go.RowKit
set_option linter.unusedVariables false
set_option maxHeartbeats 4000000
set_option maxRecDepth 100000
theorem step_append_run2 {P : Program} {ops : Array Oper} {o : Oper} {a : Act} {w : World} {K : Act → World → Prop} {Q : Exit → Act → World → Prop} {E : Prop} (hg : o.guard = none) (s x : Operand) (t t2 : TypeId)
    (hop : o.op = .call { callee := .builtin .append, args := #[s, x], argTypes := #[t, t2] }) (v u v' : Value) (w' : World) (hs : a.eval s = v) (hx : a.eval x = u)
    (hr : (Builtin.append_ #[t, t2] o.type #[v, u]).run P w = .ok v' w') (hK : K (a.put o.dst v') w') : if Region.wanted o (yielded ops a.tmps) = true then Oper.wp P o a w K Q else E := by
  have hw : Region.wanted o (yielded ops a.tmps) = true := by simp [Region.wanted, hg]
  rw [if_pos hw]
  unfold Oper.wp execOp
  simp only [hop, resolve, invoke, builtin, Sem.run_bind, Sem.run_pure, Result.andThen_ok, List.map_toArray, List.map_cons, List.map_nil, hs, hx, hr]
  exact hK
theorem info_partsK {P : Program} {T : TypeId} {C B : Nat} (h : (P.info? T).map (fun i => (i.zero.map (·.cells.size), i.size, i.bytes)) = some (some C, C, B)) : ∃ i z, P.info? T = some i ∧ i.zero = some z ∧ z.cells.size = C ∧ i.size = C ∧ i.bytes = B := by
  obtain ⟨i, h1, h2⟩ := Option.map_eq_some_iff.1 h
  simp only [Prod.mk.injEq] at h2
  obtain ⟨h3, h4, h5⟩ := h2
  obtain ⟨z, h6, h7⟩ := Option.map_eq_some_iff.1 h3
  exact ⟨i, z, h1, h6, h7, h4, h5⟩
/-- all that is no block of T stays -/
def KpT (T : TypeId) (w w' : World) : Prop := w.heap.size ≤ w'.heap.size ∧ ∀ (b : Nat) (o : Obj), w.heap[b]? = some o → (∀ cs fr, o ≠ .cells cs T fr) → w'.heap[b]? = some o
section
variable {w w' w2 : World} {T T2 : TypeId}
theorem KpT.cells (h : KpT T w w') {b : Nat} {cs : Array Value} {fr : Nat × Nat} (hb : w.heap[b]? = some (.cells cs T2 fr)) (hT : T2 ≠ T) : w'.heap[b]? = some (.cells cs T2 fr) := h.2 b _ hb (fun cs' fr' e => by cases e; exact hT rfl)
theorem KpT.map (h : KpT T w w') {b c : Nat} {es : Array MapEntry} (hb : w.heap[b]? = some (.map es c)) : w'.heap[b]? = some (.map es c) := h.2 b _ hb (fun cs' fr' e => by cases e)
theorem kpT_below (h : Below w.heap.size w w') : KpT T w w' := ⟨h.size, fun b o hb _ => (h.block b (Array.getElem?_eq_some_iff.1 hb).1).trans hb⟩
theorem KpT.trans (h : KpT T w w') (h2 : KpT T w' w2) : KpT T w w2 := ⟨Nat.le_trans h.1 h2.1, fun b o hb ho => h2.2 b o (h.2 b o hb ho) ho⟩
theorem kpT_grown {B C n : Nat} {v : Value} {xs : List Value} (h : w.ownsRow B T C v n xs) (hg : w.grownBy w' v.ownBlock) : KpT T w w' := by
  refine ⟨hg.size, fun b o hb ho => ?_⟩
  refine (hg.block b (Array.getElem?_eq_some_iff.1 hb).1 (fun e => ?_)).trans hb
  rcases h.2 with ⟨rfl, e2⟩ | ⟨g', cap, cur, rfl, k1, k2, _⟩
  · simp [Value.ownBlock] at e
  · simp only [Value.ownBlock, Option.some.injEq] at e
    subst e
    rw [k2] at hb
    cases hb
    exact ho _ _ rfl
theorem KpT.own (h : KpT T w w') {B C n : Nat} {v : Value} {xs : List Value} (hr : w.ownsRow B T2 C v n xs) (hT : T2 ≠ T) : w'.ownsRow B T2 C v n xs := by
  obtain ⟨h1, h2⟩ := hr
  refine ⟨h1, ?_⟩
  rcases h2 with h2 | ⟨g', cap, cur, e, k1, k2, k3⟩
  · exact Or.inl h2
  · exact Or.inr ⟨g', cap, cur, e, k1, h.cells k2 hT, k3⟩
theorem LkM.kept {w0 : World} {gk gp gc : Nat} {ps cs : Plc} (h : LkM w0 w gk gp gc ps cs) (hk : KpT T w w') (hT : 55 ≠ T) (hb : Below w0.heap.size w0 w') : LkM w0 w' gk gp gc ps cs := by
  obtain ⟨e1, c1, p1, p2⟩ := h.pm
  obtain ⟨e2, c2, q1, q2⟩ := h.cm
  exact ⟨hk.cells h.box hT, ⟨e1, c1, hk.map p1, p2⟩, ⟨e2, c2, hk.map q1, q2⟩, h.ne, h.ok, h.op, h.oc, hb⟩
end
/-- an instruction's cells -/
def insV (x : XInsD) : List Value := [.int .i64 x.op, .int .i64 x.dst, .int .i64 x.src, .int .i64 x.imm, .int .i64 x.size, .bool x.signed, .int .i64 x.cond, .string x.to_]
def RowX (w : World) (B : Nat) (v : Value) (xs : List XInsD) : Prop := w.ownsRow B 28 8 v xs.length (xs.map insV).flatten
def RowS (w : World) (B : Nat) (v : Value) (ss : List Bool) : Prop := w.ownsRow B 4 1 v ss.length (ss.map Value.bool)
theorem RowX.push {w : World} {B : Nat} {v : Value} {xs : List XInsD} (h : RowX w B v xs) (hB : B ≤ w.heap.size) (x : XInsD) (g : Nat) (hg : g = w.heap.size) (hl : xs.length ≤ 1000000000) :
    ∃ v' w', (Builtin.append_ #[40, 40] 40 #[v, .slice (some ⟨g, 0, none⟩) 1 1]).run Tryd.prog (w.alloc (.cells #[.int .i64 x.op, .int .i64 x.dst, .int .i64 x.src, .int .i64 x.imm, .int .i64 x.size, .bool x.signed, .int .i64 x.cond, .string x.to_] 28)) = .ok v' w' ∧ RowX w' B v' (xs ++ [x]) ∧ Below B w w' ∧ KpT 28 w w' ∧ w.grownBy w' v.ownBlock := by
  obtain ⟨i0, z0, q1, q2, q3, q4, q5⟩ := info_partsK (C := 8) (B := 72) (show (Tryd.prog.info? 28).map (fun i => (i.zero.map (·.cells.size), i.size, i.bytes)) = some (some 8, 8, 72) by kernel_rfl)
  obtain ⟨v', w', r1, r2, r3, r4⟩ := append_oneC (P := Tryd.prog) B 40 28 i0 z0 8 72 Tryd.underlying40 q1 q2 q4 q5 q3 (by decide) v xs.length _ h #[.int .i64 x.op, .int .i64 x.dst, .int .i64 x.src, .int .i64 x.imm, .int .i64 x.size, .bool x.signed, .int .i64 x.cond, .string x.to_] rfl g hg (fun u hu => by
    simp only [List.mem_cons, List.not_mem_nil, or_false] at hu
    rcases hu with e | e | e | e | e | e | e | e <;> subst e <;> rfl) (by unfold maxLen; omega) (by omega) hB
  refine ⟨v', w', r1, ?_, below_of_grown (Below.refl _ _) hB r3 (fun k hk => ?_), kpT_grown h r3, r3⟩
  · unfold RowX
    rw [List.length_append, List.map_append, List.flatten_append]
    simpa [insV] using r2
  · rcases h.2 with ⟨rfl, e2⟩ | ⟨g', cap, cur, rfl, k1, k2, _⟩
    · simp [Value.ownBlock] at hk
    · simp only [Value.ownBlock, Option.some.injEq] at hk
      omega
theorem RowS.push {w : World} {B : Nat} {v : Value} {xs : List Bool} (h : RowS w B v xs) (hB : B ≤ w.heap.size) (x : Bool) (g : Nat) (hg : g = w.heap.size) (hl : xs.length ≤ 1000000000) :
    ∃ v' w', (Builtin.append_ #[41, 41] 41 #[v, .slice (some ⟨g, 0, none⟩) 1 1]).run Tryd.prog (w.alloc (.cells #[.bool x] 4)) = .ok v' w' ∧ RowS w' B v' (xs ++ [x]) ∧ Below B w w' ∧ KpT 4 w w' := by
  obtain ⟨i0, z0, q1, q2, q3, q4, q5⟩ := info_partsK (C := 1) (B := 1) (show (Tryd.prog.info? 4).map (fun i => (i.zero.map (·.cells.size), i.size, i.bytes)) = some (some 1, 1, 1) by kernel_rfl)
  obtain ⟨v', w', r1, r2, r3, r4⟩ := append_oneC (P := Tryd.prog) B 41 4 i0 z0 1 1 Tryd.underlying41 q1 q2 q4 q5 q3 (by decide) v xs.length _ h #[.bool x] rfl g hg (fun u hu => by
    simp only [List.mem_cons, List.not_mem_nil, or_false] at hu
    subst hu; rfl) (by unfold maxLen; omega) (by omega) hB
  refine ⟨v', w', r1, ?_, below_of_grown (Below.refl _ _) hB r3 (fun k hk => ?_), kpT_grown h r3⟩
  · unfold RowS
    rw [List.length_append, List.map_append]
    simpa using r2
  · rcases h.2 with ⟨rfl, e2⟩ | ⟨g', cap, cur, rfl, k1, k2, _⟩
    · simp [Value.ownBlock] at hk
    · simp only [Value.ownBlock, Option.some.injEq] at hk
      omega
theorem flat_at : ∀ (xs : List XInsD) (i : Nat) (x : XInsD), xs[i]? = some x → (xs.map insV).flatten[i * 8]? = some (.int .i64 x.op)
  | [], i, x, h => by simp at h
  | y :: xs, 0, x, h => by
    simp only [List.getElem?_cons_zero, Option.some.injEq] at h
    subst h
    simp [insV]
  | y :: xs, i + 1, x, h => by
    simp only [List.getElem?_cons_succ] at h
    have h2 := flat_at xs i x h
    rw [List.map_cons, List.flatten_cons, List.getElem?_append_right (by simp [insV]; omega)]
    rw [show (i + 1) * 8 - (insV y).length = i * 8 by simp [insV]; omega]
    exact h2
/-- the last instruction's operation, in memory -/
theorem RowX.last {w : World} {B cap k : Nat} {A : Option Addr} {xs : List XInsD} {l : XInsD} (h : RowX w B (.slice A (k + 1) cap) xs) (hn : xs.length = k + 1) (hl : xs[k]? = some l) : ∃ g, A = some ⟨g, 0, none⟩ ∧ w.cell? ⟨g, k * 8, none⟩ = some (.int .i64 l.op) ∧ k + 1 ≤ cap := by
  obtain ⟨g, c, e, h1, h2, h3, h4⟩ := own_form h (by omega)
  simp only [Value.slice.injEq] at e
  obtain ⟨rfl, e2, rfl⟩ := e
  refine ⟨g, rfl, ?_, by omega⟩
  unfold RowX at h
  rw [hn] at h
  rw [World.ownsRow.cellAt h (k * 8) (by omega)]
  exact flat_at xs k l hl
theorem lastCall_at {xs : List XInsD} {k : Nat} {l : XInsD} (hn : xs.length = k + 1) (hl : xs[k]? = some l) : lastCall xs = callsB l.op := by
  unfold lastCall
  rw [List.getLast?_eq_getElem?, hn, Nat.add_sub_cancel, hl]
theorem RowX.slice {w : World} {B : Nat} {v : Value} {xs : List XInsD} (h : RowX w B v xs) : ∃ A cap, v = .slice A xs.length cap := let ⟨A, cap, e, _⟩ := own_slice h; ⟨A, cap, e⟩
theorem RowS.slice {w : World} {B : Nat} {v : Value} {xs : List Bool} (h : RowS w B v xs) : ∃ A cap, v = .slice A xs.length cap := let ⟨A, cap, e, _⟩ := own_slice h; ⟨A, cap, e⟩
/-- the image's bytes: room for N of them -/
def DatB (w : World) (g N : Nat) : Prop := ∃ cs, w.heap[g]? = some (.cells cs 5 (0, 0)) ∧ cs.size = N
theorem setCells_blk {P : Program} {g : Nat} {T : TypeId} {fr : Nat × Nat} : ∀ (vs : List Value) (w : World) (o : Nat) (cs : Array Value), w.heap[g]? = some (.cells cs T fr) → ∃ cs', (w.setCells g o vs).heap[g]? = some (.cells cs' T fr) ∧ cs'.size = cs.size
  | [], w, o, cs, h => ⟨cs, h, rfl⟩
  | v :: r, w, o, cs, h => by
    obtain ⟨cs', h1, h2⟩ := setCells_blk (P := P) r (w.setCell ⟨g, o, none⟩ v) (o + 1) _ (blk_setCell h v)
    exact ⟨cs', h1, by simpa using h2⟩
theorem setCells_grown (g : Nat) : ∀ (vs : List Value) (w : World) (o : Nat), w.grownBy (w.setCells g o vs) (some g)
  | [], w, o => ⟨rfl, rfl, rfl, Nat.le_refl _, fun _ _ _ => rfl⟩
  | v :: r, w, o => grown_trans (w1 := w.setCell ⟨g, o, none⟩ v) ⟨rfl, rfl, rfl, by simp, fun k _ hk => Below.heap_setCell _ _ _ k (fun e => hk (by rw [e]))⟩ (setCells_grown g r (w.setCell ⟨g, o, none⟩ v) (o + 1))
theorem zeros_run {w : World} {g N y m : Nat} (h : DatB w g N) (hr : y + m ≤ N) (hN : N ≤ 1000000) :
    ∃ w', (Builtin.append_ #[23, 3] 23 #[.slice (some ⟨g, 0, none⟩) y N, .int .i64 (m : Int)]).run Tryd.prog w = .ok (.slice (some ⟨g, 0, none⟩) (y + m) N) w' ∧ DatB w' g N ∧ w.grownBy w' (some g) := by
  obtain ⟨cs, hb, hs⟩ := h
  obtain ⟨i0, z0, q1, q2, q3, q4, q5⟩ := info_partsK (C := 1) (B := 1) (show (Tryd.prog.info? 5).map (fun i => (i.zero.map (·.cells.size), i.size, i.bytes)) = some (some 1, 1, 1) by kernel_rfl)
  have hz : (Tryd.prog.info? 5).bind (·.zero) = some (.int .u8 0) := by kernel_rfl
  rw [q1] at hz
  have hz2 : i0.zero = some (.int .u8 0) := hz
  have hu1 := Tryd.underlying23
  have hu2 := Tryd.underlying3
  obtain ⟨news, hn, hnl, hone⟩ : ∃ news : List Value, (Builtin.zeroCells (Value.int .u8 0).cells m) = news.toArray ∧ news.length = m ∧ ∀ u ∈ news, u.oneCell' = true := by
    refine ⟨(Builtin.zeroCells (Value.int .u8 0).cells m).toList, by simp, by simp [Builtin.zeroCells, Value.cells], fun u hu => ?_⟩
    simp [Builtin.zeroCells, Value.cells] at hu
    obtain ⟨i, _, rfl⟩ := hu
    have e : i % 1 = 0 := Nat.mod_one i
    simp [Nat.mod_one]
    rfl
  have hst := run_storeCells_cells (P := Tryd.prog) g y news 0 w (fun j hj => by
      have hj2 : y + j < cs.size := by omega
      have := blk_cell hb (Array.getElem?_eq_getElem hj2)
      simp only [Nat.add_zero] at this ⊢
      rw [this]; rfl) (fun j hj => blk_free hb) hone
  have hw : IntKind.i64.wrap (m : Int) = m := by rw [IntKind.wrap_i64]; omega
  have hneg : ¬ ((m : Int) < 0) := by omega
  have h48 : ¬ (281474976710656 < (m : Int)) := by omega
  refine ⟨w.setCells g y news, ?_, ?_, ?_⟩
  · simp only [Nat.add_zero] at hst
    simp [Builtin.append_, run_underlying hu1, run_underlying hu2, sizeOf, typeInfo, zeroValue, q1, hz2, q4, q5, asInt, asIntOf, hw, hneg, h48, hr, Addr.add_lit]
    by_cases h0 : m = 0
    · have e : news = [] := List.eq_nil_of_length_eq_zero (by omega)
      subst e
      rw [if_pos h0, hst]; rfl
    · rw [if_neg h0, hn, hst]; rfl
  · obtain ⟨cs', h1, h2⟩ := setCells_blk (P := Tryd.prog) news w y cs hb
    exact ⟨cs', h1, by omega⟩
  · exact setCells_grown g news w y
end Go.Proofs.YtamejgfmfneppaaDoor
