/- ReadPlaces: the law's memory. No condition. -/
import Derived.Test.YtamejgfmfneppaaDoorLkI
import Derived.Test.YtamejgfmfneppaaDoorLkE
namespace Go.Proofs.YtamejgfmfneppaaDoor
open Go.RowKit
set_option linter.unusedVariables false
set_option maxHeartbeats 4000000
set_option maxRecDepth 100000
theorem wpList_append_rn {P : Program} (w : World) {ops : Array Oper} {rest : List Oper} {o : Oper} {a : Act} {Q : Exit → Act → World → Prop} (hgd : o.guard = none) (s x : Operand) (t : TypeId)
    (ho : o.op = .call { callee := .builtin .append, args := #[s, x], argTypes := #[t, t] }) (v u v' : Value) (w' : World) (hs : a.eval s = v) (hx : a.eval x = u)
    (hr : (Builtin.append_ #[t, t] o.type #[v, u]).run P w = .ok v' w') (h : wpList P ops Q rest (a.put o.dst v') w') : wpList P ops Q (o :: rest) a w :=
  wpList_plain hgd fun _ hK => by
    unfold Oper.wp execOp
    simp only [ho, resolve, invoke, builtin, Sem.run_bind, Sem.run_pure, Result.andThen_ok, List.map_toArray, List.map_cons, List.map_nil, hs, hx, hr]
    exact hK _ _ h
def itemV (x : XItemD) : List Value := [.string x.label, .int .i64 x.ins.op, .int .i64 x.ins.dst, .int .i64 x.ins.src, .int .i64 x.ins.imm, .int .i64 x.ins.size, .bool x.ins.signed, .int .i64 x.ins.cond, .string x.ins.to_]
def RowI (w : World) (B : Nat) (v : Value) (xs : List XItemD) : Prop := w.ownsRow B 30 9 v xs.length (xs.map itemV).flatten
theorem RowI.slice {w : World} {B : Nat} {v : Value} {xs : List XItemD} (h : RowI w B v xs) : ∃ A cap, v = .slice A xs.length cap := let ⟨A, cap, e, _⟩ := own_slice h; ⟨A, cap, e⟩
theorem flatI_len : ∀ (xs : List XItemD), (xs.map itemV).flatten.length = xs.length * 9
  | [] => rfl
  | x :: xs => by
    rw [List.map_cons, List.flatten_cons, List.length_append, flatI_len xs, List.length_cons, Nat.add_mul]
    show 9 + _ = _
    omega
theorem flatI_one (xs : List XItemD) (u : Value) (hu : u ∈ (xs.map itemV).flatten) : u.oneCell' = true := by
  obtain ⟨l, h1, h2⟩ := List.mem_flatten.1 hu
  obtain ⟨x, _, rfl⟩ := List.mem_map.1 h1
  simp only [itemV, List.mem_cons, List.not_mem_nil, or_false] at h2
  rcases h2 with e | e | e | e | e | e | e | e | e <;> subst e <;> rfl
theorem flatI_at : ∀ (xs : List XItemD) (i j : Nat) (x : XItemD), xs[i]? = some x → j < 9 → (xs.map itemV).flatten[i * 9 + j]? = (itemV x)[j]?
  | [], i, j, x, h, _ => by simp at h
  | y :: xs, 0, j, x, h, hj => by
    simp only [List.getElem?_cons_zero, Option.some.injEq] at h
    subst h
    rw [Nat.zero_mul, Nat.zero_add, List.map_cons, List.flatten_cons, List.getElem?_append_left (by show j < 9; exact hj)]
  | y :: xs, i + 1, j, x, h, hj => by
    simp only [List.getElem?_cons_succ] at h
    have h2 := flatI_at xs i j x h hj
    rw [List.map_cons, List.flatten_cons, List.getElem?_append_right (by show 9 ≤ _; omega)]
    rw [show (i + 1) * 9 + j - (itemV y).length = i * 9 + j by show (i + 1) * 9 + j - 9 = _; omega]
    exact h2
theorem RowI.app {w : World} {B : Nat} {v : Value} {xs : List XItemD} (h : RowI w B v xs) (hB : B ≤ w.heap.size) (ys : List XItemD) {g m c : Nat} {cz : Array Value} {fr : Nat × Nat} (hg : w.heap[g]? = some (.cells cz 30 fr)) (hz : cz.toList = (ys.map itemV).flatten) (hm : m = ys.length) (hl : xs.length + ys.length ≤ 1000000) :
    ∃ v' w', (Builtin.append_ #[31, 31] 31 #[v, .slice (some ⟨g, 0, none⟩) m c]).run Tryd.prog w = .ok v' w' ∧ RowI w' B v' (xs ++ ys) ∧ w.grownBy w' v.ownBlock ∧ Moved w v v' ∧ Below B w w' ∧ KpT 30 w w' := by
  subst hm
  obtain ⟨i0, z0, q1, q2, q3, q4, q5⟩ := info_partsK (C := 9) (B := 88) (show (Tryd.prog.info? 30).map (fun i => (i.zero.map (·.cells.size), i.size, i.bytes)) = some (some 9, 9, 88) by kernel_rfl)
  obtain ⟨v', w', r1, r2, r3, r4⟩ := append_rowC (P := Tryd.prog) B 31 31 30 i0 z0 9 88 Tryd.underlying31 q1 q2 q4 q5 q3 (by decide) v xs.length _ h ⟨g, 0, none⟩ ys.length c (ys.map itemV).flatten (flatI_len ys)
    (fun j u hj => by
      rw [Addr.add_lit, Nat.zero_add]
      refine blk_cell hg ?_
      rw [← Array.getElem?_toList, hz]; exact hj)
    (flatI_one ys) (by unfold maxLen; omega) (by omega) hB
  refine ⟨v', w', r1, ?_, r3, r4, below_of_grown (Below.refl _ _) hB r3 (fun k hk => ?_), kpT_grown h r3⟩
  · unfold RowI
    rw [List.length_append, List.map_append, List.flatten_append]
    exact r2
  · rcases h.2 with ⟨rfl, e2⟩ | ⟨g', cap, cur, rfl, k1, k2, _⟩
    · simp [Value.ownBlock] at hk
    · simp only [Value.ownBlock, Option.some.injEq] at hk
      omega
/-- an item as one that could have come in -/
def ItIn (x : XItemD) : Prop := x.label.size ≤ maxLen ∧ In64 x.ins.op ∧ In64 x.ins.dst ∧ In64 x.ins.src ∧ In64 x.ins.imm ∧ In64 x.ins.size ∧ In64 x.ins.cond ∧ x.ins.to_.size ≤ maxLen
theorem RowI.slR {w : World} {B : Nat} {v : Value} {xs : List XItemD} (h : RowI w B v xs) (hi : ∀ x ∈ xs, ItIn x) : SlR w 9 XItemR v xs := by
  by_cases h0 : xs = []
  · subst h0
    rcases h.2 with ⟨rfl, _⟩ | ⟨g', cap, cur, rfl, k1, k2, k3, k4, _⟩
    · exact ⟨none, 0, rfl, Nat.le_refl _, by unfold maxLen; omega, fun i x hx => by simp at hx⟩
    · exact ⟨_, cap, rfl, k3, k4, fun i x hx => by simp at hx⟩
  · have hp : 0 < xs.length := List.length_pos_iff.2 h0
    obtain ⟨g, cap, e, h1, h2, h3, h4⟩ := own_form h hp
    subst e
    refine ⟨_, cap, rfl, h1, h2, fun i x hx => ⟨g, 0, itemV x, rfl, rfl, fun j hj => ?_, ?_⟩⟩
    · have hlt := (List.getElem?_eq_some_iff.1 hx).1
      rw [Nat.zero_add, World.ownsRow.cellAt h (i * 9 + j) (by omega)]
      exact flatI_at xs i j x hx hj
    · exact ⟨rfl, hi x (List.mem_of_getElem? hx)⟩
def datC (n : Nat) : Array Value := #[.int .i64 5, .string bz, .slice none 0 0, .int .i64 n, .int .i64 0, .string gxB, .slice none 0 0, .int .i64 0, .int .i64 5, .string bz, .slice none 0 0, .int .i64 3, .int .i64 0, .string gyB, .slice none 0 0, .int .i64 0]
def rowXC : Array Value := ⟨(rowX.map itemV).flatten⟩
theorem dat_slR {w : World} {g n : Nat} (hn : n < 50) (h : w.heap[g]? = some (.cells (datC n) 25 (0, 0))) : SlR w 4 (XDatumR w) (.slice (some ⟨g, 0, none⟩) 4 4) (dataB n) := by
  refine ⟨_, 4, rfl, Nat.le_refl _, by unfold maxLen; omega, fun i x hx => ?_⟩
  have hnil : SlR w 1 ByteR (.slice none 0 0) ([] : List Int) := ⟨none, 0, rfl, Nat.le_refl _, by unfold maxLen; omega, fun i x hx => by simp at hx⟩
  have key : ∀ (d : XDatumD) (i : Nat), (∀ j, j < 4 → (datC n)[i * 4 + j]? = [Value.int .i64 d.kind, .string d.name, .slice none 0 0, .int .i64 d.n][j]?) → d.data = [] → In64 d.kind → d.name.size ≤ maxLen → In64 d.n → ∃ b o cs, some (⟨g, 0, none⟩ : Addr) = some ⟨b, o, none⟩ ∧ cs.length = 4 ∧ (∀ j, j < 4 → w.cell? ⟨b, o + i * 4 + j, none⟩ = cs[j]?) ∧ XDatumR w cs d := by
    intro d i h1 h2 h3 h4 h5
    refine ⟨g, 0, [Value.int .i64 d.kind, .string d.name, .slice none 0 0, .int .i64 d.n], rfl, rfl, fun j hj => ?_, .slice none 0 0, rfl, h3, h4, by rw [h2]; exact hnil, by rw [h2]; simp, h5⟩
    have e := h1 j hj
    have hj4 : ∃ u, [Value.int .i64 d.kind, .string d.name, .slice none 0 0, .int .i64 d.n][j]? = some u := ⟨_, List.getElem?_eq_getElem hj⟩
    obtain ⟨u, hu⟩ := hj4
    rw [hu] at e ⊢
    rw [Nat.zero_add]
    exact blk_cell h e
  have hb : bz.size ≤ maxLen := by unfold maxLen; decide
  have hgx : gxB.size ≤ maxLen := by unfold maxLen; decide
  have hgy : gyB.size ≤ maxLen := by unfold maxLen; decide
  match i, hx with
  | 0, hx =>
    simp only [dataB, List.getElem?_cons_zero, Option.some.injEq] at hx
    subst hx
    exact key _ 0 (fun j hj => by match j, hj with | 0, _ => rfl | 1, _ => rfl | 2, _ => rfl | 3, _ => rfl) rfl (by unfold In64; simp only; omega) hb (by unfold In64; simp only; omega)
  | 1, hx =>
    simp only [dataB, List.getElem?_cons_succ, List.getElem?_cons_zero, Option.some.injEq] at hx
    subst hx
    exact key _ 1 (fun j hj => by match j, hj with | 0, _ => rfl | 1, _ => rfl | 2, _ => rfl | 3, _ => rfl) rfl (by unfold In64; decide) hgx (by unfold In64; decide)
  | 2, hx =>
    simp only [dataB, List.getElem?_cons_succ, List.getElem?_cons_zero, Option.some.injEq] at hx
    subst hx
    exact key _ 2 (fun j hj => by match j, hj with | 0, _ => rfl | 1, _ => rfl | 2, _ => rfl | 3, _ => rfl) rfl (by unfold In64; decide) hb (by unfold In64; decide)
  | 3, hx =>
    simp only [dataB, List.getElem?_cons_succ, List.getElem?_cons_zero, Option.some.injEq] at hx
    subst hx
    exact key _ 3 (fun j hj => by match j, hj with | 0, _ => rfl | 1, _ => rfl | 2, _ => rfl | 3, _ => rfl) rfl (by unfold In64; decide) hgy (by unfold In64; decide)
  | i + 4, hx => simp [dataB] at hx
/-- the law's program in memory -/
structure LawM (w0 w : World) (gP gD gX n : Nat) (v : Value) (xs : List XItemD) : Prop where
  px : w.heap[gP]? = some (.cells #[.slice (some ⟨gD, 0, none⟩) 4 4, v] 33 (0, 0))
  dx : w.heap[gD]? = some (.cells (datC n) 25 (0, 0))
  xx : w.heap[gX]? = some (.cells rowXC 30 (0, 0))
  row : RowI w w0.heap.size v xs
  ne : v.ownBlock ≠ some gX
  bel : Below w0.heap.size w0 w
  hp : w0.heap.size ≤ gP
section
variable {w0 w w' : World} {gP gD gX n : Nat} {v : Value} {xs : List XItemD}
theorem LawM.later (h : LawM w0 w gP gD gX n v xs) (hb : Below w.heap.size w w') : LawM w0 w' gP gD gX n v xs :=
  ⟨blk_below h.px hb, blk_below h.dx hb, blk_below h.xx hb, own_below h.row hb, h.ne, h.bel.trans (hb.mono h.bel.size), h.hp⟩
theorem LawM.app (h : LawM w0 w gP gD gX n v xs) {v' : Value} {ys : List XItemD} (hr : RowI w' w0.heap.size v' ys) (hg : w.grownBy w' v.ownBlock) (hm : Moved w v v') (hb : Below w0.heap.size w w') (hk : KpT 30 w w') :
    LawM w0 (w'.setCell ⟨gP, 1, none⟩ v') gP gD gX n v' ys := by
  have hB := h.bel.trans hb
  have hpx := hk.cells h.px (by decide)
  have kd := hk.cells h.dx (by decide)
  have kx : w'.heap[gX]? = _ := (hg.block gX (blk_lt h.xx) (fun e => h.ne e.symm)).trans h.xx
  have hs : ∀ k, k ≠ gP → (w'.setCell ⟨gP, 1, none⟩ v').heap[k]? = w'.heap[k]? := fun k hk => Below.heap_setCell _ _ _ k (fun e => hk e)
  have ht : ∀ {k : Nat} {cs : Array Value} {T : TypeId}, w'.heap[k]? = some (.cells cs T (0, 0)) → T ≠ 33 → k ≠ gP := fun {k cs T} h1 hT e => by
    subst e
    rw [hpx] at h1
    simp only [Option.some.injEq, Obj.cells.injEq] at h1
    exact hT h1.2.1.symm
  refine ⟨blk_setCell hpx v', (hs _ (ht kd (by decide))).trans kd, (hs _ (ht kx (by decide))).trans kx, ?_, fun e => ?_, ?_, h.hp⟩
  · obtain ⟨k1, k2⟩ := hr
    refine ⟨k1, ?_⟩
    rcases k2 with k2 | ⟨g', cap, cur, e, k3, k4, k5⟩
    · exact Or.inl k2
    · exact Or.inr ⟨g', cap, cur, e, k3, (hs _ (ht k4 (by decide))).trans k4, k5⟩
  · rcases hm gX e with h1 | h1
    · exact h.ne h1
    · have := blk_lt h.xx
      omega
  · exact ⟨hB.os, hB.tape, hB.output, by simpa using hB.size, fun k hk => (hs k (by have := h.hp; omega)).trans (hB.block k hk)⟩
end
end Go.Proofs.YtamejgfmfneppaaDoor
