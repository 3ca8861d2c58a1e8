/- The walk of Old: a program as the reference has it. No condition. -/
import Derived.Test.YticgaknkonolnaaRoF
namespace Go.Proofs.Yticgaknkonolnaa
open Go.RowKit
set_option linter.unusedVariables false
set_option maxHeartbeats 2000000
set_option maxRecDepth 20000
def partC (x : PartD) (v : Value) : Array Value := #[.int .i64 x.kind, v, .int .i64 x.n]
def globC (g : GlobD) (v : Value) : Array Value := #[.string g.name, .int .i64 g.at_, .int .i64 g.size, v]
def progC (p : ProgD) (v u : Value) : Array Value := #[v, u, .int .i64 p.data, .int .i64 p.main]
structure OldP (W0 w0 w : World) (bx : Obj) (p : ProgD) (k : Nat) (v : Value) (css : List (List Value)) : Prop where
  box : w.heap[w0.heap.size]? = some bx
  ob : w.heap[w0.heap.size + 1]? = some (.cells (progC p v (.slice none 0 0)) 92 (0, 0))
  row : Grow W0.heap.size (w0.heap.size + 2) 6 95 FuncR w v (p.funcs.take k) css
  below : Below w0.heap.size w0 w
structure OldQ (W0 w0 w1 w : World) (p : ProgD) (k : Nat) (v u : Value) (dss : List (List Value)) : Prop where
  ob : w.heap[w0.heap.size + 1]? = some (.cells (progC p v u) 92 (0, 0))
  foot : Foot W0.heap.size (w0.heap.size + 2) w1 w
  size : w1.heap.size ≤ w.heap.size
  row : Grow W0.heap.size w1.heap.size 4 98 GlobR w u (p.globals.take k) dss
  below : Below w0.heap.size w0 w
structure OldG (W0 w0 w : World) (g : GlobD) (k : Nat) (v : Value) (css : List (List Value)) : Prop where
  bl : w.heap[w0.heap.size + 1]? = some (.cells (globC g v) 98 (0, 0))
  row : Grow W0.heap.size (w0.heap.size + 2) 3 99 PartR w v (g.parts.take k) css
  below : Below w0.heap.size w0 w
theorem OldP.add {W0 w0 wo w2 : World} {bx : Obj} {p : ProgD} {k : Nat} {v : Value} {css : List (List Value)} {f : FuncD} {vs vl vb : Value} {hi : Nat} (h : OldP W0 w0 wo bx p k v css) (hx : p.funcs[k]? = some f) (hb : Below wo.heap.size wo w2) (hh : wo.heap.size ≤ hi) (hlt : hi ≤ w2.heap.size) (hsz : w0.heap.size ≤ wo.heap.size) (hW : W0.heap.size ≤ w0.heap.size) (hj : k ≤ 20)
    (hR : ∀ w'', Foot W0.heap.size hi w2 w'' → FuncR w'' (funcC f vs vl vb).toList f) (h1 : ∀ u ∈ (funcC f vs vl vb).toList, u.oneCell' = true) :
    ∃ v' w', (Builtin.append_ #[89, 89] 89 #[v, .slice (some ⟨w2.heap.size, 0, none⟩) 1 1]).run Try.prog (w2.alloc (.cells (funcC f vs vl vb) 95)) = .ok v' w' ∧
      w'.cell? ⟨w0.heap.size + 1, 0, none⟩ = some v ∧ w'.frozen? ⟨w0.heap.size + 1, 0, none⟩ = false ∧ w0.heap.size + 1 < w'.heap.size ∧ (∃ A m c, v' = .slice A m c) ∧ OldP W0 w0 (w'.setCell ⟨w0.heap.size + 1, 0, none⟩ v') bx p (k + 1) v' (css ++ [(funcC f vs vl vb).toList]) := by
  obtain ⟨i0, z0, q1, q2, q3, q4, q5⟩ := info_partsC (C := 6) (B := 104) (show (Try.prog.info? 95).map (fun i => (i.zero.map (·.cells.size), i.size, i.bytes)) = some (some 6, 6, 104) by kernel_rfl)
  have hl : (p.funcs.take k).length = k := by have := (List.getElem?_eq_some_iff.1 hx).1; simp; omega
  have hbo := blk_lt h.ob
  have hbs := hb.size
  obtain ⟨v', w', r1, r2, r3, r4⟩ := (h.row.later hb).add (P := Try.prog) 89 i0 z0 104 Try.underlying89 q1 q2 q4 q5 q3 (by decide) hi (by omega) (by omega) (fun k hk => by have := (h.row.lt k hk).2; omega) (funcC f vs vl vb) rfl f hR h1 _ rfl hlt (by rw [hl]; unfold maxLen; omega) (by rw [hl]; omega)
  have hne : ∀ z, z ≤ w0.heap.size + 1 → some z ≠ v.ownBlock := fun z hz e => by have := (h.row.lt _ e.symm).1; omega
  have kp : ∀ z o, z ≤ w0.heap.size + 1 → wo.heap[z]? = some o → w'.heap[z]? = some o := fun z o hz ho => by
    rw [r3.block _ (by have := blk_lt ho; omega) (hne z hz)]
    exact blk_below ho hb
  have hb1 := kp _ _ (Nat.le_refl _) h.ob
  obtain ⟨A, c, hv', _⟩ := r2.slice
  have ht : p.funcs.take (k + 1) = p.funcs.take k ++ [f] := by
    obtain ⟨hlt, e⟩ := List.getElem?_eq_some_iff.1 hx
    rw [List.take_succ_eq_append_getElem hlt, e]
  refine ⟨v', w', r1, blk_cell hb1 rfl, blk_free hb1, blk_lt hb1, ⟨_, _, _, hv'⟩, ?_, ?_, ?_, ?_⟩
  · exact blk_set (kp _ _ (by omega) h.box) (by simp) _
  · have := blk_setCell (i := 0) hb1 v'
    exact this
  · rw [ht]
    exact r2.setCell (by simp; omega) (by simp) _
  · have hr := r3.size
    have hbw0 := h.below
    refine Below.setCell ⟨r3.os.trans (hb.os.trans hbw0.os), r3.tape.trans (hb.tape.trans hbw0.tape), r3.output.trans (hb.output.trans hbw0.output), by have := hbw0.size; omega, fun k hk => ?_⟩ (by simp) _
    have hz := hbw0.size
    rw [r3.block k (by omega) (fun e => by have := (h.row.lt k e.symm).1; omega), hb.block k (by omega)]
    exact hbw0.block k hk
theorem OldG.add {W0 w0 wo : World} {g : GlobD} {k : Nat} {v : Value} {css : List (List Value)} {y : PartD} {vd : Value} (h : OldG W0 w0 wo g k v css) (hx : g.parts[k]? = some y) (h0 : Below W0.heap.size W0 wo) (hW : W0.heap.size ≤ w0.heap.size) (hj : k ≤ 50) (hd : SlR W0 1 ByteR vd y.data) (hdl : y.data.length ≤ 140737488351232) (hk : In64 y.kind ∧ In64 y.n) :
    ∃ v' w', (Builtin.append_ #[96, 96] 96 #[v, .slice (some ⟨(wo.alloc (.cells (partC y vd) 84)).heap.size, 0, none⟩) 1 1]).run Try.prog ((wo.alloc (.cells (partC y vd) 84)).alloc (.cells (partC y vd) 99)) = .ok v' w' ∧
      w'.cell? ⟨w0.heap.size + 1, 3, none⟩ = some v ∧ w'.frozen? ⟨w0.heap.size + 1, 3, none⟩ = false ∧ w0.heap.size + 1 < w'.heap.size ∧ (∃ A m c, v' = .slice A m c) ∧ OldG W0 w0 (w'.setCell ⟨w0.heap.size + 1, 3, none⟩ v') g (k + 1) v' (css ++ [(partC y vd).toList]) := by
  obtain ⟨i0, z0, q1, q2, q3, q4, q5⟩ := info_partsC (C := 3) (B := 40) (show (Try.prog.info? 99).map (fun i => (i.zero.map (·.cells.size), i.size, i.bytes)) = some (some 3, 3, 40) by kernel_rfl)
  have hl : (g.parts.take k).length = k := by have := (List.getElem?_eq_some_iff.1 hx).1; simp; omega
  have hbo := blk_lt h.bl
  have hb : Below wo.heap.size wo (wo.alloc (.cells (partC y vd) 84)) := below_alloc _ (Below.refl _ _)
  have hbs := hb.size
  have h00 := h0.size
  obtain ⟨v', w', r1, r2, r3, r4⟩ := (h.row.later hb).add (P := Try.prog) 96 i0 z0 40 Try.underlying96 q1 q2 q4 q5 q3 (by decide) wo.heap.size (by omega) (by omega) (fun k hk => (h.row.lt k hk).2) (partC y vd) rfl y
    (fun w'' hf => ⟨vd, rfl, hk.1, hd.foot (by decide) (fun b hb => by rw [hf b (Or.inl hb) (by simp; omega), Below.heap_alloc _ _ _ (by omega)]; exact h0.block b hb), hdl, hk.2⟩)
    (by
      obtain ⟨A, c, rfl, _⟩ := hd
      intro u hu
      simp only [partC, List.mem_cons, List.not_mem_nil, or_false] at hu
      rcases hu with h | h | h <;> (subst h; rfl)) _ rfl hbs (by rw [hl]; unfold maxLen; omega) (by rw [hl]; omega)
  have hne : ∀ z, z ≤ w0.heap.size + 1 → some z ≠ v.ownBlock := fun z hz e => by have := (h.row.lt _ e.symm).1; omega
  have kp : ∀ z o, z ≤ w0.heap.size + 1 → wo.heap[z]? = some o → w'.heap[z]? = some o := fun z o hz ho => by
    rw [r3.block _ (by have := blk_lt ho; omega) (hne z hz)]
    exact blk_below ho hb
  have hb1 := kp _ _ (Nat.le_refl _) h.bl
  obtain ⟨A, c, hv', _⟩ := r2.slice
  have ht : g.parts.take (k + 1) = g.parts.take k ++ [y] := by
    obtain ⟨hlt, e⟩ := List.getElem?_eq_some_iff.1 hx
    rw [List.take_succ_eq_append_getElem hlt, e]
  refine ⟨v', w', r1, blk_cell hb1 rfl, blk_free hb1, blk_lt hb1, ⟨_, _, _, hv'⟩, ?_, ?_, ?_⟩
  · have := blk_setCell (i := 3) hb1 v'
    exact this
  · rw [ht]
    exact r2.setCell (by simp; omega) (by simp) _
  · have hr := r3.size
    have hbw0 := h.below
    refine Below.setCell ⟨r3.os.trans (hb.os.trans hbw0.os), r3.tape.trans (hb.tape.trans hbw0.tape), r3.output.trans (hb.output.trans hbw0.output), by have := hbw0.size; omega, fun k hk => ?_⟩ (by simp) _
    have hz := hbw0.size
    rw [r3.block k (by omega) (fun e => by have := (h.row.lt k e.symm).1; omega), hb.block k (by omega)]
    exact hbw0.block k hk
theorem OldQ.add {W0 w0 w1 wo w2 : World} {p : ProgD} {k : Nat} {v u : Value} {dss : List (List Value)} {g : GlobD} {vp : Value} {css : List (List Value)} (h : OldQ W0 w0 w1 wo p k v u dss) (hx : p.globals[k]? = some g) (hG : OldG W0 wo w2 g g.parts.length vp css) (h01 : w0.heap.size + 2 ≤ w1.heap.size) (hW : W0.heap.size ≤ w0.heap.size) (hj : k ≤ 20)
    (hg : g.name.size ≤ maxLen ∧ In64 g.at_ ∧ In64 g.size ∧ g.parts.length ≤ 140737488351232) :
    ∃ v' w', (Builtin.append_ #[90, 90] 90 #[u, .slice (some ⟨w2.heap.size, 0, none⟩) 1 1]).run Try.prog (w2.alloc (.cells (globC g vp) 98)) = .ok v' w' ∧
      w'.cell? ⟨w0.heap.size + 1, 1, none⟩ = some u ∧ w'.frozen? ⟨w0.heap.size + 1, 1, none⟩ = false ∧ w0.heap.size + 1 < w'.heap.size ∧ (∃ A m c, v' = .slice A m c) ∧ OldQ W0 w0 w1 (w'.setCell ⟨w0.heap.size + 1, 1, none⟩ v') p (k + 1) v v' (dss ++ [(globC g vp).toList]) := by
  obtain ⟨i0, z0, q1, q2, q3, q4, q5⟩ := info_partsC (C := 4) (B := 56) (show (Try.prog.info? 98).map (fun i => (i.zero.map (·.cells.size), i.size, i.bytes)) = some (some 4, 4, 56) by kernel_rfl)
  have hl : (p.globals.take k).length = k := by have := (List.getElem?_eq_some_iff.1 hx).1; simp; omega
  have hb := hG.below
  have hbo := blk_lt h.ob
  have hbs := hb.size
  have hgr := hG.row
  rw [List.take_length] at hgr
  have hs1 := h.size
  obtain ⟨v', w', r1, r2, r3, r4⟩ := (h.row.later hb).add (P := Try.prog) 90 i0 z0 56 Try.underlying90 q1 q2 q4 q5 q3 (by decide) wo.heap.size (by omega) (by omega) (fun k hk => (h.row.lt k hk).2) (globC g vp) rfl g
    (fun w'' hf => ⟨vp, rfl, hg.1, hg.2.1, hg.2.2.1, hgr.slR w'' (hf.mono (Nat.le_refl _) (by omega)), hg.2.2.2⟩)
    (by
      obtain ⟨A, c, rfl, _⟩ := hgr.slice
      intro u hu
      simp only [globC, List.mem_cons, List.not_mem_nil, or_false] at hu
      rcases hu with h | h | h | h <;> (subst h; rfl)) _ rfl hbs (by rw [hl]; unfold maxLen; omega) (by rw [hl]; omega)
  have hne : ∀ z, z < w1.heap.size → some z ≠ u.ownBlock := fun z hz e => by have := (h.row.lt _ e.symm).1; omega
  have kp : ∀ z, z < w1.heap.size → w'.heap[z]? = wo.heap[z]? := fun z hz => by
    rw [r3.block _ (by omega) (hne z hz)]
    exact hb.block z (by omega)
  have hb1 := (kp (w0.heap.size + 1) (by omega)).trans h.ob
  obtain ⟨A, c, hv', _⟩ := r2.slice
  have ht : p.globals.take (k + 1) = p.globals.take k ++ [g] := by
    obtain ⟨hlt, e⟩ := List.getElem?_eq_some_iff.1 hx
    rw [List.take_succ_eq_append_getElem hlt, e]
  have hr := r3.size
  refine ⟨v', w', r1, blk_cell hb1 rfl, blk_free hb1, blk_lt hb1, ⟨_, _, _, hv'⟩, ?_, ?_, ?_, ?_, ?_⟩
  · have := blk_setCell (i := 1) hb1 v'
    exact this
  · exact Foot.set (fun z hz hl => (kp z hl).trans (h.foot z hz hl)) (by simp; omega) (by simp) _
  · simp; omega
  · rw [ht]
    exact r2.setCell (by simp; omega) (by simp; omega) _
  · have hbw0 := h.below
    refine Below.setCell ⟨r3.os.trans (hb.os.trans hbw0.os), r3.tape.trans (hb.tape.trans hbw0.tape), r3.output.trans (hb.output.trans hbw0.output), by have := hbw0.size; omega, fun k hk => ?_⟩ (by simp) _
    rw [kp k (by omega)]
    exact hbw0.block k hk
end Go.Proofs.Yticgaknkonolnaa
