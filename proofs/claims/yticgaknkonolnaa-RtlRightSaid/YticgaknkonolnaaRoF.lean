/- The walk of OldFunc. No condition. -/
import Derived.Test.YticgaknkonolnaaRo
import Derived.Test.YticgaknkonolnaaGw
import Derived.Deep.RegionLaw
namespace Go.Proofs.Yticgaknkonolnaa
open Go.RowKit
set_option linter.unusedVariables false
set_option maxHeartbeats 2000000
set_option maxRecDepth 20000
def termC (v : Value) (t : TermD) : Array Value := #[v, .int .i64 t.kind, .int .i64 t.op, .int .i64 t.a.reg, .int .i64 t.a.num, .int .i64 t.b.reg, .int .i64 t.b.num, .int .i64 t.to_, .int .i64 t.els]
def funcC (f : FuncD) (vs vl v : Value) : Array Value := #[.string f.name, .int .i64 f.params, vs, .int .i64 f.regs, vl, v]
def funcZ : Array Value := #[.string ⟨#[]⟩, .int .i64 0, .slice none 0 0, .int .i64 0, .slice none 0 0, .slice none 0 0]
structure OldF (W0 w0 w : World) (f : FuncD) (vs vl : Value) (k : Nat) (v : Value) (css : List (List Value)) : Prop where
  res : w.heap[w0.heap.size + 1]? = some (.cells funcZ 95 (0, 0))
  ob : w.heap[w0.heap.size + 1 + 1]? = some (.cells (funcC f vs vl v) 95 (0, 0))
  row : Grow W0.heap.size (w0.heap.size + 3) 9 104 BlockR w v (f.blocks.take k) css
  below : Below w0.heap.size w0 w
structure OldB (W0 w0 w : World) (b : BlockD) (k : Nat) (v : Value) (css : List (List Value)) : Prop where
  bl : w.heap[w0.heap.size + 1 + 1]? = some (.cells (termC v b.term) 104 (0, 0))
  row : Grow W0.heap.size (w0.heap.size + 3) 12 61 InsR w v (b.ins.take k) css
  below : Below w0.heap.size w0 w
theorem step_append_run {P : Program} {ops : Array Oper} {o : Oper} {a : Act} {w : World} {K : Act → World → Prop} {Q : Exit → Act → World → Prop} {E : Prop} (hg : o.guard = none) (s x : Operand) (t : TypeId)
    (hop : o.op = .call { callee := .builtin .append, args := #[s, x], argTypes := #[t, t] }) (v u v' : Value) (w' : World) (hs : a.eval s = v) (hx : a.eval x = u)
    (hr : (Builtin.append_ #[t, t] o.type #[v, u]).run P w = .ok v' w') (hK : K (a.put o.dst v') w') : if Region.wanted o (yielded ops a.tmps) = true then Oper.wp P o a w K Q else E := by
  have hw : Region.wanted o (yielded ops a.tmps) = true := by simp [Region.wanted, hg]
  rw [if_pos hw]
  unfold Oper.wp execOp
  simp only [hop, resolve, invoke, builtin, Sem.run_bind, Sem.run_pure, Result.andThen_ok, List.map_toArray, List.map_cons, List.map_nil, hs, hx, hr]
  exact hK
theorem Try.infoBlock8 : (Try.prog.info? 104).map (fun i => (i.zero.map (·.cells.size), i.size, i.bytes)) = some (some 9, 9, 88) := by kernel_rfl
theorem info_partsC {P : Program} {T : TypeId} {C B : Nat} (h : (P.info? T).map (fun i => (i.zero.map (·.cells.size), i.size, i.bytes)) = some (some C, C, B)) : ∃ i z, P.info? T = some i ∧ i.zero = some z ∧ z.cells.size = C ∧ i.size = C ∧ i.bytes = B := by
  cases hi : P.info? T with
  | none => rw [hi] at h; cases h
  | some i =>
    rw [hi] at h
    simp only [Option.map_some, Option.some.injEq, Prod.mk.injEq] at h
    obtain ⟨h1, h2, h3⟩ := h
    cases hz : i.zero with
    | none => rw [hz] at h1; cases h1
    | some z => rw [hz] at h1; exact ⟨i, z, rfl, hz, by simpa using h1, h2, h3⟩
theorem OldB.add {W0 w0 w w2 : World} {b : BlockD} {j : Nat} {v : Value} {css : List (List Value)} {x : InsD} {va : Value} {hi : Nat} (h : OldB W0 w0 w b j v css) (hx : b.ins[j]? = some x) (hb : Below w.heap.size w w2) (hh : w.heap.size ≤ hi) (hW : W0.heap.size ≤ w0.heap.size)
    (hrow : w2.ownsRow hi 59 2 va x.args.length (flatA x.args)) (hargs : ArgsIn x.args) (hsm : x.args.length ≤ 4000) (hlt : hi ≤ w2.heap.size) (hj : j ≤ 2000)
    (hin : In64 x.op ∧ In64 x.dst ∧ In64 x.a.reg ∧ In64 x.a.num ∧ In64 x.b.reg ∧ In64 x.b.num ∧ In64 x.size ∧ In64 x.ref ∧ In64 x.off) :
    ∃ v' w', (Builtin.append_ #[100, 100] 100 #[v, .slice (some ⟨w2.heap.size, 0, none⟩) 1 1]).run Try.prog (w2.alloc (.cells (oldC x va) 61)) = .ok v' w' ∧
      w'.cell? ⟨w0.heap.size + 1 + 1, 0, none⟩ = some v ∧ w'.frozen? ⟨w0.heap.size + 1 + 1, 0, none⟩ = false ∧ w0.heap.size + 1 + 1 < w'.heap.size ∧ (∃ A m c, v' = .slice A m c) ∧ OldB W0 w0 (w'.setCell ⟨w0.heap.size + 1 + 1, 0, none⟩ v') b (j + 1) v' (css ++ [(oldC x va).toList]) := by
  obtain ⟨i0, z0, q1, q2, q3, q4, q5⟩ := info_partsC (C := 12) (B := 104) (show (Try.prog.info? 61).map (fun i => (i.zero.map (·.cells.size), i.size, i.bytes)) = some (some 12, 12, 104) by kernel_rfl)
  have hl : (b.ins.take j).length = j := by have := (List.getElem?_eq_some_iff.1 hx).1; simp; omega
  have hbs := blk_lt h.bl
  obtain ⟨v', w', r1, r2, r3, r4⟩ := (h.row.later hb).add (P := Try.prog) 100 i0 z0 104 Try.underlying100 q1 q2 q4 q5 q3 (by decide) hi (by omega) (by omega) (fun k hk => by have := (h.row.lt k hk).2; omega) (oldC x va) rfl x
    (fun w'' hf => ⟨va, rfl, hin.1, hin.2.1, hin.2.2.1, hin.2.2.2.1, hin.2.2.2.2.1, hin.2.2.2.2.2.1, hin.2.2.2.2.2.2.1, hin.2.2.2.2.2.2.2.1, hin.2.2.2.2.2.2.2.2, own_slR (own_foot hrow (fun b hb hl => hf b (Or.inr hb) hl)) rfl hargs, by omega⟩)
    (by
      obtain ⟨A, c, rfl, _⟩ := own_slice hrow
      intro u hu
      simp only [oldC, List.mem_cons, List.not_mem_nil, or_false] at hu
      rcases hu with h | h | h | h | h | h | h | h | h | h | h | h <;> (subst h; rfl)) _ rfl hlt (by rw [hl]; unfold maxLen; omega) (by rw [hl]; omega)
  have hne : some (w0.heap.size + 1 + 1) ≠ v.ownBlock := fun e => by have := (h.row.lt _ e.symm).1; omega
  have hb1 : w'.heap[w0.heap.size + 1 + 1]? = some (.cells (termC v b.term) 104 (0, 0)) := by
    rw [r3.block _ (by have := hb.size; omega) hne]
    exact blk_below h.bl hb
  have hsl := r2.slice
  obtain ⟨A, c, hv', _⟩ := hsl
  have ht : b.ins.take (j + 1) = b.ins.take j ++ [x] := by
    obtain ⟨hlt, e⟩ := List.getElem?_eq_some_iff.1 hx
    rw [List.take_succ_eq_append_getElem hlt, e]
  refine ⟨v', w', r1, blk_cell hb1 rfl, blk_free hb1, blk_lt hb1, ⟨_, _, _, hv'⟩, ?_, ?_, ?_⟩
  · have := blk_setCell (i := 0) hb1 v'
    exact this
  · rw [ht]
    exact r2.setCell (by simp; omega) (by simp) _
  · have hr := r3.size
    have hbw := h.below
    have hbs := hb.size
    refine Below.setCell ⟨r3.os.trans (hb.os.trans hbw.os), r3.tape.trans (hb.tape.trans hbw.tape), r3.output.trans (hb.output.trans hbw.output), by have := hbw.size; omega, fun k hk => ?_⟩ (by simp; omega) _
    have hz := hbw.size
    rw [r3.block k (by omega) (fun e => by have := (h.row.lt k e.symm).1; omega), hb.block k (by omega)]
    exact hbw.block k hk
theorem OldF.add {W0 w0 wo w : World} {f : FuncD} {vs vl : Value} {k : Nat} {v : Value} {css : List (List Value)} {b : BlockD} {v2 : Value} {css2 : List (List Value)} (h : OldF W0 w0 wo f vs vl k v css) (hx : f.blocks[k]? = some b) (hb : OldB W0 wo w b b.ins.length v2 css2) (hsz : w0.heap.size ≤ wo.heap.size) (hW : W0.heap.size ≤ w0.heap.size) (hj : k ≤ 2000) (hil : b.ins.length ≤ 2000)
    (hin : In64 b.term.kind ∧ In64 b.term.op ∧ In64 b.term.a.reg ∧ In64 b.term.a.num ∧ In64 b.term.b.reg ∧ In64 b.term.b.num ∧ In64 b.term.to_ ∧ In64 b.term.els) :
    ∃ v' w', (Builtin.append_ #[93, 93] 93 #[v, .slice (some ⟨w.heap.size, 0, none⟩) 1 1]).run Try.prog (w.alloc (.cells (termC v2 b.term) 104)) = .ok v' w' ∧
      w'.cell? ⟨w0.heap.size + 1 + 1, 5, none⟩ = some v ∧ w'.frozen? ⟨w0.heap.size + 1 + 1, 5, none⟩ = false ∧ w0.heap.size + 1 + 1 < w'.heap.size ∧ (∃ A m c, v' = .slice A m c) ∧ OldF W0 w0 (w'.setCell ⟨w0.heap.size + 1 + 1, 5, none⟩ v') f vs vl (k + 1) v' (css ++ [(termC v2 b.term).toList]) := by
  obtain ⟨i0, z0, q1, q2, q3, q4, q5⟩ := info_partsC Try.infoBlock8
  have hl : (f.blocks.take k).length = k := by have := (List.getElem?_eq_some_iff.1 hx).1; simp; omega
  have hbo := blk_lt h.ob
  have hbw := hb.below
  have hbs := hbw.size
  have hrow2 := hb.row
  rw [List.take_length] at hrow2
  obtain ⟨v', w', r1, r2, r3, r4⟩ := (h.row.later hb.below).add (P := Try.prog) 93 i0 z0 88 Try.underlying93 q1 q2 q4 q5 q3 (by decide) wo.heap.size (by omega) (by omega) (fun k hk => (h.row.lt k hk).2) (termC v2 b.term) rfl b
    (fun w'' hf => ⟨v2, rfl, hrow2.slR w'' (hf.mono (Nat.le_refl _) (by omega)), by omega, hin.1, hin.2.1, hin.2.2.1, hin.2.2.2.1, hin.2.2.2.2.1, hin.2.2.2.2.2.1, hin.2.2.2.2.2.2.1, hin.2.2.2.2.2.2.2⟩)
    (by
      obtain ⟨A, c, rfl, _⟩ := hrow2.slice
      intro u hu
      simp only [termC, List.mem_cons, List.not_mem_nil, or_false] at hu
      rcases hu with h | h | h | h | h | h | h | h | h <;> (subst h; rfl)) _ rfl hbs (by rw [hl]; unfold maxLen; omega) (by rw [hl]; omega)
  have hne : ∀ z, z ≤ w0.heap.size + 1 + 1 → some z ≠ v.ownBlock := fun z hz e => by have := (h.row.lt _ e.symm).1; omega
  have kp : ∀ z o, z ≤ w0.heap.size + 1 + 1 → wo.heap[z]? = some o → w'.heap[z]? = some o := fun z o hz ho => by
    rw [r3.block _ (by have := blk_lt ho; omega) (hne z hz)]
    exact blk_below ho hbw
  have hb1 := kp _ _ (Nat.le_refl _) h.ob
  obtain ⟨A, c, hv', _⟩ := r2.slice
  have ht : f.blocks.take (k + 1) = f.blocks.take k ++ [b] := by
    obtain ⟨hlt, e⟩ := List.getElem?_eq_some_iff.1 hx
    rw [List.take_succ_eq_append_getElem hlt, e]
  refine ⟨v', w', r1, blk_cell hb1 rfl, blk_free hb1, blk_lt hb1, ⟨_, _, _, hv'⟩, ?_, ?_, ?_, ?_⟩
  · exact blk_set (kp _ _ (by omega) h.res) (by simp) _
  · have := blk_setCell (i := 5) hb1 v'
    exact this
  · rw [ht]
    exact r2.setCell (by simp; omega) (by simp) _
  · have hr := r3.size
    have hbw0 := h.below
    refine Below.setCell ⟨r3.os.trans (hbw.os.trans hbw0.os), r3.tape.trans (hbw.tape.trans hbw0.tape), r3.output.trans (hbw.output.trans hbw0.output), by have := hbw0.size; omega, fun k hk => ?_⟩ (by simp; omega) _
    have hz := hbw0.size
    rw [r3.block k (by omega) (fun e => by have := (h.row.lt k e.symm).1; omega), hbw.block k (by omega)]
    exact hbw0.block k hk
theorem oldf_any (W0 w : World) (h0 : Below W0.heap.size W0 w) (f : FuncD) (vs vl vb : Value) (hs : SlR W0 1 BoolR vs f.secret) (hsl : SlR W0 1 IntR vl f.slots) (hbk : SlR W0 9 (BlockR W0) vb f.blocks) (hbl : f.blocks.length ≤ 2000) (hf : ∀ b ∈ f.blocks, b.ins.length ≤ 2000 ∧ ∀ x ∈ b.ins, x.args.length ≤ 4000) :
    Calls Try.prog 41 #[.agg #[.string f.name, .int .i64 f.params, vs, .int .i64 f.regs, vl, vb]] w fun e w' => ∃ v', e = .returned (.agg (funcC f vs vl v')) ∧ (∀ w'', Foot W0.heap.size w.heap.size w' w'' → SlR w'' 9 (BlockR w'') v' f.blocks) ∧ Below w.heap.size w w' := by
  have H0 := Lib.hid h0
  obtain ⟨As, cas, rfl, _, _, _⟩ := id hs
  obtain ⟨Al, cal, rfl, _, _, _⟩ := id hsl
  obtain ⟨Ab, cab, rfl, l1, l2, l3⟩ := hbk
  have HB := Lib.hid l3
  have HL := Lib.hid hf
  clear hf h0 l3 l1 l2
  go_enter Try.func41, Try.ntmps41
  go_wp2_with fail
  go_loopw [24] (fun i wr => ∃ (k : Nat) (v : Value) (css : List (List Value)), k ≤ f.blocks.length ∧ i = .int .i64 k ∧ OldF W0 w wr f (.slice As f.secret.length cas) (.slice Al f.slots.length cal) k v css) (fun i _ => f.blocks.length - (intOf i).toNat)
  case atStart =>
    refine ⟨0, .slice none 0 0, [], by omega, rfl, ?_, ?_, Grow.nil _ _ _ _ _ _, below_alloc _ (below_alloc _ (below_alloc _ (Below.refl _ _)))⟩
    · exact blk_alloc (blk_new' (by simp)) _
    · exact blk_new' (by simp)
  case round =>
    rename World => wo
    obtain ⟨k, v, css, hk, rfl, hb⟩ := hrel
    have HI := Lib.hid hb
    by_cases hlt : k < f.blocks.length
    · obtain ⟨b, ha⟩ : ∃ b, f.blocks[k]? = some b := ⟨_, List.getElem?_eq_getElem hlt⟩
      have HA := Lib.hid ha
      obtain ⟨b1, o1, cs, rfl, e1, e2, vi, e3, n1, n2, n3, n4, n5, n6, n7, n8, n9, n10⟩ := HB.out k b ha
      subst e3
      have HB0 := Lib.hid (H0.out.trans (hb.below.mono H0.out.size))
      have r0 := later (e2 0 (by omega)) HB0.out
      have r1 := later (e2 1 (by omega)) HB0.out
      have r2 := later (e2 2 (by omega)) HB0.out
      have r3 := later (e2 3 (by omega)) HB0.out
      have r4 := later (e2 4 (by omega)) HB0.out
      have r5 := later (e2 5 (by omega)) HB0.out
      have r6 := later (e2 6 (by omega)) HB0.out
      have r7 := later (e2 7 (by omega)) HB0.out
      have r8 := later (e2 8 (by omega)) HB0.out
      rw [Nat.add_zero] at r0
      have l0 := World.block_lt_of_cell? _ _ r0
      obtain ⟨Ai, cai, rfl, m1, m2, m3⟩ := n1
      have HIN := Lib.hid m3
      have hil := (HL.out b (List.mem_of_getElem? ha)).1
      have hsz := hb.below.size
      have H0b := Lib.hid (show W0.heap.size ≤ wo.heap.size from by have := H0.out.size; omega)
      have HT := Lib.hid (And.intro n3 (And.intro n4 (And.intro n5 (And.intro n6 (And.intro n7 (And.intro n8 (And.intro n9 n10)))))))
      clear e1 e2 ha hb n3 n4 n5 n6 n7 n8 n9 n10 m1 m2 m3 n2
      go_wp2_with fail
      go_loopw [47] (fun i wi => ∃ (j : Nat) (v2 : Value) (css2 : List (List Value)), j ≤ b.ins.length ∧ i = .int .i64 j ∧ OldB W0 wo wi b j v2 css2) (fun i _ => b.ins.length - (intOf i).toNat)
      case atStart =>
        refine ⟨0, .slice none 0 0, [], by omega, rfl, ?_, Grow.nil _ _ _ _ _ _, below_alloc _ (below_alloc _ (below_alloc _ (Below.refl _ _)))⟩
        exact blk_new' (by simp)
      case round =>
        rename World => wi
        obtain ⟨j, v2, css2, hj, rfl, hb2⟩ := hrel
        have HI2 := Lib.hid hb2
        by_cases hlt2 : j < b.ins.length
        · obtain ⟨x, hx⟩ : ∃ x, b.ins[j]? = some x := ⟨_, List.getElem?_eq_getElem hlt2⟩
          have HX := Lib.hid hx
          obtain ⟨b3, o3, cs3, rfl, e1, e2, va, e3, p1, p2, p3, p4, p5, p6, p7, p8, p9, p10, p11⟩ := HIN.out j x hx
          subst e3
          obtain ⟨Ax, cax, rfl, _, _, _⟩ := id p10
          have HB1 := Lib.hid (HB0.out.trans (hb2.below.mono HB0.out.size))
          have s0 := later (e2 0 (by omega)) HB1.out
          have s1 := later (e2 1 (by omega)) HB1.out
          have s2 := later (e2 2 (by omega)) HB1.out
          have s3 := later (e2 3 (by omega)) HB1.out
          have s4 := later (e2 4 (by omega)) HB1.out
          have s5 := later (e2 5 (by omega)) HB1.out
          have s6 := later (e2 6 (by omega)) HB1.out
          have s7 := later (e2 7 (by omega)) HB1.out
          have s8 := later (e2 8 (by omega)) HB1.out
          have s9 := later (e2 9 (by omega)) HB1.out
          have s10 := later (e2 10 (by omega)) HB1.out
          have s11 := later (e2 11 (by omega)) HB1.out
          rw [Nat.add_zero] at s0
          have ls0 := World.block_lt_of_cell? _ _ s0
          have q0 : wi.cell? ⟨wo.heap.size + 1 + 1, 0, none⟩ = some v2 := blk_cell hb2.bl rfl
          have lq := blk_lt hb2.bl
          have hxl := (HL.out b (List.mem_of_getElem? HA.out)).2 x (List.mem_of_getElem? hx)
          have hsz2 := hb2.below.size
          have HAI := Lib.hid p10.argsIn
          have HP := Lib.hid (p10.later (by decide) HB1.out)
          have HQ := Lib.hid (And.intro p1 (And.intro p2 (And.intro p3 (And.intro p4 (And.intro p5 (And.intro p6 (And.intro p7 (And.intro p8 p9))))))))
          clear e1 e2 hx hb2 p1 p2 p3 p4 p5 p6 p7 p8 p9 p10 p11
          go_wp2_with fail
          obtain ⟨w1, hw1⟩ : ∃ z, z = wi.alloc (.cells #[.int .i64 x.op, .int .i64 x.dst, .int .i64 x.a.reg, .int .i64 x.a.num, .int .i64 x.b.reg, .int .i64 x.b.num, .int .i64 x.size, .bool x.signed, .bool x.secret, .int .i64 x.ref, .int .i64 x.off, .slice Ax x.args.length cax] 54) := ⟨_, rfl⟩
          have hbx : w1.heap[wi.heap.size]? = some (.cells #[.int .i64 x.op, .int .i64 x.dst, .int .i64 x.a.reg, .int .i64 x.a.num, .int .i64 x.b.reg, .int .i64 x.b.num, .int .i64 x.size, .bool x.signed, .bool x.secret, .int .i64 x.ref, .int .i64 x.off, .slice Ax x.args.length cax] 54 (0, 0)) := by rw [hw1]; exact blk_new wi _
          have hb01 : Below wi.heap.size wi w1 := by rw [hw1]; exact below_alloc _ (Below.refl _ _)
          have hi1 : wi.heap.size + 1 = w1.heap.size := by rw [hw1]; simp
          rw [← hw1]
          have t0 := blk_cell (i := 0) hbx rfl
          have t1 := blk_cell (i := 1) hbx rfl
          have t2 := blk_cell (i := 2) hbx rfl
          have t3 := blk_cell (i := 3) hbx rfl
          have t4 := blk_cell (i := 4) hbx rfl
          have t5 := blk_cell (i := 5) hbx rfl
          have t6 := blk_cell (i := 6) hbx rfl
          have t7 := blk_cell (i := 7) hbx rfl
          have t8 := blk_cell (i := 8) hbx rfl
          have t9 := blk_cell (i := 9) hbx rfl
          have t10 := blk_cell (i := 10) hbx rfl
          have t11 := blk_cell (i := 11) hbx rfl
          have lt1 := blk_lt hbx
          have q1 := later q0 hb01
          have hq1 := World.block_lt_of_cell? _ _ q1
          have HB3 := Lib.hid hb01
          have HI1 := Lib.hid hi1
          have HSL := Lib.hid (HP.out.later (by decide) hb01)
          have HADD := Lib.hid (fun (w2 : World) (va : Value) (hrow : w2.ownsRow (w1.heap.size + 3) 59 2 va x.args.length (flatA x.args)) (hb : Below w1.heap.size w1 w2) => HI2.out.add HX.out (hb01.bt hb) (show wi.heap.size ≤ w1.heap.size by omega) H0b.out (own_base hrow (by omega)) HAI.out (by omega) hb.size (by omega) HQ.out)
          clear hw1 hbx hb01 hi1 s0 s1 s2 s3 s4 s5 s6 s7 s8 s9 s10 s11 q0 r0 r1 r2 r3 r4 r5 r6 r7 r8 ls0 l0
          go_region_law (first
            | (refine step_append_run rfl (.tmp 52) (.tmp 55) 100 rfl _ _ _ _ rfl rfl hr ?_)
            | (go_simp; go_at_call 20; refine (old_own w1.drew x (.slice Ax x.args.length cax) (HSL.out.later (by decide) (Below.drew (Below.refl _ _))) (by omega)).mono ?_; rintro e w2 ⟨va, rfl, hrow, hbw⟩; have hb12 : Below w1.heap.size w1 w2 := ⟨hbw.os, hbw.tape, hbw.output, hbw.size, hbw.block⟩; have q2 := later q1 hb12; have hq2 := World.block_lt_of_cell? _ _ q2; have hlw2 := hb12.size; obtain ⟨v3, w3, hr, f1, f2, f3, ⟨A3, m3, c3, rfl⟩, HN0⟩ := HADD.out w2 va hrow hb12; have HN := Lib.hid HN0; clear HN0))
          all_goals
            go_wp2_with fail
            go_roundw
            case rel => exact ⟨j + 1, _, _, by omega, by go_num, HN.out⟩
            case measure => simp [intOf]; omega
        · have e : j = b.ins.length := by omega
          subst e
          obtain ⟨Ar, cr, rfl, _⟩ := (show ∃ A cap, v2 = .slice A b.ins.length cap ∧ b.ins.length ≤ maxLen from by have h := hb2.row.slice; rw [List.take_length] at h; exact h)
          have hoo : wi.heap[w.heap.size + 1 + 1]? = some (.cells (funcC f (.slice As f.secret.length cas) (.slice Al f.slots.length cal) v) 95 (0, 0)) := by
            have h1 := HI.out.ob
            exact blk_below h1 hb2.below
          have u5 : wi.cell? ⟨w.heap.size + 1 + 1, 5, none⟩ = some v := blk_cell hoo rfl
          have hlo := blk_lt hoo
          have p0 : ∀ i u, (termC (.slice Ar b.ins.length cr) b.term)[i]? = some u → wi.cell? ⟨wo.heap.size + 1 + 1, i, none⟩ = some u := fun i u hi => blk_cell hb2.bl hi
          have s0 := p0 0 _ rfl
          have s1 := p0 1 _ rfl
          have s2 := p0 2 _ rfl
          have s3 := p0 3 _ rfl
          have s4 := p0 4 _ rfl
          have s5 := p0 5 _ rfl
          have s6 := p0 6 _ rfl
          have s7 := p0 7 _ rfl
          have s8 := p0 8 _ rfl
          have lb := blk_lt hb2.bl
          obtain ⟨v3, w3, hr, f1, f2, f3, ⟨A3, m3, c3, rfl⟩, HN0⟩ := HI.out.add HA.out hb2 hsz H0.out.size (by omega) (by omega) HT.out
          have HN := Lib.hid HN0
          clear HN0 hb2 hoo p0 r0 r1 r2 r3 r4 r5 r6 r7 r8 l0
          go_wp2_with (at_builtin; refine wpList_append_run' _ rfl _ _ _ rfl _ _ _ _ rfl rfl hr ?_)
          go_roundw
          case rel => exact ⟨k + 1, _, _, by omega, by go_num, HN.out⟩
          case measure => simp [intOf]; omega
    · have e : k = f.blocks.length := by omega
      subst e
      obtain ⟨Ar, cr, rfl, _⟩ := (show ∃ A cap, v = .slice A f.blocks.length cap ∧ f.blocks.length ≤ maxLen from by have h := hb.row.slice; rw [List.take_length] at h; exact h)
      have K2 := Lib.hid hb.res
      have p0 : ∀ i u, (funcC f (.slice As f.secret.length cas) (.slice Al f.slots.length cal) (.slice Ar f.blocks.length cr))[i]? = some u → wo.cell? ⟨w.heap.size + 1 + 1, i, none⟩ = some u := fun i u hi => blk_cell hb.ob hi
      have q0 := p0 0 _ rfl
      have q1 := p0 1 _ rfl
      have q2 := p0 2 _ rfl
      have q3 := p0 3 _ rfl
      have q4 := p0 4 _ rfl
      have q5 := p0 5 _ rfl
      have lq := blk_lt hb.ob
      clear p0 hb
      go_wp2_with (refine wpList_store_blk (by rfl) 95 _ _ (by rfl) (w.heap.size + 1) (by rfl) (by rfl) K2.out (by rfl) (by kernel_rfl) (by kernel_rfl) ?_; intro x2 k3 hb3 hz3 ho3)
      have p1 : ∀ i u, (funcC f (.slice As f.secret.length cas) (.slice Al f.slots.length cal) (.slice Ar f.blocks.length cr))[i]? = some u → x2.cell? ⟨w.heap.size + 1, i, none⟩ = some u := fun i u hi => blk_cell k3 hi
      have c0 := p1 0 _ rfl
      have c1 := p1 1 _ rfl
      have c2 := p1 2 _ rfl
      have c3 := p1 3 _ rfl
      have c4 := p1 4 _ rfl
      have c5 := p1 5 _ rfl
      refine bodyPost_ret (v := .agg (funcC f (.slice As f.secret.length cas) (.slice Al f.slots.length cal) (.slice Ar f.blocks.length cr))) (by simp [results, Try.results41, go_sem, c0, c1, c2, c3, c4, c5, funcC]) rfl ⟨_, rfl, ?_, hb3 _ _ (by simp) HI.out.below⟩
      intro w'' hf
      have hg := HI.out.row
      rw [List.take_length] at hg
      refine hg.slR w'' (fun z hz hl => ?_)
      have h0s := H0.out.size
      rw [← ho3 z (by omega)]
      exact hf z (by omega) (by omega)
end Go.Proofs.Yticgaknkonolnaa
