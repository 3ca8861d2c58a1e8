/- The walk of OldIns (RtlReads). No condition. -/
import Derived.Test.YticgaknkonolnaaRl
import Derived.Test.YticgaknkonolnaaStruct
namespace Go.Proofs.Yticgaknkonolnaa
open Go.RowKit
set_option linter.unusedVariables false
set_option maxHeartbeats 2000000
def oldZ : Array Value := #[.int .i64 0, .int .i64 0, .int .i64 0, .int .i64 0, .int .i64 0, .int .i64 0, .int .i64 0, .bool false, .bool false, .int .i64 0, .int .i64 0, .slice none 0 0]
def oldC (x : InsD) (v : Value) : Array Value := #[.int .i64 x.op, .int .i64 x.dst, .int .i64 x.a.reg, .int .i64 x.a.num, .int .i64 x.b.reg, .int .i64 x.b.num, .int .i64 x.size, .bool x.signed, .bool x.secret, .int .i64 x.ref, .int .i64 x.off, v]
structure OldI (w0 w : World) (x : InsD) (k : Nat) (v : Value) : Prop where
  res : w.heap[w0.heap.size + 1]? = some (.cells oldZ 61 (0, 0))
  ob : w.heap[w0.heap.size + 1 + 1]? = some (.cells (oldC x v) 61 (0, 0))
  row : w.ownsRow (w0.heap.size + 3) 59 2 v k (flatA (x.args.take k))
  below : Below w0.heap.size w0 w
theorem OldI.alloc {w0 w : World} {x : InsD} {k : Nat} {v : Value} (h : OldI w0 w x k v) (o : Obj) : OldI w0 (w.alloc o) x k v :=
  ⟨blk_alloc h.res o, blk_alloc h.ob o, h.row.alloc o, below_alloc _ h.below⟩
theorem OldI.not_row {w0 w : World} {x : InsD} {k : Nat} {v : Value} (h : OldI w0 w x k v) {j : Nat} (hj : j < w0.heap.size + 3) : some j ≠ v.ownBlock := by
  intro e
  have := (h.row.lt j e.symm).1
  omega
theorem OldI.ob' {w0 w w' : World} {x : InsD} {k : Nat} {v : Value} (h : OldI w0 w x k v) (hg : w.grownBy w' v.ownBlock) : w'.heap[w0.heap.size + 1 + 1]? = some (.cells (oldC x v) 61 (0, 0)) := by
  rw [hg.block _ (blk_lt h.ob) (h.not_row (by omega))]; exact h.ob
theorem OldI.step {w0 w w' : World} {x : InsD} {k : Nat} {v v' : Value} {a : ArgD} (h : OldI w0 w x k v) (ha : x.args[k]? = some a) (hrow : w'.ownsRow (w0.heap.size + 3) 59 2 v' (k + 1) (flatA (x.args.take k ++ [a]))) (hg : w.grownBy w' v.ownBlock) :
    OldI w0 (w'.setCell ⟨w0.heap.size + 1 + 1, 11, none⟩ v') x (k + 1) v' := by
  have ht : x.args.take (k + 1) = x.args.take k ++ [a] := by
    obtain ⟨hlt, e⟩ := List.getElem?_eq_some_iff.1 ha
    rw [List.take_succ_eq_append_getElem hlt, e]
  refine ⟨?_, ?_, ?_, ?_⟩
  · refine blk_set ?_ (by simp) _
    rw [hg.block _ (blk_lt h.res) (h.not_row (by omega))]; exact h.res
  · exact blk_setCell (h.ob' hg) v'
  · rw [ht]; exact ownsRow_setCell_below hrow (by simp) _
  · have hb := h.below
    have hz := blk_lt h.res
    exact Below.setCell ⟨hg.os.trans hb.os, hg.tape.trans hb.tape, hg.output.trans hb.output, by have := hg.size; have := hb.size; omega, fun k hk => (hg.block k (by omega) (h.not_row (by omega))).trans (hb.block k hk)⟩ (by simp; omega) _
theorem row_slice {w : World} {base n size : Nat} {e : TypeId} {v : Value} {l : List Value} (h : w.ownsRow base e size v n l) : ∃ A m c, v = .slice A m c := by
  rcases h.2 with ⟨rfl, _⟩ | ⟨g, cap, cur, rfl, _⟩
  · exact ⟨_, _, _, rfl⟩
  · exact ⟨_, _, _, rfl⟩
set_option maxRecDepth 100000 in
theorem old_own (w : World) (x : InsD) (va : Value) (hs : SlR w 2 ArgR va x.args) (hl : x.args.length ≤ 1000000) :
    Calls Try.prog 20 #[insV x va] w fun e w' => ∃ v', e = .returned (insV x v') ∧ w'.ownsRow (w.heap.size + 3) 59 2 v' x.args.length (flatA x.args) ∧ Below w.heap.size w w' := by
  have HAI := Lib.hid hs.argsIn
  obtain ⟨A1, c1, rfl, _, m1, i1⟩ := hs
  have H1 := Lib.hid i1
  clear i1 m1
  go_enter Try.func20, Try.ntmps20
  go_wp2_with fail
  go_loopw [28] (fun i wr => ∃ (k : Nat) (v : Value), k ≤ x.args.length ∧ i = .int .i64 k ∧ OldI w wr x k v) (fun i _ => x.args.length - (intOf i).toNat)
  case atStart =>
    refine ⟨0, .slice none 0 0, by omega, rfl, ?_, ?_, World.ownsRow_nil _ _ _ _, below_alloc _ (below_alloc _ (below_alloc _ (Below.refl _ _)))⟩
    · exact blk_alloc (blk_new' (by simp)) _
    · exact blk_new' (by simp)
  case round =>
    obtain ⟨k, v, hk, rfl, hb⟩ := hrel
    have HI := Lib.hid hb
    by_cases hlt : k < x.args.length
    · obtain ⟨a, ha⟩ : ∃ a, x.args[k]? = some a := ⟨_, List.getElem?_eq_getElem hlt⟩
      have HA := Lib.hid ha
      obtain ⟨b1, o1, cs, rfl, e1, e2, e3, _⟩ := H1.out k a ha
      subst e3
      have r0 := later (e2 0 (by omega)) hb.below
      have r1 := later (e2 1 (by omega)) hb.below
      rw [Nat.add_zero] at r0
      have l0 := World.block_lt_of_cell? _ _ r0
      have q11 : wr.cell? ⟨w.heap.size + 1 + 1, 11, none⟩ = some v := blk_cell hb.ob rfl
      have lq := blk_lt hb.ob
      have hsz := hb.below.size
      obtain ⟨v', w', hr, g1, g2⟩ := append_one8 ((wr.alloc (.cells #[.int .i64 a.reg, .int .i64 a.num] 47)).alloc (.cells #[.int .i64 a.reg, .int .i64 a.num] 59)) a (w.heap.size + 3) (by simp; omega) (wr.heap.size + 1) (blk_new' (by simp)) v k (x.args.take k) ((hb.row.alloc _).alloc _) (by omega)
      obtain ⟨A', m', c', rfl⟩ := row_slice g1
      have HN := Lib.hid (((hb.alloc _).alloc _).step ha g1 g2)
      have hob := ((hb.alloc _).alloc _).ob' g2
      have s11 : w'.cell? ⟨w.heap.size + 1 + 1, 11, none⟩ = some v := blk_cell hob rfl
      have f11 : w'.frozen? ⟨w.heap.size + 1 + 1, 11, none⟩ = false := blk_free hob
      have ls := blk_lt hob
      clear e1 e2 ha hb g1 g2 hob
      go_wp2_with (at_builtin; refine wpList_append_run' _ rfl _ _ _ rfl _ _ _ _ rfl rfl hr ?_)
      go_roundw
      case rel => exact ⟨k + 1, _, by omega, by go_num, HN.out⟩
      case measure => simp [intOf]; omega
    · have e : k = x.args.length := by omega
      subst e
      obtain ⟨A', m', c', rfl⟩ := row_slice hb.row
      have K1 := Lib.hid hb.ob
      have K2 := Lib.hid hb.res
      have HRW := Lib.hid hb.row
      have HBL := Lib.hid hb.below
      have p0 : ∀ i u, (oldC x (.slice A' m' c'))[i]? = some u → wr.cell? ⟨w.heap.size + 1 + 1, i, none⟩ = some u := fun i u hi => blk_cell hb.ob hi
      have q0 := p0 0 (.int .i64 x.op) rfl
      have q1 := p0 1 (.int .i64 x.dst) rfl
      have q2 := p0 2 (.int .i64 x.a.reg) rfl
      have q3 := p0 3 (.int .i64 x.a.num) rfl
      have q4 := p0 4 (.int .i64 x.b.reg) rfl
      have q5 := p0 5 (.int .i64 x.b.num) rfl
      have q6 := p0 6 (.int .i64 x.size) rfl
      have q7 := p0 7 (.bool x.signed) rfl
      have q8 := p0 8 (.bool x.secret) rfl
      have q9 := p0 9 (.int .i64 x.ref) rfl
      have q10 := p0 10 (.int .i64 x.off) rfl
      have q11 := p0 11 (.slice A' m' c') rfl
      have lq := blk_lt hb.ob
      clear p0 hb
      go_wp2_with (refine wpList_store_blk (by rfl) 61 _ _ (by rfl) (w.heap.size + 1) (by rfl) (by rfl) K2.out (by rfl) (by kernel_rfl) (by kernel_rfl) ?_; intro x2 k3 hb3 hz3 ho3)
      have p1 : ∀ i u, (oldC x (.slice A' m' c'))[i]? = some u → x2.cell? ⟨w.heap.size + 1, i, none⟩ = some u := fun i u hi => blk_cell k3 hi
      have c0 := p1 0 (.int .i64 x.op) rfl
      have c1 := p1 1 (.int .i64 x.dst) rfl
      have c2 := p1 2 (.int .i64 x.a.reg) rfl
      have c3 := p1 3 (.int .i64 x.a.num) rfl
      have c4 := p1 4 (.int .i64 x.b.reg) rfl
      have c5 := p1 5 (.int .i64 x.b.num) rfl
      have c6 := p1 6 (.int .i64 x.size) rfl
      have c7 := p1 7 (.bool x.signed) rfl
      have c8 := p1 8 (.bool x.secret) rfl
      have c9 := p1 9 (.int .i64 x.ref) rfl
      have c10 := p1 10 (.int .i64 x.off) rfl
      have c11 := p1 11 (.slice A' m' c') rfl
      refine bodyPost_ret (v := insV x (.slice A' m' c')) (by simp [results,  Try.results20, go_sem, c0, c1, c2, c3, c4, c5, c6, c7, c8, c9, c10, c11]) rfl ⟨_, rfl, ?_, hb3 _ _ (by simp) HBL.out⟩
      have hr := HRW.out
      rw [List.take_length] at hr
      have hrl := fun q hq => (hr.lt q hq).1
      exact (hr.kept (row := some (w.heap.size + 1)) ⟨(hb3 _ wr (Nat.le_refl _) (Below.refl _ _)).os, (hb3 _ wr (Nat.le_refl _) (Below.refl _ _)).tape, (hb3 _ wr (Nat.le_refl _) (Below.refl _ _)).output, by omega, fun q hq hne => ho3 q (by intro e; exact hne (by rw [e]))⟩ (by
        by_cases hz : (Value.slice A' m' c').ownBlock = none
        · exact Or.inl hz
        · exact Or.inr (by intro e; have := hrl _ e; omega)))
theorem old_any (w : World) (x : InsD) (va : Value) (hs : SlR w 2 ArgR va x.args) (hl : x.args.length ≤ 1000000) :
    Calls Try.prog 20 #[insV x va] w fun e w' => ∃ v', e = .returned (insV x v') ∧ SlR w' 2 ArgR v' x.args ∧ Below w.heap.size w w' :=
  (old_own w x va hs hl).mono fun e w' ⟨v', h1, h2, h3⟩ => ⟨v', h1, own_slR h2 rfl hs.argsIn, h3⟩
end Go.Proofs.Yticgaknkonolnaa
