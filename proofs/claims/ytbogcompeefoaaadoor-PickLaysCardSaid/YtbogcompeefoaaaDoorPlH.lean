/- pick: one line is laid (hot, ins, label). No condition. -/
import Derived.Test.YtbogcompeefoaaaDoorQc
import Derived.Test.YtbogcompeefoaaaDoorQa
import Derived.Deep.RegionLaw
import Derived.Deep.Cut
import Derived.Deep.CutRange
import Derived.Deep.DeepCutAuto
namespace Go.Proofs.YtbogcompeefoaaaDoor
open Go.RowKit
set_option linter.unusedVariables false
set_option maxHeartbeats 4000000
theorem step_append_run {P : Program} {ops : Array Oper} {o : Oper} {a : Act} {w : World} {K : Act → World → Prop} {Q : Exit → Act → World → Prop} {E : Prop} (hg : o.guard = none) (s x : Operand) (t : TypeId)
    (hop : o.op = .call { callee := .builtin .append, args := #[s, x], argTypes := #[t, t] }) (v u v' : Value) (w' : World) (hs : a.eval s = v) (hx : a.eval x = u)
    (hr : (Builtin.append_ #[t, t] o.type #[v, u]).run P w = .ok v' w') (hK : K (a.put o.dst v') w') : if Region.wanted o (yielded ops a.tmps) = true then Oper.wp P o a w K Q else E := by
  have hw : Region.wanted o (yielded ops a.tmps) = true := by simp [Region.wanted, hg]
  rw [if_pos hw]
  unfold Oper.wp execOp
  simp only [hop, resolve, invoke, builtin, Sem.run_bind, Sem.run_pure, Result.andThen_ok, List.map_toArray, List.map_cons, List.map_nil, hs, hx, hr]
  exact hK
set_option maxRecDepth 100000 in
theorem hot_push (W0 : World) (gk : Nat) (k : PK) (pl sl : List Int) (ls : List LineD) (w : World) (h : PS W0 gk k pl sl ls w) (op dst src imm size : Int) (sg : Bool) (cond : Int) (to_ : List UInt8) (hb : Bool) (hl : ls.length ≤ 1000000000) :
    Calls Tryd.prog 39 #[.pointer (some ⟨gk, 0, none⟩), .agg #[.int .i64 op, .int .i64 dst, .int .i64 src, .int .i64 imm, .int .i64 size, .bool sg, .int .i64 cond, .string ⟨⟨to_⟩⟩], .bool hb] w fun e w' => e = .returned (.tuple #[]) ∧ PS W0 gk k pl sl (ls ++ [⟨[], op, dst, src, imm, size, sg, cond, to_, hb, false⟩]) w' ∧ KeptL w w' := by
  obtain ⟨w1, hw1⟩ : ∃ w1, w1 = w.alloc (.cells #[.int .i64 op, .int .i64 dst, .int .i64 src, .int .i64 imm, .int .i64 size, .bool sg, .int .i64 cond, .string ⟨⟨to_⟩⟩] 42) := ⟨_, rfl⟩
  have hb1 : Below w.heap.size w w1 := by rw [hw1]; exact below_alloc _ (Below.refl _ _)
  have hx1 : w1.heap[w.heap.size]? = some (.cells #[.int .i64 op, .int .i64 dst, .int .i64 src, .int .i64 imm, .int .i64 size, .bool sg, .int .i64 cond, .string ⟨⟨to_⟩⟩] 42 (0, 0)) := by rw [hw1]; exact blk_new _ _
  have hp1 := h.later hb1
  obtain ⟨A, c, hA1, _⟩ := hp1.box
  have HPS1 := Lib.hid hp1
  have HKB := Lib.hid (KeptL.of_below hb1)
  have t0 : w1.cell? ⟨gk, 11, none⟩ = some (.slice A ls.length c) := blk_cell hA1 rfl
  have t1 : w1.cell? ⟨w.heap.size, 0, none⟩ = some (.int .i64 op) := blk_cell hx1 rfl
  have t2 : w1.cell? ⟨w.heap.size, 1, none⟩ = some (.int .i64 dst) := blk_cell hx1 rfl
  have t3 : w1.cell? ⟨w.heap.size, 2, none⟩ = some (.int .i64 src) := blk_cell hx1 rfl
  have t4 : w1.cell? ⟨w.heap.size, 3, none⟩ = some (.int .i64 imm) := blk_cell hx1 rfl
  have t5 : w1.cell? ⟨w.heap.size, 4, none⟩ = some (.int .i64 size) := blk_cell hx1 rfl
  have t6 : w1.cell? ⟨w.heap.size, 5, none⟩ = some (.bool sg) := blk_cell hx1 rfl
  have t7 : w1.cell? ⟨w.heap.size, 6, none⟩ = some (.int .i64 cond) := blk_cell hx1 rfl
  have t8 : w1.cell? ⟨w.heap.size, 7, none⟩ = some (.string ⟨⟨to_⟩⟩) := blk_cell hx1 rfl
  have hgl := blk_lt hA1
  have hxl := blk_lt hx1
  have HX1 := Lib.hid hx1
  obtain ⟨gx, hgx⟩ : ∃ gx, gx = w.heap.size := ⟨_, rfl⟩
  rw [← hgx] at t1 t2 t3 t4 t5 t6 t7 t8 hxl HX1
  clear hb1 hx1 hp1
  go_enter Tryd.func39, Tryd.ntmps39
  go_upto_region 1 with (fail)
  rw [← hw1, ← hgx]
  clear hw1 hgx
  refine upto_begin 13 (fun w' => w'.cell? ⟨gk, 11, none⟩ = some (.slice A ls.length c) ∧ w'.cell? ⟨gx, 0, none⟩ = some (.int .i64 op) ∧ w'.cell? ⟨gx, 1, none⟩ = some (.int .i64 dst) ∧ w'.cell? ⟨gx, 2, none⟩ = some (.int .i64 src) ∧ w'.cell? ⟨gx, 3, none⟩ = some (.int .i64 imm) ∧ w'.cell? ⟨gx, 4, none⟩ = some (.int .i64 size) ∧ w'.cell? ⟨gx, 5, none⟩ = some (.bool sg) ∧ w'.cell? ⟨gx, 6, none⟩ = some (.int .i64 cond) ∧ w'.cell? ⟨gx, 7, none⟩ = some (.string ⟨⟨to_⟩⟩)) (by kernel_rfl) ?_ (fun hU0 => ?_)
  · exact ⟨t0, t1, t2, t3, t4, t5, t6, t7, t8⟩
  first | refine upto_run 0 (v := ?_) hU0 (by kernel_rfl) rfl (by kernel_rfl) (by kernel_rfl) (by kernel_rfl) (by kernel_rfl) (fun _ _ _ h => h) (Or.inl ⟨by rfl, ?_⟩) ?_ | fail
  rotate_left
  · first | (intro w _; go_simp; with_reducible rfl) | (intro w _; go_simp; done) | (intro w _; go_simp; rw [if_neg (by omega)]) | fail
  try simp only [Act.put, List.setIfInBounds_toArray, List.set_cons_zero, List.set_cons_succ]
  first | refine upto_run 1 (v := ?_) hU0 (by kernel_rfl) rfl (by kernel_rfl) (by kernel_rfl) (by kernel_rfl) (by kernel_rfl) (fun _ _ _ h => h) (Or.inl ⟨by rfl, ?_⟩) ?_ | fail
  rotate_left
  · first | (intro w _; go_simp; with_reducible rfl) | (intro w _; go_simp; done) | (intro w _; go_simp; rw [if_neg (by omega)]) | fail
  try simp only [Act.put, List.setIfInBounds_toArray, List.set_cons_zero, List.set_cons_succ]
  first | refine upto_run 2 (v := ?_) hU0 (by kernel_rfl) rfl (by kernel_rfl) (by kernel_rfl) (by kernel_rfl) (by kernel_rfl) (fun _ _ _ h => h) (Or.inl ⟨by rfl, ?_⟩) ?_ | fail
  rotate_left
  · first | (intro w _; go_simp; with_reducible rfl) | (intro w _; go_simp; done) | (intro w _; go_simp; rw [if_neg (by omega)]) | fail
  try simp only [Act.put, List.setIfInBounds_toArray, List.set_cons_zero, List.set_cons_succ]
  first | refine upto_run 3 (v := ?_) hU0 (by kernel_rfl) rfl (by kernel_rfl) (by kernel_rfl) (by kernel_rfl) (by kernel_rfl) (fun _ _ _ h => h) (Or.inl ⟨by rfl, ?_⟩) ?_ | fail
  rotate_left
  · first | (intro w _; go_simp; with_reducible rfl) | (intro w _; go_simp; done) | (intro w _; go_simp; rw [if_neg (by omega)]) | fail
  try simp only [Act.put, List.setIfInBounds_toArray, List.set_cons_zero, List.set_cons_succ]
  first | refine upto_read 4 (v := ?_) hU0 (by kernel_rfl) rfl (by kernel_rfl) (by kernel_rfl) (by kernel_rfl) (by kernel_rfl) (by kernel_rfl) (fun _ _ _ h => h) (Or.inl ⟨by rfl, ?_⟩) ?_ | fail
  rotate_left
  · first | (intro w hSw; (try dsimp only at hSw); go_simp; with_reducible rfl) | (intro w hSw; (try dsimp only at hSw); go_simp; done) | fail
  try simp only [Act.put, List.setIfInBounds_toArray, List.set_cons_zero, List.set_cons_succ]
  first | refine upto_read 5 (v := ?_) hU0 (by kernel_rfl) rfl (by kernel_rfl) (by kernel_rfl) (by kernel_rfl) (by kernel_rfl) (by kernel_rfl) (fun _ _ _ h => h) (Or.inl ⟨by rfl, ?_⟩) ?_ | fail
  rotate_left
  · first | (intro w hSw; (try dsimp only at hSw); go_simp; with_reducible rfl) | (intro w hSw; (try dsimp only at hSw); go_simp; done) | fail
  try simp only [Act.put, List.setIfInBounds_toArray, List.set_cons_zero, List.set_cons_succ]
  first | refine upto_run 6 (v := ?_) hU0 (by kernel_rfl) rfl (by kernel_rfl) (by kernel_rfl) (by kernel_rfl) (by kernel_rfl) (fun _ _ _ h => h) (Or.inl ⟨by rfl, ?_⟩) ?_ | fail
  rotate_left
  · first | (intro w _; go_simp; with_reducible rfl) | (intro w _; go_simp; done) | (intro w _; go_simp; rw [if_neg (by omega)]) | fail
  try simp only [Act.put, List.setIfInBounds_toArray, List.set_cons_zero, List.set_cons_succ]
  first | refine upto_run 7 (v := ?_) hU0 (by kernel_rfl) rfl (by kernel_rfl) (by kernel_rfl) (by kernel_rfl) (by kernel_rfl) (fun _ _ _ h => h) (Or.inl ⟨by rfl, ?_⟩) ?_ | fail
  rotate_left
  · first | (intro w _; go_simp; with_reducible rfl) | (intro w _; go_simp; done) | (intro w _; go_simp; rw [if_neg (by omega)]) | fail
  try simp only [Act.put, List.setIfInBounds_toArray, List.set_cons_zero, List.set_cons_succ]
  first | refine upto_run 8 (v := ?_) hU0 (by kernel_rfl) rfl (by kernel_rfl) (by kernel_rfl) (by kernel_rfl) (by kernel_rfl) (fun _ _ _ h => h) (Or.inl ⟨by rfl, ?_⟩) ?_ | fail
  rotate_left
  · first | (intro w _; go_simp; with_reducible rfl) | (intro w _; go_simp; done) | (intro w _; go_simp; rw [if_neg (by omega)]) | fail
  try simp only [Act.put, List.setIfInBounds_toArray, List.set_cons_zero, List.set_cons_succ]
  obtain ⟨A', c', w4, r4, kb4, kk4, ps4, kl4⟩ := HPS1.out.push (w2 := w1.drew) (Below.drew (Below.refl _ _)) ⟨[], op, dst, src, imm, size, sg, cond, to_, hb, false⟩ hl hA1
  have hA4 : Below w1.heap.size w1 (w1.drew.alloc (.cells #[.string ⟨#[]⟩, .int .i64 op, .int .i64 dst, .int .i64 src, .int .i64 imm, .int .i64 size, .bool sg, .int .i64 cond, .string ⟨⟨to_⟩⟩, .bool hb, .bool false] 46)) := below_alloc _ (Below.drew (Below.refl _ _))
  have z11 : w4.cell? ⟨gk, 11, none⟩ = some (.slice A ls.length c) := blk_cell kb4 rfl
  have z11f := blk_free (i := 11) kb4
  have HPS4 := Lib.hid ps4
  have HKL4 := Lib.hid kl4
  have HBX4 := Lib.hid (fun (i : Nat) (v : Value) (hi : (#[.int .i64 op, .int .i64 dst, .int .i64 src, .int .i64 imm, .int .i64 size, .bool sg, .int .i64 cond, .string ⟨⟨to_⟩⟩] : Array Value)[i]? = some v) => blk_cell (kk4.2 _ _ _ _ HX1.out (by decide) (by decide)) hi)
  clear ps4 kl4 kk4
  first | refine upto_next 9 rfl (by kernel_rfl) (fun K hK => ?_) | fail
  go_simp
  first | refine hK.out _ _ ?_ (fun hU1 => ?_) | (go_wp2_with fail; refine hK.out _ _ ?_ (fun hU1 => ?_)) | fail
  · exact Or.inr ⟨later t0 hA4, later t1 hA4, later t2 hA4, later t3 hA4, later t4 hA4, later t5 hA4, later t6 hA4, later t7 hA4, later t8 hA4⟩
  clear hK K
  clear hU0
  try simp only [Act.put, List.setIfInBounds_toArray, List.set_cons_zero, List.set_cons_succ]
  first | refine upto_next 10 rfl (by kernel_rfl) (fun K hK => ?_) | fail
  refine step_append_run rfl (.tmp 10) (.tmp 15) 33 rfl _ _ _ _ rfl rfl r4 ?_
  try go_simp
  first | refine hK.out _ _ ?_ (fun hU2 => ?_) | (go_wp2_with fail; refine hK.out _ _ ?_ (fun hU2 => ?_)) | fail
  · exact Or.inr ⟨z11, HBX4.out 0 _ rfl, HBX4.out 1 _ rfl, HBX4.out 2 _ rfl, HBX4.out 3 _ rfl, HBX4.out 4 _ rfl, HBX4.out 5 _ rfl, HBX4.out 6 _ rfl, HBX4.out 7 _ rfl⟩
  clear hK K
  clear hU1
  try simp only [Act.put, List.setIfInBounds_toArray, List.set_cons_zero, List.set_cons_succ]
  first | refine upto_run 11 (v := ?_) hU2 (by kernel_rfl) rfl (by kernel_rfl) (by kernel_rfl) (by kernel_rfl) (by kernel_rfl) (fun _ _ _ h => h) (Or.inl ⟨by rfl, ?_⟩) ?_ | fail
  rotate_left
  · first | (intro w _; go_simp; with_reducible rfl) | (intro w _; go_simp; done) | (intro w _; go_simp; rw [if_neg (by omega)]) | fail
  try simp only [Act.put, List.setIfInBounds_toArray, List.set_cons_zero, List.set_cons_succ]
  first | refine upto_run 12 (v := ?_) hU2 (by kernel_rfl) rfl (by kernel_rfl) (by kernel_rfl) (by kernel_rfl) (by kernel_rfl) (fun _ _ _ h => h) (Or.inl ⟨by rfl, ?_⟩) ?_ | fail
  rotate_left
  · first | (intro w _; go_simp; with_reducible rfl) | (intro w _; go_simp; done) | (intro w _; go_simp; rw [if_neg (by omega)]) | fail
  try simp only [Act.put, List.setIfInBounds_toArray, List.set_cons_zero, List.set_cons_succ]
  first | refine upto_next 13 rfl (by kernel_rfl) (fun K hK => ?_) | fail
  go_simp
  first | refine hK.out _ _ ?_ (fun hU3 => ?_) | (go_wp2_with fail; refine hK.out _ _ ?_ (fun hU3 => ?_)) | fail
  · exact Or.inl (by kernel_rfl)
  clear hK K
  clear hU2
  try simp only [Act.put, List.setIfInBounds_toArray, List.set_cons_zero, List.set_cons_succ]
  refine upto_done (by kernel_rfl) ?_ _
  go_wp2_with fail
  go_returns
  exact ⟨rfl, HPS4.out, HKB.out.trans HKL4.out⟩
set_option maxRecDepth 100000 in
theorem ins_push (W0 : World) (gk : Nat) (k : PK) (pl sl : List Int) (ls : List LineD) (w : World) (h : PS W0 gk k pl sl ls w) (op dst src imm size : Int) (sg : Bool) (cond : Int) (to_ : List UInt8) (hl : ls.length ≤ 1000000000) :
    Calls Tryd.prog 22 #[.pointer (some ⟨gk, 0, none⟩), .agg #[.int .i64 op, .int .i64 dst, .int .i64 src, .int .i64 imm, .int .i64 size, .bool sg, .int .i64 cond, .string ⟨⟨to_⟩⟩]] w fun e w' => e = .returned (.tuple #[]) ∧ PS W0 gk k pl sl (ls ++ [⟨[], op, dst, src, imm, size, sg, cond, to_, false, false⟩]) w' ∧ KeptL w w' := by
  have HA := Lib.hid (below_alloc (.cells #[.int .i64 op, .int .i64 dst, .int .i64 src, .int .i64 imm, .int .i64 size, .bool sg, .int .i64 cond, .string ⟨⟨to_⟩⟩] 42) (Below.refl w.heap.size w))
  have HH := Lib.hid (hot_push W0 gk k pl sl ls _ (h.later HA.out) op dst src imm size sg cond to_ false hl)
  clear h
  go_enter Tryd.func22, Tryd.ntmps22
  go_wp2_with fail
  refine HH.out.mono ?_
  rintro e w2 ⟨rfl, hp, hk⟩
  have HP := Lib.hid hp
  have HK := Lib.hid ((KeptL.of_below HA.out).trans hk)
  clear hp hk
  go_wp2_with fail
  go_returns
  exact ⟨rfl, HP.out, HK.out⟩
set_option maxRecDepth 100000 in
theorem label_push (W0 : World) (gk : Nat) (k : PK) (pl sl : List Int) (ls : List LineD) (w : World) (h : PS W0 gk k pl sl ls w) (lab : List UInt8) (hl : ls.length ≤ 1000000000) :
    Calls Tryd.prog 21 #[.pointer (some ⟨gk, 0, none⟩), .string ⟨⟨lab⟩⟩] w fun e w' => e = .returned (.tuple #[]) ∧ PS W0 gk k pl sl (ls ++ [⟨lab, 0, 0, 0, 0, 0, false, 0, [], false, false⟩]) w' ∧ KeptL w w' := by
  obtain ⟨A, c, hA1, _⟩ := h.box
  have t0 : w.cell? ⟨gk, 11, none⟩ = some (.slice A ls.length c) := blk_cell hA1 rfl
  have hgl := blk_lt hA1
  obtain ⟨A', c', w4, r4, kb4, kk4, ps4, kl4⟩ := h.push (Below.refl _ _) ⟨lab, 0, 0, 0, 0, 0, false, 0, [], false, false⟩ hl hA1
  have r5 : (Builtin.append_ #[33, 33] 33 #[.slice A ls.length c, .slice (some ⟨w.heap.size, 0, none⟩) 1 1]).run Tryd.prog (w.alloc (.cells #[.string ⟨⟨lab⟩⟩, .int .i64 0, .int .i64 0, .int .i64 0, .int .i64 0, .int .i64 0, .bool false, .int .i64 0, .string ⟨#[]⟩, .bool false, .bool false] 46)) = .ok (.slice A' (ls.length + 1) c') w4 := r4
  have z11 : w4.cell? ⟨gk, 11, none⟩ = some (.slice A ls.length c) := blk_cell kb4 rfl
  have z11f := blk_free (i := 11) kb4
  have zl := blk_lt kb4
  have HPS4 := Lib.hid ps4
  have HKL4 := Lib.hid kl4
  clear ps4 kl4 kk4 hA1 h r4 kb4
  go_enter Tryd.func21, Tryd.ntmps21
  go_wp2_with (at_builtin; refine wpList_append_runC _ rfl _ _ _ rfl _ _ _ _ rfl rfl r5 ?_)
  go_returns
  exact ⟨rfl, HPS4.out, HKL4.out⟩
/-- a good line laid -/
theorem lays_one {W0 : World} {gk : Nat} {k : PK} {pl sl : List Int} {nb n : Nat} {ls0 : List LineD} {f : FuncId} {args : Array Value} {w : World} (h : PSeg W0 gk k pl sl nb ls0 n w) (hn : n ≤ 100000000) (l : LineD) (h0 : l.label = []) (hI : InsL9 l) (h3 : l.op ≠ 33) (h4 : l.op ≠ 34)
    (hc : ∀ s, PS W0 gk k pl sl (ls0 ++ s) w → (ls0 ++ s).length ≤ 1000000000 → Calls Tryd.prog f args w fun e w' => e = .returned (.tuple #[]) ∧ PS W0 gk k pl sl ((ls0 ++ s) ++ [l]) w' ∧ KeptL w w') :
    Calls Tryd.prog f args w (Lays W0 gk k pl sl nb ls0 (n + 1) w (.tuple #[])) := by
  obtain ⟨k0, s, k1, k2, k3⟩ := h
  refine (hc s k3 (by rw [List.length_append]; omega)).mono ?_
  rintro e w' ⟨rfl, q1, q2⟩
  refine ⟨rfl, ⟨k0, s ++ [l], by rw [List.length_append, List.length_singleton]; omega, k2.append (Seg.one h0 hI h3 h4), ?_⟩, q2⟩
  rw [← List.append_assoc]; exact q1
theorem hot_lays (W0 : World) (gk : Nat) (k : PK) (pl sl : List Int) (nb n : Nat) (ls0 : List LineD) (w : World) (h : PSeg W0 gk k pl sl nb ls0 n w) (hn : n ≤ 100000000) (op dst src imm size : Int) (sg : Bool) (cond : Int) (to_ : List UInt8) (hb : Bool) (hI : InsL9 ⟨[], op, dst, src, imm, size, sg, cond, to_, hb, false⟩) (h3 : op ≠ 33) (h4 : op ≠ 34) :
    Calls Tryd.prog 39 #[.pointer (some ⟨gk, 0, none⟩), .agg #[.int .i64 op, .int .i64 dst, .int .i64 src, .int .i64 imm, .int .i64 size, .bool sg, .int .i64 cond, .string ⟨⟨to_⟩⟩], .bool hb] w (Lays W0 gk k pl sl nb ls0 (n + 1) w (.tuple #[])) :=
  lays_one h hn ⟨[], op, dst, src, imm, size, sg, cond, to_, hb, false⟩ rfl hI h3 h4 (fun s hp hl => hot_push W0 gk k pl sl _ w hp op dst src imm size sg cond to_ hb hl)
theorem ins_lays (W0 : World) (gk : Nat) (k : PK) (pl sl : List Int) (nb n : Nat) (ls0 : List LineD) (w : World) (h : PSeg W0 gk k pl sl nb ls0 n w) (hn : n ≤ 100000000) (op dst src imm size : Int) (sg : Bool) (cond : Int) (to_ : List UInt8) (hI : InsL9 ⟨[], op, dst, src, imm, size, sg, cond, to_, false, false⟩) (h3 : op ≠ 33) (h4 : op ≠ 34) :
    Calls Tryd.prog 22 #[.pointer (some ⟨gk, 0, none⟩), .agg #[.int .i64 op, .int .i64 dst, .int .i64 src, .int .i64 imm, .int .i64 size, .bool sg, .int .i64 cond, .string ⟨⟨to_⟩⟩]] w (Lays W0 gk k pl sl nb ls0 (n + 1) w (.tuple #[])) :=
  lays_one h hn ⟨[], op, dst, src, imm, size, sg, cond, to_, false, false⟩ rfl hI h3 h4 (fun s hp hl => ins_push W0 gk k pl sl _ w hp op dst src imm size sg cond to_ hl)
end Go.Proofs.YtbogcompeefoaaaDoor
