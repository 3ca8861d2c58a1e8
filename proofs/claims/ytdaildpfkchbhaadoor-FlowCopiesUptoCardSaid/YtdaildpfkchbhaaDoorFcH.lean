/- FlowCopies: flow.Each walked. No condition. -/
import Derived.Test.YtdaildpfkchbhaaDoorFcG
import Derived.Test.YtdaildpfkchbhaaDoorHu
namespace Go.Proofs.YtdaildpfkchbhaaDoor
open Go.RowKit
set_option linter.unusedVariables false
set_option maxHeartbeats 4000000
/-- what every function of the program brings -/
def FsOk (fs : List FuncD) : Prop := ∀ f ∈ fs, FunOk f ∧ f.secret.length ≤ 1000 ∧ f.slots.length ≤ 2000 ∧ 0 < f.blocks.length
def EachR (w : World) (fs : List FuncD) (e : Ending) (w' : World) : Prop :=
  ∃ gp vq css vg d m, e = .returned (.pointer (some ⟨gp, 0, none⟩)) ∧ w'.heap[gp]? = some (.cells #[vq, vg, d, m] 25 (0, 0)) ∧ RowQ w' w.heap.size vq fs css ∧ Below w.heap.size w w'
theorem each_none (w : World) : Calls Tryd.prog 9 #[.pointer none, .nilFunc] w fun e w' => e = .returned (.pointer none) ∧ w' = w := by
  go_enter Tryd.func9, Tryd.ntmps9
  go_wp2_with fail
  go_returns
  exact ⟨rfl, rfl⟩
set_option maxRecDepth 100000 in
theorem each_any (w w0 : World) (h0 : Below w0.heap.size w0 w) (pb : Nat) (fs : List FuncD) (vf : Value) (GA : Option Addr) (gn gc : Nat) (da ma : Int) (hp : w.heap[pb]? = some (.cells #[vf, .slice GA gn gc, .int .i64 da, .int .i64 ma] 25 (0, 0))) (hf : SlR w0 6 (FuncR w0) vf fs) (ho : FsOk fs) (hn : fs.length ≤ 1000) :
    Calls Tryd.prog 9 #[.pointer (some ⟨pb, 0, none⟩), .func (.func 10) #[] #[]] w (EachR w fs) := by
  have HFs := Lib.hid hf
  have HO := Lib.hid ho
  have H0 := Lib.hid h0
  obtain ⟨FA, fc, rfl, _, _, _⟩ := hf
  obtain ⟨n, hnn⟩ : ∃ n, n = fs.length := ⟨_, rfl⟩
  rw [← hnn] at hp hn
  have HN := Lib.hid hnn
  have HP := Lib.hid hp
  have c0 := blk_cell (i := 0) (v := .slice FA n fc) hp rfl
  have c1 := blk_cell (i := 1) (v := .slice GA gn gc) hp rfl
  have c2 := blk_cell (i := 2) (v := .int .i64 da) hp rfl
  have c3 := blk_cell (i := 3) (v := .int .i64 ma) hp rfl
  have hpl := blk_lt hp
  clear hp hnn ho h0
  go_enter Tryd.func9, Tryd.ntmps9
  go_upto_region 5 with (fail)
  generalize hV : Value.slice none 0 0 = V0
  obtain ⟨VA, vn, vc, hV', hVq⟩ : ∃ A m c, V0 = .slice A m c ∧ ∀ w2, RowQ w2 w.heap.size (.slice A m c) [] [] := ⟨none, 0, 0, hV.symm, fun w2 => RowQ.nil w2 _⟩
  clear hV
  subst hV'
  have HVq := Lib.hid hVq
  clear hVq
  have HQ0 := Lib.hid (HVq.out (w.alloc (.cells #[.slice VA vn vc, .slice GA gn gc, .int .i64 da, .int .i64 ma] 25)))
  obtain ⟨w1, hw1⟩ : ∃ w1, w1 = w.alloc (.cells #[.slice VA vn vc, .slice GA gn gc, .int .i64 da, .int .i64 ma] 25) := ⟨_, rfl⟩
  have hb1 : Below w.heap.size w w1 := by rw [hw1]; exact below_alloc _ (Below.refl _ _)
  have HB1 := Lib.hid hb1
  have HG1 := Lib.hid (show w1.heap[w.heap.size]? = some (.cells #[.slice VA vn vc, .slice GA gn gc, .int .i64 da, .int .i64 ma] 25 (0, 0)) by rw [hw1]; exact blk_new _ _)
  have d0 := later c0 hb1
  rw [← hw1] at HQ0 ⊢
  clear hw1 hb1 c0 c1 c2 c3
  go_wp2_with fail
  go_loopw [19] (fun i wr => ∃ (k : Nat) (A : Option Addr) (m c : Nat) (css : List (List Value)), k ≤ n ∧ i = .int .i64 k ∧ Below w.heap.size w wr ∧ wr.heap[w.heap.size]? = some (.cells #[.slice A m c, .slice GA gn gc, .int .i64 da, .int .i64 ma] 25 (0, 0)) ∧ RowQ wr w.heap.size (.slice A m c) (fs.take k) css) (fun i _ => n - (intOf i).toNat)
  case atStart => exact ⟨0, VA, vn, vc, [], by omega, rfl, HB1.out, HG1.out, HQ0.out⟩
  case round =>
    obtain ⟨k, QA, qm, qc, css, hk, rfl, hbr, hgr, hqr⟩ := hrel
    have HB := Lib.hid hbr
    have HG := Lib.hid hgr
    have HQ := Lib.hid hqr
    clear hbr hgr hqr HB1 HG1 HQ0
    by_cases hlt : k < n
    · have hlk : k < fs.length := by rw [← HN.out]; exact hlt
      obtain ⟨f, hfk⟩ : ∃ f, fs[k]? = some f := ⟨_, List.getElem?_eq_getElem hlk⟩
      have HOf := Lib.hid (HO.out f (List.mem_of_getElem? hfk))
      have HT := Lib.hid (show fs.take (k + 1) = fs.take k ++ [f] by rw [List.take_add_one, hfk]; rfl)
      have hnm : f.name.size ≤ 1048576 := HOf.out.1.2.2
      obtain ⟨_, _, hA, _, _, h4⟩ := HFs.out.later (by decide) (H0.out.trans (HB.out.mono H0.out.size))
      cases hA
      obtain ⟨fb, fo, cs, rfl, e1, e2, vs, vl, vb, e3, _, _, e4, _, _, e5, _, e6, _⟩ := h4 k f hfk
      subst e3
      have HSe := Lib.hid e4
      have HSl := Lib.hid e5
      have HSb := Lib.hid e6
      obtain ⟨SA, sc, rfl, _, _, _⟩ := e4
      obtain ⟨LA, lc, rfl, _, _, _⟩ := e5
      obtain ⟨BA, bc, rfl, _, _, _⟩ := e6
      obtain ⟨n1, hn1⟩ : ∃ n, n = f.secret.length := ⟨_, rfl⟩
      obtain ⟨n2, hn2⟩ : ∃ n, n = f.slots.length := ⟨_, rfl⟩
      obtain ⟨n3, hn3⟩ : ∃ n, n = f.blocks.length := ⟨_, rfl⟩
      have q0 : wr.cell? ⟨fb, fo + k * 6, none⟩ = some (.string f.name) := e2 0 (by omega)
      have q1 := e2 1 (by omega)
      have q2 := e2 2 (by omega)
      have q3 := e2 3 (by omega)
      have q4 := e2 4 (by omega)
      have q5 := e2 5 (by omega)
      rw [← hn1] at q2
      rw [← hn2] at q4
      rw [← hn3] at q5
      have hb0 := World.block_lt_of_cell? _ _ q0
      obtain ⟨wa, hwa⟩ : ∃ wa, wa = wr.alloc (.cells #[.string f.name, .int .i64 f.params, .slice SA n1 sc, .int .i64 f.regs, .slice LA n2 lc, .slice BA n3 bc] 32) := ⟨_, rfl⟩
      have hba : Below wr.heap.size wr wa := by rw [hwa]; exact below_alloc _ (Below.refl _ _)
      have hxa : wa.heap[wr.heap.size]? = some (.cells #[.string f.name, .int .i64 f.params, .slice SA n1 sc, .int .i64 f.regs, .slice LA n2 lc, .slice BA n3 bc] 32 (0, 0)) := by rw [hwa]; exact blk_new _ _
      have HBA := Lib.hid (HB.out.bt hba)
      have hga := blk_below HG.out hba
      have HGA := Lib.hid hga
      have HQA := Lib.hid (HQ.out.below hba)
      have h0a : Below w0.heap.size w0 wa.drew := (H0.out.trans (HBA.out.mono H0.out.size)).drew
      have HCo := Lib.hid (copy_any wa.drew f _ _ _ (HSe.out.later (by decide) h0a) HOf.out.2.1 (HSl.out.later (by decide) h0a) HOf.out.2.2.1 ((HSb.out.later (by decide) h0a).imp' (fun cs x h => BlockR.later h h0a)) HOf.out.1 HOf.out.2.2.2)
      rw [← hn1, ← hn2, ← hn3] at HCo
      have HN3 := Lib.hid hn3
      obtain ⟨gx, hgx⟩ : ∃ gx, gx = wr.heap.size := ⟨_, rfl⟩
      have HGX := Lib.hid hgx
      have HNE := Lib.hid (show some gx ≠ (Value.slice QA qm qc).ownBlock by
        rcases own_cells HQ.out.1 with ⟨e, _⟩ | ⟨g2, cap2, cur2, e, _, k3, _⟩
        · rw [e]; simp [Value.ownBlock]
        · rw [e]; intro h; have h2 := Option.some.inj h; have h3 : gx = g2 := h2; have := blk_lt k3; omega)
      clear e1 e2 h4 hlk hfk hn1 hn2 hn3 hba
      go_upto_region 8 with (fail)
      rw [← hwa, ← hgx]
      rw [← hgx] at hxa
      clear hwa hgx q0 q1 q2 q3 q4 q5
      have t0 : wa.cell? ⟨w.heap.size, 0, none⟩ = some (.slice QA qm qc) := blk_cell hga rfl
      have t1 : wa.cell? ⟨gx, 0, none⟩ = some (.string f.name) := blk_cell hxa rfl
      have t2 : wa.cell? ⟨gx, 1, none⟩ = some (.int .i64 f.params) := blk_cell hxa rfl
      have t3 : wa.cell? ⟨gx, 2, none⟩ = some (.slice SA n1 sc) := blk_cell hxa rfl
      have t4 : wa.cell? ⟨gx, 3, none⟩ = some (.int .i64 f.regs) := blk_cell hxa rfl
      have t5 : wa.cell? ⟨gx, 4, none⟩ = some (.slice LA n2 lc) := blk_cell hxa rfl
      have t6 : wa.cell? ⟨gx, 5, none⟩ = some (.slice BA n3 bc) := blk_cell hxa rfl
      clear hga hxa h0a
      refine upto_begin 9 (fun w' => w'.cell? ⟨w.heap.size, 0, none⟩ = some (.slice QA qm qc) ∧ w'.cell? ⟨gx, 0, none⟩ = some (.string f.name) ∧ w'.cell? ⟨gx, 1, none⟩ = some (.int .i64 f.params) ∧ w'.cell? ⟨gx, 2, none⟩ = some (.slice SA n1 sc) ∧ w'.cell? ⟨gx, 3, none⟩ = some (.int .i64 f.regs) ∧ w'.cell? ⟨gx, 4, none⟩ = some (.slice LA n2 lc) ∧ w'.cell? ⟨gx, 5, none⟩ = some (.slice BA n3 bc)) (by kernel_rfl) ?_ (fun hU0 => ?_)
      · exact ⟨t0, t1, t2, t3, t4, t5, t6⟩
      first | refine upto_run 0 (v := ?_) hU0 (by kernel_rfl) rfl (by kernel_rfl) (by kernel_rfl) (by kernel_rfl) (by kernel_rfl) (fun _ _ _ h => h) (Or.inl ⟨by rfl, ?_⟩) ?_ | fail
      rotate_left
      · first | (intro w _; go_simp; with_reducible rfl) | (intro w _; go_simp; done) | (intro w _; go_simp; rw [if_neg (by omega)]) | fail
      try simp only [Act.put, List.setIfInBounds_toArray, List.set_cons_zero, List.set_cons_succ]
      first | refine upto_read 1 (v := ?_) hU0 (by kernel_rfl) rfl (by kernel_rfl) (by kernel_rfl) (by kernel_rfl) (by kernel_rfl) (by kernel_rfl) (fun _ _ _ h => h) (Or.inl ⟨by rfl, ?_⟩) ?_ | fail
      rotate_left
      · first | (intro w hSw; (try dsimp only at hSw); go_simp; with_reducible rfl) | (intro w hSw; (try dsimp only at hSw); go_simp; done) | fail
      try simp only [Act.put, List.setIfInBounds_toArray, List.set_cons_zero, List.set_cons_succ]
      first | refine upto_run 2 (v := ?_) hU0 (by kernel_rfl) rfl (by kernel_rfl) (by kernel_rfl) (by kernel_rfl) (by kernel_rfl) (fun _ _ _ h => h) (Or.inl ⟨by rfl, ?_⟩) ?_ | fail
      rotate_left
      · first | (intro w _; go_simp; with_reducible rfl) | (intro w _; go_simp; done) | (intro w _; go_simp; rw [if_neg (by omega)]) | fail
      try simp only [Act.put, List.setIfInBounds_toArray, List.set_cons_zero, List.set_cons_succ]
      first | refine upto_read 3 (v := ?_) hU0 (by kernel_rfl) rfl (by kernel_rfl) (by kernel_rfl) (by kernel_rfl) (by kernel_rfl) (by kernel_rfl) (fun _ _ _ h => h) (Or.inl ⟨by rfl, ?_⟩) ?_ | fail
      rotate_left
      · first | (intro w hSw; (try dsimp only at hSw); go_simp; with_reducible rfl) | (intro w hSw; (try dsimp only at hSw); go_simp; done) | fail
      try simp only [Act.put, List.setIfInBounds_toArray, List.set_cons_zero, List.set_cons_succ]
      first | refine upto_next 4 rfl (by kernel_rfl) (fun K hK => ?_) | fail
      go_simp
      go_at_call 6
      refine HCo.out.mono ?_
      rintro e w4 ⟨vs2, vl2, gq, cq, rfl, hb4, hcq1, hcq2, hrow, ⟨lq1, ho1⟩, lq2, ho2⟩
      have hbW : Below wa.heap.size wa w4 := ⟨hb4.os, hb4.tape, hb4.output, hb4.size, hb4.block⟩
      obtain ⟨S2, sc2, rfl, _⟩ := own_slice ho1
      obtain ⟨L2, lc2, rfl, _⟩ := own_slice ho2
      have HRL := Lib.hid hrow.rowL
      clear hb4 hrow ho1 ho2
      rw [← HN3.out] at hcq1 ⊢
      try go_simp
      first | refine hK.out _ _ ?_ (fun hU1 => ?_) | (go_wp2_with fail; refine hK.out _ _ ?_ (fun hU1 => ?_)) | fail
      · exact Or.inr ⟨later t0 hbW, later t1 hbW, later t2 hbW, later t3 hbW, later t4 hbW, later t5 hbW, later t6 hbW⟩
      clear hK K
      clear hU0
      try simp only [Act.put, List.setIfInBounds_toArray, List.set_cons_zero, List.set_cons_succ]
      first | refine upto_next 5 rfl (by kernel_rfl) (fun K hK => ?_) | fail
      go_simp
      go_at_call 10
      refine (turn_any w4 f.name hnm _ _ _ _ _ _ _ _ _ _ _).mono ?_
      rintro e w5 ⟨rfl, hb5⟩
      have hbX : Below wa.heap.size wa w5 := hbW.bt hb5
      have HRL5 := Lib.hid (HRL.out.kept (r := none) (grown_of_below hb5) (fun b hb => by cases hb))
      obtain ⟨v7, w7, css7, r7, hq7, hg7⟩ := (HQA.out.below hbX).push (Nat.le_trans HBA.out.size hbX.size) f (by rw [List.length_take]; omega) (A1 := S2) (A2 := L2) (n1 := f.secret.length) (c1 := sc2) (n2 := f.slots.length) (c2 := lc2) (g := gq) (cap := cq) ⟨by rw [← HN3.out]; exact hcq1, hcq2⟩ HRL5.out
      rw [← HN3.out] at r7
      have hbA : Below wa.heap.size wa (w5.alloc (.cells #[.string (f.name ++ { data := #[120] }), .int .i64 f.params, .slice S2 f.secret.length sc2, .int .i64 f.regs, .slice L2 f.slots.length lc2, .slice (some ⟨gq, 0, none⟩) n3 cq] 32)) := below_alloc _ hbX
      have HGk := Lib.hid (blk_kept (blk_below HGA.out hbX) hg7 (own_blk (own_below HQA.out.1 hbX) (blk_below HGA.out hbX) (by decide)))
      have hbr := below_of_grown (HBA.out.bt hbX) (Nat.le_refl _) hg7 (fun j hj => by rcases own_cells (own_below HQA.out.1 hbX) with ⟨e, _⟩ | ⟨g2, cap2, cur2, e, k2, _⟩ <;> rw [e] at hj <;> cases hj <;> exact k2)
      have HL7 := Lib.hid (fun (i : Nat) (v : Value) (h : wa.cell? ⟨gx, i, none⟩ = some v) => hg7.cell (later h hbX) HNE.out)
      have HB7 := Lib.hid hbr
      have HQ7 := Lib.hid hq7
      obtain ⟨A7, c7, rfl, _⟩ := own_slice hq7.1
      have u0 : w7.cell? ⟨w.heap.size, 0, none⟩ = some (.slice QA qm qc) := blk_cell HGk.out rfl
      have u0f := blk_free (i := 0) HGk.out
      clear hq7 hg7 hbr
      try go_simp
      first | refine hK.out _ _ ?_ (fun hU2 => ?_) | (go_wp2_with fail; refine hK.out _ _ ?_ (fun hU2 => ?_)) | fail
      · exact Or.inr ⟨later t0 hbX, later t1 hbX, later t2 hbX, later t3 hbX, later t4 hbX, later t5 hbX, later t6 hbX⟩
      clear hK K
      clear hU1
      try simp only [Act.put, List.setIfInBounds_toArray, List.set_cons_zero, List.set_cons_succ]
      first | refine upto_next 6 rfl (by kernel_rfl) (fun K hK => ?_) | fail
      go_simp
      first | refine hK.out _ _ ?_ (fun hU3 => ?_) | (go_wp2_with fail; refine hK.out _ _ ?_ (fun hU3 => ?_)) | fail
      · exact Or.inr ⟨later t0 hbA, later t1 hbA, later t2 hbA, later t3 hbA, later t4 hbA, later t5 hbA, later t6 hbA⟩
      clear hK K
      clear hU2
      try simp only [Act.put, List.setIfInBounds_toArray, List.set_cons_zero, List.set_cons_succ]
      first | refine upto_next 7 rfl (by kernel_rfl) (fun K hK => ?_) | fail
      refine step_append_run rfl (.tmp 24) (.tmp 29) 22 rfl _ _ _ _ rfl rfl r7 ?_
      try go_simp
      first | refine hK.out _ _ ?_ (fun hU4 => ?_) | (go_wp2_with fail; refine hK.out _ _ ?_ (fun hU4 => ?_)) | fail
      · exact Or.inr ⟨u0, HL7.out _ _ t1, HL7.out _ _ t2, HL7.out _ _ t3, HL7.out _ _ t4, HL7.out _ _ t5, HL7.out _ _ t6⟩
      clear hK K
      clear hU3
      try simp only [Act.put, List.setIfInBounds_toArray, List.set_cons_zero, List.set_cons_succ]
      first | refine upto_run 8 (v := ?_) hU4 (by kernel_rfl) rfl (by kernel_rfl) (by kernel_rfl) (by kernel_rfl) (by kernel_rfl) (fun _ _ _ h => h) (Or.inl ⟨by rfl, ?_⟩) ?_ | fail
      rotate_left
      · first | (intro w _; go_simp; with_reducible rfl) | (intro w _; go_simp; done) | (intro w _; go_simp; rw [if_neg (by omega)]) | fail
      try simp only [Act.put, List.setIfInBounds_toArray, List.set_cons_zero, List.set_cons_succ]
      first | refine upto_next 9 rfl (by kernel_rfl) (fun K hK => ?_) | fail
      go_simp
      first | refine hK.out _ _ ?_ (fun hU5 => ?_) | (go_wp2_with fail; refine hK.out _ _ ?_ (fun hU5 => ?_)) | fail
      · exact Or.inl (by kernel_rfl)
      clear hK K
      clear hU4
      try simp only [Act.put, List.setIfInBounds_toArray, List.set_cons_zero, List.set_cons_succ]
      refine upto_done (by kernel_rfl) ?_ _
      have HBn := Lib.hid (below_set HB7.out w.heap.size 0 (.slice A7 ((fs.take k).length + 1) c7) (Nat.le_refl _))
      have HQn := Lib.hid (HQ7.out.set HGk.out (by decide) (by decide) (.slice A7 ((fs.take k).length + 1) c7) (j := 0))
      have HGn := Lib.hid (show (w7.setCell ⟨w.heap.size, 0, none⟩ (.slice A7 ((fs.take k).length + 1) c7)).heap[w.heap.size]? = some (.cells #[.slice A7 ((fs.take k).length + 1) c7, .slice GA gn gc, .int .i64 da, .int .i64 ma] 25 (0, 0)) from blk_setCell HGk.out _)
      have hlen : (fs.take k).length + 1 = min k fs.length + 1 := by rw [List.length_take]
      have hlen2 : (fs.take k ++ [f]).length = min k fs.length + 1 := by rw [List.length_append, List.length_take]; rfl
      simp only [hlen, hlen2] at HBn HQn HGn
      clear hlen hlen2
      go_wp2_with fail
      go_roundw
      case rel => exact ⟨k + 1, _, _, _, _, by omega, by go_num, HBn.out, HGn.out, by rw [HT.out]; exact HQn.out⟩
      case measure => simp [intOf]; omega
    · have e : k = n := by omega
      subst e
      go_wp2_with fail
      go_returns
      have hq := HQ.out
      rw [HN.out, List.take_length] at hq
      exact ⟨_, _, css, _, _, _, rfl, HG.out, hq, HB.out⟩
end Go.Proofs.YtdaildpfkchbhaaDoor
