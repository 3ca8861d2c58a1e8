/- read.Link: labels. No condition. -/
import Derived.Test.YtamejgfmfneppaaDoorLkM
import Derived.Test.YtamejgfmfneppaaDoorHu
import Derived.Deep.Cut
import Derived.Deep.CutRange
import Derived.Deep.DeepCutAuto
namespace Go.Proofs.YtamejgfmfneppaaDoor
open Go.RowKit
set_option linter.unusedVariables false
set_option maxHeartbeats 8000000
theorem later {w w' : World} {a : Addr} {v : Value} (h : w.cell? a = some v) (hb : Below w.heap.size w w') : w'.cell? a = some v := (hb.cell (World.block_lt_of_cell? w _ h)).trans h
/-- what labels answers -/
def LabOut (w0 : World) (gk gp gc : Nat) (p : XProgD) (e : Ending) (w' : World) : Prop :=
  ∃ n er : Int, e = .returned (.tuple #[.int .i64 n, .int .i64 er]) ∧
    ((er = 0 ∧ ∃ ps1 at_ ps cs, p.data.foldlM datS (0, []) = .ok (n, ps1) ∧ p.code.foldlM itS (0, ps1, []) = .ok (at_, ps, cs) ∧ LkM w0 w' gk gp gc ps cs) ∨
     (er ≠ 0 ∧ Below w0.heap.size w0 w' ∧ (p.data.foldlM datS (0, []) = .error er ∨ ∃ m ps1, p.data.foldlM datS (0, []) = .ok (m, ps1) ∧ p.code.foldlM itS (0, ps1, []) = .error er)))
set_option maxRecDepth 100000 in
theorem labels_any (w0 w : World) (gk gp gc : Nat) (hk : LkM w0 w gk gp gc [] []) (p : XProgD) (vd vc : Value) (hd : SlR w0 4 (XDatumR w0) vd p.data) (hc : SlR w0 9 XItemR vc p.code) (hdl : p.data.length ≤ 140737488351232) (hcl : p.code.length ≤ 140737488351232) :
    Calls Tryd.prog 8 #[.pointer (some ⟨gk, 0, none⟩), .agg #[vd, vc]] w (LabOut w0 gk gp gc p) := by
  obtain ⟨A, cap, rfl, m1, m2, hid⟩ := hd
  obtain ⟨A2, cap2, rfl, m3, m4, hic⟩ := hc
  have HID := Lib.hid hid
  have HIC := Lib.hid hic
  have HB0 := Lib.hid (below_alloc (.cells #[.slice A p.data.length cap, .slice A2 p.code.length cap2] 33) (Below.refl w.heap.size w))
  have HK0 := Lib.hid (hk.later HB0.out)
  have HX0 := Lib.hid (blk_new w (.cells #[.slice A p.data.length cap, .slice A2 p.code.length cap2] 33))
  clear hid hic hk m1 m2 m3 m4
  go_enter Tryd.func8, Tryd.ntmps8
  go_upto_region 1 with (fail)
  obtain ⟨w1, hw1⟩ : ∃ z, z = w.alloc (.cells #[.slice A p.data.length cap, .slice A2 p.code.length cap2] 33) := ⟨_, rfl⟩
  obtain ⟨gx, hgx⟩ : ∃ z, z = w.heap.size := ⟨_, rfl⟩
  rw [← hw1] at HB0 HK0 HX0 ⊢
  rw [← hgx] at HX0 ⊢
  have x0 := blk_cell (i := 0) HX0.out rfl
  have xl := blk_lt HX0.out
  clear hw1 hgx
  go_wp2_with fail
  clear x0 xl
  go_loopw [6, 19] (fun n i wr => ∃ (j : Nat) (m : Int) (ps : Plc), j ≤ p.data.length ∧ i = .int .i64 (j : Nat) ∧ n = .int .i64 m ∧ 0 ≤ m ∧ m ≤ 65536 ∧ (p.data.take j).foldlM datS (0, []) = .ok (m, ps) ∧ LkM w0 wr gk gp gc ps [] ∧ wr.heap[gx]? = some (.cells #[.slice A p.data.length cap, .slice A2 p.code.length cap2] 33 (0, 0))) (fun _ i _ => p.data.length - (intOf i).toNat)
  case atStart => exact ⟨0, 0, [], by omega, rfl, rfl, by omega, by omega, rfl, HK0.out, HX0.out⟩
  case round =>
    rename World => wr
    obtain ⟨j, m, ps, hj, rfl, rfl, hm0, hm1, hf, hk, hx⟩ := hrel
    have HF := Lib.hid hf
    have HK := Lib.hid hk
    have HX := Lib.hid hx
    clear hf hk hx
    by_cases hlt : j < p.data.length
    · obtain ⟨d, hd⟩ : ∃ d, p.data[j]? = some d := ⟨_, List.getElem?_eq_getElem hlt⟩
      obtain ⟨b, o, cs, hAe, e1, e2, vdd, e3, k1, k2, k3, k4, k5⟩ := HID.out j d hd
      subst hAe
      subst e3
      have HS := Lib.hid (fun s' h => foldlM_snoc datS hd (0, []) s' h)
      obtain ⟨Ad, capd, rfl, _, md, _⟩ := k3
      have r0 := later (e2 0 (by omega)) HK.out.bel
      have r1 := later (e2 1 (by omega)) HK.out.bel
      have r2 := later (e2 2 (by omega)) HK.out.bel
      have r3 := later (e2 3 (by omega)) HK.out.bel
      rw [Nat.add_zero] at r0
      have rl := World.block_lt_of_cell? _ _ r0
      have HBd := Lib.hid (below_alloc (.cells #[.int .i64 d.kind, .string d.name, .slice Ad d.data.length capd, .int .i64 d.n] 25) (Below.refl wr.heap.size wr))
      have HXd := Lib.hid (blk_new wr (.cells #[.int .i64 d.kind, .string d.name, .slice Ad d.data.length capd, .int .i64 d.n] 25))
      clear e1 e2 hd md
      go_upto_region 5 with (fail)
      obtain ⟨wd, hwd⟩ : ∃ z, z = wr.alloc (.cells #[.int .i64 d.kind, .string d.name, .slice Ad d.data.length capd, .int .i64 d.n] 25) := ⟨_, rfl⟩
      obtain ⟨gd, hgd⟩ : ∃ z, z = wr.heap.size := ⟨_, rfl⟩
      rw [← hwd] at HBd HXd ⊢
      rw [← hgd] at HXd ⊢
      have HKd := Lib.hid (HK.out.later HBd.out)
      have HXx := Lib.hid (blk_below HX.out HBd.out)
      have q0 := blk_cell (i := 0) HXd.out rfl
      have q1 := blk_cell (i := 1) HXd.out rfl
      have q2 := blk_cell (i := 2) HXd.out rfl
      have q3 := blk_cell (i := 3) HXd.out rfl
      have ql := blk_lt HXd.out
      clear hwd hgd r0 r1 r2 r3 rl
      obtain ⟨es, ck, hmp, hme⟩ := HKd.out.pm
      have t0 := blk_cell (i := 0) HKd.out.box rfl
      have tl := blk_lt HKd.out.box
      have HSd := Lib.hid (HS.out (m, ps) HF.out)
      by_cases hk0 : d.kind = 0
      · have b0 : (d.kind == 0) = true := by simpa using hk0
        have HLK := Lib.hid (fun (W : World) (hW : W.heap[gp]? = some (.map es ck)) => run_lookI (P := Tryd.prog) Tryd.underlying52 Tryd.underlying9 (w := W) (fun w => rfl) hW hme (nmL d.name))
        have hdn : (⟨⟨nmL d.name⟩⟩ : ByteArray) = d.name := rfl
        rw [hdn] at HLK
        clear hdn
        have HK0 := Lib.hid hk0
        clear hk0
        cases hl : lookI ps (nmL d.name) with
        | some v =>
          rw [hl] at HLK
          have HL := Lib.hid hl
          clear hl
          go_upto_region 10 with (fail)
          refine upto_begin 6 (fun w' => w'.cell? ⟨gk, 0, none⟩ = some (.map (some gp)) ∧ w'.cell? ⟨gd, 1, none⟩ = some (.string d.name)) (by kernel_rfl) ?_ (fun hU0 => ?_)
          · exact ⟨t0, q1⟩
          first | refine upto_run 0 (v := ?_) hU0 (by kernel_rfl) rfl (by kernel_rfl) (by kernel_rfl) (by kernel_rfl) (by kernel_rfl) (fun _ _ _ h => h) (Or.inl ⟨by rfl, ?_⟩) ?_ | fail
          rotate_left
          · first | (intro w _; go_simp; with_reducible rfl) | (intro w _; go_simp; done) | (intro w _; go_simp; rw [if_neg (by omega)]) | fail
          try simp only [Act.put, List.setIfInBounds_toArray, List.set_cons_zero, List.set_cons_succ]
          first | refine upto_run 1 (v := ?_) hU0 (by kernel_rfl) rfl (by kernel_rfl) (by kernel_rfl) (by kernel_rfl) (by kernel_rfl) (fun _ _ _ h => h) (Or.inl ⟨by rfl, ?_⟩) ?_ | fail
          rotate_left
          · first | (intro w _; go_simp; with_reducible rfl) | (intro w _; go_simp; done) | (intro w _; go_simp; rw [if_neg (by omega)]) | fail
          try simp only [Act.put, List.setIfInBounds_toArray, List.set_cons_zero, List.set_cons_succ]
          first | refine upto_run 2 (v := ?_) hU0 (by kernel_rfl) rfl (by kernel_rfl) (by kernel_rfl) (by kernel_rfl) (by kernel_rfl) (fun _ _ _ h => h) (Or.inl ⟨by rfl, ?_⟩) ?_ | fail
          rotate_left
          · first | (intro w _; go_simp; with_reducible rfl) | (intro w _; go_simp; done) | (intro w _; go_simp; rw [if_neg (by omega)]) | fail
          try simp only [Act.put, List.setIfInBounds_toArray, List.set_cons_zero, List.set_cons_succ]
          first | refine upto_run 4 (v := ?_) hU0 (by kernel_rfl) rfl (by kernel_rfl) (by kernel_rfl) (by kernel_rfl) (by kernel_rfl) (fun _ _ _ h => h) (Or.inl ⟨by rfl, ?_⟩) ?_ | fail
          rotate_left
          · first | (intro w _; go_simp; with_reducible rfl) | (intro w _; go_simp; done) | (intro w _; go_simp; rw [if_neg (by omega)]) | fail
          try simp only [Act.put, List.setIfInBounds_toArray, List.set_cons_zero, List.set_cons_succ]
          first | refine upto_read 3 (v := ?_) hU0 (by kernel_rfl) rfl (by kernel_rfl) (by kernel_rfl) (by kernel_rfl) (by kernel_rfl) (by kernel_rfl) (fun _ _ _ h => h) (Or.inl ⟨by rfl, ?_⟩) ?_ | fail
          rotate_left
          · first | (intro w hSw; (try dsimp only at hSw); go_simp; with_reducible rfl) | (intro w hSw; (try dsimp only at hSw); go_simp; done) | fail
          try simp only [Act.put, List.setIfInBounds_toArray, List.set_cons_zero, List.set_cons_succ]
          first | refine upto_read 5 (v := ?_) hU0 (by kernel_rfl) rfl (by kernel_rfl) (by kernel_rfl) (by kernel_rfl) (by kernel_rfl) (by kernel_rfl) (fun _ _ _ h => h) (Or.inl ⟨by rfl, ?_⟩) ?_ | fail
          rotate_left
          · first | (intro w hSw; (try dsimp only at hSw); go_simp; with_reducible rfl) | (intro w hSw; (try dsimp only at hSw); go_simp; done) | fail
          try simp only [Act.put, List.setIfInBounds_toArray, List.set_cons_zero, List.set_cons_succ]
          first | refine upto_next 6 rfl (by kernel_rfl) (fun K hK => ?_) | fail
          have hlk := HLK.out wd hmp
          have hlk2 := HLK.out wd.drew hmp
          go_simp
          first | refine hK.out _ _ ?_ (fun hU1 => ?_) | (go_wp2_with fail; refine hK.out _ _ ?_ (fun hU1 => ?_)) | fail
          · exact Or.inl (by kernel_rfl)
          clear hK K
          clear hU0
          try simp only [Act.put, List.setIfInBounds_toArray, List.set_cons_zero, List.set_cons_succ]
          first | refine upto_run 7 (v := ?_) hU1 (by kernel_rfl) rfl (by kernel_rfl) (by kernel_rfl) (by kernel_rfl) (by kernel_rfl) (fun _ _ _ h => h) (Or.inl ⟨by rfl, ?_⟩) ?_ | fail
          rotate_left
          · first | (intro w _; go_simp; with_reducible rfl) | (intro w _; go_simp; done) | (intro w _; go_simp; rw [if_neg (by omega)]) | fail
          try simp only [Act.put, List.setIfInBounds_toArray, List.set_cons_zero, List.set_cons_succ]
          first | refine upto_run 8 (v := ?_) hU1 (by kernel_rfl) rfl (by kernel_rfl) (by kernel_rfl) (by kernel_rfl) (by kernel_rfl) (fun _ _ _ h => h) (Or.inl ⟨by rfl, ?_⟩) ?_ | fail
          rotate_left
          · first | (intro w _; go_simp; with_reducible rfl) | (intro w _; go_simp; done) | (intro w _; go_simp; rw [if_neg (by omega)]) | fail
          try simp only [Act.put, List.setIfInBounds_toArray, List.set_cons_zero, List.set_cons_succ]
          first | refine upto_run 9 (v := ?_) hU1 (by kernel_rfl) rfl (by kernel_rfl) (by kernel_rfl) (by kernel_rfl) (by kernel_rfl) (fun _ _ _ h => h) (Or.inl ⟨by rfl, ?_⟩) ?_ | fail
          rotate_left
          · first | (intro w _; go_simp; with_reducible rfl) | (intro w _; go_simp; done) | (intro w _; go_simp; rw [if_neg (by omega)]) | fail
          try simp only [Act.put, List.setIfInBounds_toArray, List.set_cons_zero, List.set_cons_succ]
          first | refine upto_run 10 (v := ?_) hU1 (by kernel_rfl) rfl (by kernel_rfl) (by kernel_rfl) (by kernel_rfl) (by kernel_rfl) (fun _ _ _ h => h) (Or.inl ⟨by rfl, ?_⟩) ?_ | fail
          rotate_left
          · first | (intro w _; go_simp; with_reducible rfl) | (intro w _; go_simp; done) | (intro w _; go_simp; rw [if_neg (by omega)]) | fail
          try simp only [Act.put, List.setIfInBounds_toArray, List.set_cons_zero, List.set_cons_succ]
          first | refine upto_run 11 (v := ?_) hU1 (by kernel_rfl) rfl (by kernel_rfl) (by kernel_rfl) (by kernel_rfl) (by kernel_rfl) (fun _ _ _ h => h) (Or.inl ⟨by rfl, ?_⟩) ?_ | fail
          rotate_left
          · first | (intro w _; go_simp; with_reducible rfl) | (intro w _; go_simp; done) | (intro w _; go_simp; rw [if_neg (by omega)]) | fail
          try simp only [Act.put, List.setIfInBounds_toArray, List.set_cons_zero, List.set_cons_succ]
          refine upto_done (by kernel_rfl) ?_ _
          go_wp2_with fail
          go_returns
          refine ⟨0, 31, rfl, Or.inr ⟨by decide, by first | exact HKd.out.bel | exact Below.drew HKd.out.bel, Or.inl (foldlM_err datS (k := j + 1) ?_)⟩⟩
          rw [HSd.out]
          unfold datS
          rw [if_pos HK0.out]
          simp only [HL.out]
        | none =>
          rw [hl] at HLK
          have HST := Lib.hid (fun (W : World) (hW : W.heap[gp]? = some (.map es ck)) => run_storeI (P := Tryd.prog) Tryd.underlying52 Tryd.underlying9 (w := W) hW hme (nmL d.name) hl (.int .i64 (IntKind.i64.wrap (65536 + m))))
          have hdn : (⟨⟨nmL d.name⟩⟩ : ByteArray) = d.name := rfl
          rw [hdn] at HST
          clear hdn
          have HL := Lib.hid hl
          clear hl
          go_upto_region 10 with (fail)
          refine upto_begin 6 (fun w' => w'.cell? ⟨gk, 0, none⟩ = some (.map (some gp)) ∧ w'.cell? ⟨gd, 1, none⟩ = some (.string d.name)) (by kernel_rfl) ?_ (fun hU0 => ?_)
          · exact ⟨t0, q1⟩
          first | refine upto_run 0 (v := ?_) hU0 (by kernel_rfl) rfl (by kernel_rfl) (by kernel_rfl) (by kernel_rfl) (by kernel_rfl) (fun _ _ _ h => h) (Or.inl ⟨by rfl, ?_⟩) ?_ | fail
          rotate_left
          · first | (intro w _; go_simp; with_reducible rfl) | (intro w _; go_simp; done) | (intro w _; go_simp; rw [if_neg (by omega)]) | fail
          try simp only [Act.put, List.setIfInBounds_toArray, List.set_cons_zero, List.set_cons_succ]
          first | refine upto_run 1 (v := ?_) hU0 (by kernel_rfl) rfl (by kernel_rfl) (by kernel_rfl) (by kernel_rfl) (by kernel_rfl) (fun _ _ _ h => h) (Or.inl ⟨by rfl, ?_⟩) ?_ | fail
          rotate_left
          · first | (intro w _; go_simp; with_reducible rfl) | (intro w _; go_simp; done) | (intro w _; go_simp; rw [if_neg (by omega)]) | fail
          try simp only [Act.put, List.setIfInBounds_toArray, List.set_cons_zero, List.set_cons_succ]
          first | refine upto_run 2 (v := ?_) hU0 (by kernel_rfl) rfl (by kernel_rfl) (by kernel_rfl) (by kernel_rfl) (by kernel_rfl) (fun _ _ _ h => h) (Or.inl ⟨by rfl, ?_⟩) ?_ | fail
          rotate_left
          · first | (intro w _; go_simp; with_reducible rfl) | (intro w _; go_simp; done) | (intro w _; go_simp; rw [if_neg (by omega)]) | fail
          try simp only [Act.put, List.setIfInBounds_toArray, List.set_cons_zero, List.set_cons_succ]
          first | refine upto_run 4 (v := ?_) hU0 (by kernel_rfl) rfl (by kernel_rfl) (by kernel_rfl) (by kernel_rfl) (by kernel_rfl) (fun _ _ _ h => h) (Or.inl ⟨by rfl, ?_⟩) ?_ | fail
          rotate_left
          · first | (intro w _; go_simp; with_reducible rfl) | (intro w _; go_simp; done) | (intro w _; go_simp; rw [if_neg (by omega)]) | fail
          try simp only [Act.put, List.setIfInBounds_toArray, List.set_cons_zero, List.set_cons_succ]
          first | refine upto_read 3 (v := ?_) hU0 (by kernel_rfl) rfl (by kernel_rfl) (by kernel_rfl) (by kernel_rfl) (by kernel_rfl) (by kernel_rfl) (fun _ _ _ h => h) (Or.inl ⟨by rfl, ?_⟩) ?_ | fail
          rotate_left
          · first | (intro w hSw; (try dsimp only at hSw); go_simp; with_reducible rfl) | (intro w hSw; (try dsimp only at hSw); go_simp; done) | fail
          try simp only [Act.put, List.setIfInBounds_toArray, List.set_cons_zero, List.set_cons_succ]
          first | refine upto_read 5 (v := ?_) hU0 (by kernel_rfl) rfl (by kernel_rfl) (by kernel_rfl) (by kernel_rfl) (by kernel_rfl) (by kernel_rfl) (fun _ _ _ h => h) (Or.inl ⟨by rfl, ?_⟩) ?_ | fail
          rotate_left
          · first | (intro w hSw; (try dsimp only at hSw); go_simp; with_reducible rfl) | (intro w hSw; (try dsimp only at hSw); go_simp; done) | fail
          try simp only [Act.put, List.setIfInBounds_toArray, List.set_cons_zero, List.set_cons_succ]
          first | refine upto_next 6 rfl (by kernel_rfl) (fun K hK => ?_) | fail
          have hlk := HLK.out wd hmp
          have hlk2 := HLK.out wd.drew hmp
          go_simp
          first | refine hK.out _ _ ?_ (fun hU1 => ?_) | (go_wp2_with fail; refine hK.out _ _ ?_ (fun hU1 => ?_)) | fail
          · exact Or.inl (by kernel_rfl)
          clear hK K
          clear hU0
          try simp only [Act.put, List.setIfInBounds_toArray, List.set_cons_zero, List.set_cons_succ]
          first | refine upto_run 7 (v := ?_) hU1 (by kernel_rfl) rfl (by kernel_rfl) (by kernel_rfl) (by kernel_rfl) (by kernel_rfl) (fun _ _ _ h => h) (Or.inl ⟨by rfl, ?_⟩) ?_ | fail
          rotate_left
          · first | (intro w _; go_simp; with_reducible rfl) | (intro w _; go_simp; done) | (intro w _; go_simp; rw [if_neg (by omega)]) | fail
          try simp only [Act.put, List.setIfInBounds_toArray, List.set_cons_zero, List.set_cons_succ]
          first | refine upto_run 8 (v := ?_) hU1 (by kernel_rfl) rfl (by kernel_rfl) (by kernel_rfl) (by kernel_rfl) (by kernel_rfl) (fun _ _ _ h => h) (Or.inl ⟨by rfl, ?_⟩) ?_ | fail
          rotate_left
          · first | (intro w _; go_simp; with_reducible rfl) | (intro w _; go_simp; done) | (intro w _; go_simp; rw [if_neg (by omega)]) | fail
          try simp only [Act.put, List.setIfInBounds_toArray, List.set_cons_zero, List.set_cons_succ]
          first | refine upto_run 9 (v := ?_) hU1 (by kernel_rfl) rfl (by kernel_rfl) (by kernel_rfl) (by kernel_rfl) (by kernel_rfl) (fun _ _ _ h => h) (Or.inl ⟨by rfl, ?_⟩) ?_ | fail
          rotate_left
          · first | (intro w _; go_simp; with_reducible rfl) | (intro w _; go_simp; done) | (intro w _; go_simp; rw [if_neg (by omega)]) | fail
          try simp only [Act.put, List.setIfInBounds_toArray, List.set_cons_zero, List.set_cons_succ]
          first | refine upto_run 10 (v := ?_) hU1 (by kernel_rfl) rfl (by kernel_rfl) (by kernel_rfl) (by kernel_rfl) (by kernel_rfl) (fun _ _ _ h => h) (Or.inl ⟨by rfl, ?_⟩) ?_ | fail
          rotate_left
          · first | (intro w _; go_simp; with_reducible rfl) | (intro w _; go_simp; done) | (intro w _; go_simp; rw [if_neg (by omega)]) | fail
          try simp only [Act.put, List.setIfInBounds_toArray, List.set_cons_zero, List.set_cons_succ]
          first | refine upto_run 11 (v := ?_) hU1 (by kernel_rfl) rfl (by kernel_rfl) (by kernel_rfl) (by kernel_rfl) (by kernel_rfl) (fun _ _ _ h => h) (Or.inl ⟨by rfl, ?_⟩) ?_ | fail
          rotate_left
          · first | (intro w _; go_simp; with_reducible rfl) | (intro w _; go_simp; done) | (intro w _; go_simp; rw [if_neg (by omega)]) | fail
          try simp only [Act.put, List.setIfInBounds_toArray, List.set_cons_zero, List.set_cons_succ]
          refine upto_done (by kernel_rfl) ?_ _
          go_upto_region 13 with (fail)
          refine upto_begin 8 (fun w' => w'.cell? ⟨gk, 0, none⟩ = some (.map (some gp)) ∧ w'.cell? ⟨gd, 1, none⟩ = some (.string d.name)) (by kernel_rfl) ?_ (fun hU0 => ?_)
          · exact ⟨t0, q1⟩
          first | refine upto_run 0 (v := ?_) hU0 (by kernel_rfl) rfl (by kernel_rfl) (by kernel_rfl) (by kernel_rfl) (by kernel_rfl) (fun _ _ _ h => h) (Or.inl ⟨by rfl, ?_⟩) ?_ | fail
          rotate_left
          · first | (intro w _; go_simp; with_reducible rfl) | (intro w _; go_simp; done) | (intro w _; go_simp; rw [if_neg (by omega)]) | fail
          try simp only [Act.put, List.setIfInBounds_toArray, List.set_cons_zero, List.set_cons_succ]
          first | refine upto_run 1 (v := ?_) hU0 (by kernel_rfl) rfl (by kernel_rfl) (by kernel_rfl) (by kernel_rfl) (by kernel_rfl) (fun _ _ _ h => h) (Or.inl ⟨by rfl, ?_⟩) ?_ | fail
          rotate_left
          · first | (intro w _; go_simp; with_reducible rfl) | (intro w _; go_simp; done) | (intro w _; go_simp; rw [if_neg (by omega)]) | fail
          try simp only [Act.put, List.setIfInBounds_toArray, List.set_cons_zero, List.set_cons_succ]
          first | refine upto_run 2 (v := ?_) hU0 (by kernel_rfl) rfl (by kernel_rfl) (by kernel_rfl) (by kernel_rfl) (by kernel_rfl) (fun _ _ _ h => h) (Or.inl ⟨by rfl, ?_⟩) ?_ | fail
          rotate_left
          · first | (intro w _; go_simp; with_reducible rfl) | (intro w _; go_simp; done) | (intro w _; go_simp; rw [if_neg (by omega)]) | fail
          try simp only [Act.put, List.setIfInBounds_toArray, List.set_cons_zero, List.set_cons_succ]
          first | refine upto_run 4 (v := ?_) hU0 (by kernel_rfl) rfl (by kernel_rfl) (by kernel_rfl) (by kernel_rfl) (by kernel_rfl) (fun _ _ _ h => h) (Or.inl ⟨by rfl, ?_⟩) ?_ | fail
          rotate_left
          · first | (intro w _; go_simp; with_reducible rfl) | (intro w _; go_simp; done) | (intro w _; go_simp; rw [if_neg (by omega)]) | fail
          try simp only [Act.put, List.setIfInBounds_toArray, List.set_cons_zero, List.set_cons_succ]
          first | refine upto_run 6 (v := ?_) hU0 (by kernel_rfl) rfl (by kernel_rfl) (by kernel_rfl) (by kernel_rfl) (by kernel_rfl) (fun _ _ _ h => h) (Or.inl ⟨by rfl, ?_⟩) ?_ | fail
          rotate_left
          · first | (intro w _; go_simp; with_reducible rfl) | (intro w _; go_simp; done) | (intro w _; go_simp; rw [if_neg (by omega)]) | fail
          try simp only [Act.put, List.setIfInBounds_toArray, List.set_cons_zero, List.set_cons_succ]
          first | refine upto_run 7 (v := ?_) hU0 (by kernel_rfl) rfl (by kernel_rfl) (by kernel_rfl) (by kernel_rfl) (by kernel_rfl) (fun _ _ _ h => h) (Or.inl ⟨by rfl, ?_⟩) ?_ | fail
          rotate_left
          · first | (intro w _; go_simp; with_reducible rfl) | (intro w _; go_simp; done) | (intro w _; go_simp; rw [if_neg (by omega)]) | fail
          try simp only [Act.put, List.setIfInBounds_toArray, List.set_cons_zero, List.set_cons_succ]
          first | refine upto_read 3 (v := ?_) hU0 (by kernel_rfl) rfl (by kernel_rfl) (by kernel_rfl) (by kernel_rfl) (by kernel_rfl) (by kernel_rfl) (fun _ _ _ h => h) (Or.inl ⟨by rfl, ?_⟩) ?_ | fail
          rotate_left
          · first | (intro w hSw; (try dsimp only at hSw); go_simp; with_reducible rfl) | (intro w hSw; (try dsimp only at hSw); go_simp; done) | fail
          try simp only [Act.put, List.setIfInBounds_toArray, List.set_cons_zero, List.set_cons_succ]
          first | refine upto_read 5 (v := ?_) hU0 (by kernel_rfl) rfl (by kernel_rfl) (by kernel_rfl) (by kernel_rfl) (by kernel_rfl) (by kernel_rfl) (fun _ _ _ h => h) (Or.inl ⟨by rfl, ?_⟩) ?_ | fail
          rotate_left
          · first | (intro w hSw; (try dsimp only at hSw); go_simp; with_reducible rfl) | (intro w hSw; (try dsimp only at hSw); go_simp; done) | fail
          try simp only [Act.put, List.setIfInBounds_toArray, List.set_cons_zero, List.set_cons_succ]
          first | refine upto_next 8 rfl (by kernel_rfl) (fun K hK => ?_) | fail
          have h1 := HST.out wd.drew hmp
          have h2 := HST.out wd.drew.drew hmp
          have h3 := HST.out wd hmp
          go_simp
          first | refine hK.out _ _ ?_ (fun hU1 => ?_) | (go_wp2_with fail; refine hK.out _ _ ?_ (fun hU1 => ?_)) | fail
          · exact Or.inl (by kernel_rfl)
          clear hK K
          clear hU0
          try simp only [Act.put, List.setIfInBounds_toArray, List.set_cons_zero, List.set_cons_succ]
          refine upto_done (by kernel_rfl) ?_ _
          go_wp2_with fail
          go_roundw
          case rel =>
            refine ⟨j + 1, m, ps ++ [(nmL d.name, 65536 + m)], by omega, by go_num, rfl, hm0, hm1, ?_, ?_, ?_⟩
            · rw [HSd.out]
              unfold datS
              rw [if_pos HK0.out]
              simp only [HL.out]
              unfold datE
              rw [if_neg (by omega)]
            · exact (HKd.out.later (Below.drew (Below.drew (Below.refl _ _)))).putP hmp hme (nmL d.name) (65536 + m)
            · exact (setObj_ne (by rintro rfl; rw [HXx.out] at hmp; cases hmp) _).trans HXx.out
          case measure => simp [intOf]; omega
      · have b0 : (d.kind == 0) = false := by simpa using hk0
        have HK0 := Lib.hid hk0
        clear hk0 t0 tl
        by_cases hk1 : d.kind = 1
        · have b1 : (d.kind == 1) = true := by simpa using hk1
          have HE := Lib.hid (show datS (m, ps) d = datE (m + d.data.length) ps by unfold datS; rw [if_neg HK0.out, if_pos hk1])
          clear hk1
          have hlen := k4
          obtain ⟨n1, hn1⟩ : ∃ n1 : Int, n1 = m + (d.data.length : Int) := ⟨_, rfl⟩
          have hw1 : IntKind.i64.wrap (m + (d.data.length : Int)) = n1 := by rw [hn1]; exact IntWalk.i64_in _ (by omega)
          rw [← hn1] at HE
          by_cases hbig : 65536 < n1
          · have dbig : decide (n1 > 65536) = true := by simpa using hbig
            have dbig2 : decide (65536 < n1) = true := by simpa using hbig
            clear hn1
            go_wp2_with fail
            go_returns
            refine ⟨0, 2, rfl, Or.inr ⟨by decide, by first | exact HKd.out.bel | exact Below.drew HKd.out.bel, Or.inl (foldlM_err datS (k := j + 1) ?_)⟩⟩
            rw [HSd.out, HE.out]
            unfold datE
            rw [if_pos hbig]
          · have dbig : decide (n1 > 65536) = false := by simpa using hbig
            have dbig2 : decide (65536 < n1) = false := by simpa using hbig
            have hn2 : 0 ≤ n1 := by omega
            clear hn1
            go_wp2_with fail
            go_roundw
            case rel =>
              refine ⟨j + 1, n1, ps, by omega, by go_num, rfl, hn2, by omega, ?_, ?_, ?_⟩
              · rw [HSd.out, HE.out]
                unfold datE
                rw [if_neg hbig]
              · first | exact HKd.out | exact HKd.out.later (Below.drew (Below.refl _ _))
              · exact HXx.out
            case measure => simp [intOf]; omega
        · have b1 : (d.kind == 1) = false := by simpa using hk1
          have HK1 := Lib.hid hk1
          clear hk1
          by_cases hk2 : d.kind = 2
          · have b2 : (d.kind == 2) = true := by simpa using hk2
            have HE := Lib.hid (show datS (m, ps) d = datE (m + 8) ps by unfold datS; rw [if_neg HK0.out, if_neg HK1.out, if_pos hk2])
            clear hk2
            obtain ⟨n1, hn1⟩ : ∃ n1 : Int, n1 = m + 8 := ⟨_, rfl⟩
            have hw1 : IntKind.i64.wrap (m + 8) = n1 := by rw [hn1]; exact IntWalk.i64_in _ (by omega)
            rw [← hn1] at HE
            by_cases hbig : 65536 < n1
            · have dbig : decide (n1 > 65536) = true := by simpa using hbig
              have dbig2 : decide (65536 < n1) = true := by simpa using hbig
              clear hn1
              go_wp2_with fail
              go_returns
              refine ⟨0, 2, rfl, Or.inr ⟨by decide, by first | exact HKd.out.bel | exact Below.drew HKd.out.bel, Or.inl (foldlM_err datS (k := j + 1) ?_)⟩⟩
              rw [HSd.out, HE.out]
              unfold datE
              rw [if_pos hbig]
            · have dbig : decide (n1 > 65536) = false := by simpa using hbig
              have dbig2 : decide (65536 < n1) = false := by simpa using hbig
              have hn2 : 0 ≤ n1 := by omega
              clear hn1
              go_wp2_with fail
              go_roundw
              case rel =>
                refine ⟨j + 1, n1, ps, by omega, by go_num, rfl, hn2, by omega, ?_, ?_, ?_⟩
                · rw [HSd.out, HE.out]
                  unfold datE
                  rw [if_neg hbig]
                · first | exact HKd.out | exact HKd.out.later (Below.drew (Below.refl _ _))
                · exact HXx.out
              case measure => simp [intOf]; omega
          · have b2 : (d.kind == 2) = false := by simpa using hk2
            have HK2 := Lib.hid hk2
            clear hk2
            by_cases hn0 : d.n < 0
            · have dn0 : decide (d.n < 0) = true := by simpa using hn0
              have HE := Lib.hid (show datS (m, ps) d = .error 2 by unfold datS; rw [if_neg HK0.out, if_neg HK1.out, if_neg HK2.out, if_pos (Or.inl hn0)])
              go_wp2_with fail
              go_returns
              refine ⟨0, 2, rfl, Or.inr ⟨by decide, by first | exact HKd.out.bel | exact Below.drew HKd.out.bel, Or.inl (foldlM_err datS (k := j + 1) ?_)⟩⟩
              rw [HSd.out, HE.out]
            · have dn0 : decide (d.n < 0) = false := by simpa using hn0
              by_cases hn1 : 65536 < d.n
              · have dn1 : decide (d.n > 65536) = true := by simpa using hn1
                have HE := Lib.hid (show datS (m, ps) d = .error 2 by unfold datS; rw [if_neg HK0.out, if_neg HK1.out, if_neg HK2.out, if_pos (Or.inr hn1)])
                go_wp2_with fail
                go_returns
                refine ⟨0, 2, rfl, Or.inr ⟨by decide, by first | exact HKd.out.bel | exact Below.drew HKd.out.bel, Or.inl (foldlM_err datS (k := j + 1) ?_)⟩⟩
                rw [HSd.out, HE.out]
              · have dn1 : decide (d.n > 65536) = false := by simpa using hn1
                have HE := Lib.hid (show datS (m, ps) d = datE (m + d.n) ps by unfold datS; rw [if_neg HK0.out, if_neg HK1.out, if_neg HK2.out, if_neg (by omega)])
                obtain ⟨n1, hn1⟩ : ∃ n1 : Int, n1 = m + d.n := ⟨_, rfl⟩
                have hw1 : IntKind.i64.wrap (m + d.n) = n1 := by rw [hn1]; exact IntWalk.i64_in _ (by omega)
                rw [← hn1] at HE
                by_cases hbig : 65536 < n1
                · have dbig : decide (n1 > 65536) = true := by simpa using hbig
                  have dbig2 : decide (65536 < n1) = true := by simpa using hbig
                  clear hn1
                  go_wp2_with fail
                  go_returns
                  refine ⟨0, 2, rfl, Or.inr ⟨by decide, by first | exact HKd.out.bel | exact Below.drew HKd.out.bel, Or.inl (foldlM_err datS (k := j + 1) ?_)⟩⟩
                  rw [HSd.out, HE.out]
                  unfold datE
                  rw [if_pos hbig]
                · have dbig : decide (n1 > 65536) = false := by simpa using hbig
                  have dbig2 : decide (65536 < n1) = false := by simpa using hbig
                  have hn2 : 0 ≤ n1 := by omega
                  clear hn1
                  go_wp2_with fail
                  go_roundw
                  case rel =>
                    refine ⟨j + 1, n1, ps, by omega, by go_num, rfl, hn2, by omega, ?_, ?_, ?_⟩
                    · rw [HSd.out, HE.out]
                      unfold datE
                      rw [if_neg hbig]
                    · first | exact HKd.out | exact HKd.out.later (Below.drew (Below.refl _ _))
                    · exact HXx.out
                  case measure => simp [intOf]; omega
    · have e : j = p.data.length := by omega
      subst e
      have HF1 := Lib.hid (show p.data.foldlM datS (0, []) = .ok (m, ps) by have h := HF.out; rwa [List.take_length] at h)
      have x1 := blk_cell (i := 1) HX.out rfl
      have xl := blk_lt HX.out
      clear HX HF HID HX0 HB0 HK0
      go_wp2_with fail
      clear x1 xl
      obtain ⟨wq, hwq⟩ : ∃ wq, wq = wr := ⟨_, rfl⟩
      rw [← hwq] at HK ⊢
      clear hwq wr
      go_loopw [11, 75] (fun n i wr => ∃ (j : Nat) (q : Int) (ps2 cs : Plc), j ≤ p.code.length ∧ i = .int .i64 (j : Nat) ∧ n = .int .i64 q ∧ 0 ≤ q ∧ q ≤ j ∧ (p.code.take j).foldlM itS (0, ps, []) = .ok (q, ps2, cs) ∧ LkM w0 wr gk gp gc ps2 cs ∧ ∀ y, lookI ps2 y = none → lookI cs y = none) (fun _ i _ => p.code.length - (intOf i).toNat)
      case atStart => exact ⟨0, 0, ps, [], by omega, rfl, rfl, by omega, by omega, rfl, HK.out, fun _ _ => rfl⟩
      case round =>
        rename World => wr
        obtain ⟨j, q, ps2, cs, hj, rfl, rfl, hq0, hq1, hf, hk, hsub⟩ := hrel
        have HF := Lib.hid hf
        clear HK
        have HK := Lib.hid hk
        have HSUB := Lib.hid hsub
        clear hf hk hsub
        by_cases hlt : j < p.code.length
        · obtain ⟨x, hx⟩ : ∃ x, p.code[j]? = some x := ⟨_, List.getElem?_eq_getElem hlt⟩
          obtain ⟨b, o, css, hAe, e1, e2, e3, k1⟩ := HIC.out j x hx
          clear k1
          subst hAe
          subst e3
          have HS := Lib.hid (fun s' h => foldlM_snoc itS hx (0, ps, []) s' h)
          have HSd := Lib.hid (HS.out (q, ps2, cs) HF.out)
          have r0 := later (e2 0 (by omega)) HK.out.bel
          have r1 := later (e2 1 (by omega)) HK.out.bel
          have r2 := later (e2 2 (by omega)) HK.out.bel
          have r3 := later (e2 3 (by omega)) HK.out.bel
          have r4 := later (e2 4 (by omega)) HK.out.bel
          have r5 := later (e2 5 (by omega)) HK.out.bel
          have r6 := later (e2 6 (by omega)) HK.out.bel
          have r7 := later (e2 7 (by omega)) HK.out.bel
          have r8 := later (e2 8 (by omega)) HK.out.bel
          rw [Nat.add_zero] at r0
          have rl := World.block_lt_of_cell? _ _ r0
          have HBd := Lib.hid (below_alloc (.cells #[.string x.label, .int .i64 x.ins.op, .int .i64 x.ins.dst, .int .i64 x.ins.src, .int .i64 x.ins.imm, .int .i64 x.ins.size, .bool x.ins.signed, .int .i64 x.ins.cond, .string x.ins.to_] 30) (Below.refl wr.heap.size wr))
          have HXd := Lib.hid (blk_new wr (.cells #[.string x.label, .int .i64 x.ins.op, .int .i64 x.ins.dst, .int .i64 x.ins.src, .int .i64 x.ins.imm, .int .i64 x.ins.size, .bool x.ins.signed, .int .i64 x.ins.cond, .string x.ins.to_] 30))
          clear e1 e2 hx HS
          go_upto_region 25 with (fail)
          obtain ⟨wd, hwd⟩ : ∃ z, z = wr.alloc (.cells #[.string x.label, .int .i64 x.ins.op, .int .i64 x.ins.dst, .int .i64 x.ins.src, .int .i64 x.ins.imm, .int .i64 x.ins.size, .bool x.ins.signed, .int .i64 x.ins.cond, .string x.ins.to_] 30) := ⟨_, rfl⟩
          obtain ⟨gd, hgd⟩ : ∃ z, z = wr.heap.size := ⟨_, rfl⟩
          rw [← hwd] at HBd HXd ⊢
          rw [← hgd] at HXd ⊢
          have HKd := Lib.hid (HK.out.later HBd.out)
          have q0 := blk_cell (i := 0) HXd.out rfl
          have ql := blk_lt HXd.out
          clear hwd hgd r0 r1 r2 r3 r4 r5 r6 r7 r8 rl HBd
          by_cases hlb : nmL x.label = []
          · have dX : x.label.toList.isEmpty = true := by rw [Lib.toList_data]; show (nmL x.label).isEmpty = true; rw [hlb]; rfl
            have HE := Lib.hid (show itS (q, ps2, cs) x = .ok (q + 1, ps2, cs) by unfold itS; rw [if_pos hlb])
            clear hlb
            go_wp2_with fail
            go_roundw
            case rel =>
              refine ⟨j + 1, q + 1, ps2, cs, by omega, by go_num, by go_num, by omega, by omega, ?_, ?_, HSUB.out⟩
              · rw [HSd.out, HE.out]
              · first | exact HKd.out | exact HKd.out.later (Below.drew (Below.refl _ _))
            case measure => simp [intOf]; omega
          · have dX : x.label.toList.isEmpty = false := by rw [Lib.toList_data]; show (nmL x.label).isEmpty = false; simpa using hlb
            have HLB := Lib.hid hlb
            clear hlb
            obtain ⟨es, ck, hmp, hme⟩ := HKd.out.pm
            have t0 := blk_cell (i := 0) HKd.out.box rfl
            have tl := blk_lt HKd.out.box
            have HLK := Lib.hid (fun (W : World) (hW : W.heap[gp]? = some (.map es ck)) => run_lookI (P := Tryd.prog) Tryd.underlying52 Tryd.underlying9 (w := W) (fun w => rfl) hW hme (nmL x.label))
            have hdn : (⟨⟨nmL x.label⟩⟩ : ByteArray) = x.label := rfl
            rw [hdn] at HLK
            clear hdn
            cases hl : lookI ps2 (nmL x.label) with
            | some v =>
              rw [hl] at HLK
              have HE := Lib.hid (show itS (q, ps2, cs) x = .error 31 by unfold itS; rw [if_neg HLB.out]; simp only [hl])
              clear hl
              go_upto_region 27 with (fail)
              refine upto_begin 6 (fun w' => w'.cell? ⟨gk, 0, none⟩ = some (.map (some gp)) ∧ w'.cell? ⟨gd, 0, none⟩ = some (.string x.label)) (by kernel_rfl) ?_ (fun hU0 => ?_)
              · exact ⟨t0, q0⟩
              first | refine upto_run 0 (v := ?_) hU0 (by kernel_rfl) rfl (by kernel_rfl) (by kernel_rfl) (by kernel_rfl) (by kernel_rfl) (fun _ _ _ h => h) (Or.inl ⟨by rfl, ?_⟩) ?_ | fail
              rotate_left
              · first | (intro w _; go_simp; with_reducible rfl) | (intro w _; go_simp; done) | (intro w _; go_simp; rw [if_neg (by omega)]) | fail
              try simp only [Act.put, List.setIfInBounds_toArray, List.set_cons_zero, List.set_cons_succ]
              first | refine upto_run 1 (v := ?_) hU0 (by kernel_rfl) rfl (by kernel_rfl) (by kernel_rfl) (by kernel_rfl) (by kernel_rfl) (fun _ _ _ h => h) (Or.inl ⟨by rfl, ?_⟩) ?_ | fail
              rotate_left
              · first | (intro w _; go_simp; with_reducible rfl) | (intro w _; go_simp; done) | (intro w _; go_simp; rw [if_neg (by omega)]) | fail
              try simp only [Act.put, List.setIfInBounds_toArray, List.set_cons_zero, List.set_cons_succ]
              first | refine upto_run 2 (v := ?_) hU0 (by kernel_rfl) rfl (by kernel_rfl) (by kernel_rfl) (by kernel_rfl) (by kernel_rfl) (fun _ _ _ h => h) (Or.inl ⟨by rfl, ?_⟩) ?_ | fail
              rotate_left
              · first | (intro w _; go_simp; with_reducible rfl) | (intro w _; go_simp; done) | (intro w _; go_simp; rw [if_neg (by omega)]) | fail
              try simp only [Act.put, List.setIfInBounds_toArray, List.set_cons_zero, List.set_cons_succ]
              first | refine upto_run 4 (v := ?_) hU0 (by kernel_rfl) rfl (by kernel_rfl) (by kernel_rfl) (by kernel_rfl) (by kernel_rfl) (fun _ _ _ h => h) (Or.inl ⟨by rfl, ?_⟩) ?_ | fail
              rotate_left
              · first | (intro w _; go_simp; with_reducible rfl) | (intro w _; go_simp; done) | (intro w _; go_simp; rw [if_neg (by omega)]) | fail
              try simp only [Act.put, List.setIfInBounds_toArray, List.set_cons_zero, List.set_cons_succ]
              first | refine upto_read 3 (v := ?_) hU0 (by kernel_rfl) rfl (by kernel_rfl) (by kernel_rfl) (by kernel_rfl) (by kernel_rfl) (by kernel_rfl) (fun _ _ _ h => h) (Or.inl ⟨by rfl, ?_⟩) ?_ | fail
              rotate_left
              · first | (intro w hSw; (try dsimp only at hSw); go_simp; with_reducible rfl) | (intro w hSw; (try dsimp only at hSw); go_simp; done) | fail
              try simp only [Act.put, List.setIfInBounds_toArray, List.set_cons_zero, List.set_cons_succ]
              first | refine upto_read 5 (v := ?_) hU0 (by kernel_rfl) rfl (by kernel_rfl) (by kernel_rfl) (by kernel_rfl) (by kernel_rfl) (by kernel_rfl) (fun _ _ _ h => h) (Or.inl ⟨by rfl, ?_⟩) ?_ | fail
              rotate_left
              · first | (intro w hSw; (try dsimp only at hSw); go_simp; with_reducible rfl) | (intro w hSw; (try dsimp only at hSw); go_simp; done) | fail
              try simp only [Act.put, List.setIfInBounds_toArray, List.set_cons_zero, List.set_cons_succ]
              first | refine upto_next 6 rfl (by kernel_rfl) (fun K hK => ?_) | fail
              have hlk := HLK.out wd hmp
              have hlk2 := HLK.out wd.drew hmp
              go_simp
              first | refine hK.out _ _ ?_ (fun hU1 => ?_) | (go_wp2_with fail; refine hK.out _ _ ?_ (fun hU1 => ?_)) | fail
              · exact Or.inl (by kernel_rfl)
              clear hK K
              clear hU0
              try simp only [Act.put, List.setIfInBounds_toArray, List.set_cons_zero, List.set_cons_succ]
              first | refine upto_run 7 (v := ?_) hU1 (by kernel_rfl) rfl (by kernel_rfl) (by kernel_rfl) (by kernel_rfl) (by kernel_rfl) (fun _ _ _ h => h) (Or.inl ⟨by rfl, ?_⟩) ?_ | fail
              rotate_left
              · first | (intro w _; go_simp; with_reducible rfl) | (intro w _; go_simp; done) | (intro w _; go_simp; rw [if_neg (by omega)]) | fail
              try simp only [Act.put, List.setIfInBounds_toArray, List.set_cons_zero, List.set_cons_succ]
              first | refine upto_run 8 (v := ?_) hU1 (by kernel_rfl) rfl (by kernel_rfl) (by kernel_rfl) (by kernel_rfl) (by kernel_rfl) (fun _ _ _ h => h) (Or.inl ⟨by rfl, ?_⟩) ?_ | fail
              rotate_left
              · first | (intro w _; go_simp; with_reducible rfl) | (intro w _; go_simp; done) | (intro w _; go_simp; rw [if_neg (by omega)]) | fail
              try simp only [Act.put, List.setIfInBounds_toArray, List.set_cons_zero, List.set_cons_succ]
              first | refine upto_run 9 (v := ?_) hU1 (by kernel_rfl) rfl (by kernel_rfl) (by kernel_rfl) (by kernel_rfl) (by kernel_rfl) (fun _ _ _ h => h) (Or.inl ⟨by rfl, ?_⟩) ?_ | fail
              rotate_left
              · first | (intro w _; go_simp; with_reducible rfl) | (intro w _; go_simp; done) | (intro w _; go_simp; rw [if_neg (by omega)]) | fail
              try simp only [Act.put, List.setIfInBounds_toArray, List.set_cons_zero, List.set_cons_succ]
              first | refine upto_run 10 (v := ?_) hU1 (by kernel_rfl) rfl (by kernel_rfl) (by kernel_rfl) (by kernel_rfl) (by kernel_rfl) (fun _ _ _ h => h) (Or.inl ⟨by rfl, ?_⟩) ?_ | fail
              rotate_left
              · first | (intro w _; go_simp; with_reducible rfl) | (intro w _; go_simp; done) | (intro w _; go_simp; rw [if_neg (by omega)]) | fail
              try simp only [Act.put, List.setIfInBounds_toArray, List.set_cons_zero, List.set_cons_succ]
              first | refine upto_run 11 (v := ?_) hU1 (by kernel_rfl) rfl (by kernel_rfl) (by kernel_rfl) (by kernel_rfl) (by kernel_rfl) (fun _ _ _ h => h) (Or.inl ⟨by rfl, ?_⟩) ?_ | fail
              rotate_left
              · first | (intro w _; go_simp; with_reducible rfl) | (intro w _; go_simp; done) | (intro w _; go_simp; rw [if_neg (by omega)]) | fail
              try simp only [Act.put, List.setIfInBounds_toArray, List.set_cons_zero, List.set_cons_succ]
              refine upto_done (by kernel_rfl) ?_ _
              go_wp2_with fail
              go_returns
              refine ⟨0, 31, rfl, Or.inr ⟨by decide, by first | exact HKd.out.bel | exact Below.drew HKd.out.bel, Or.inr ⟨m, ps, HF1.out, foldlM_err itS (k := j + 1) ?_⟩⟩⟩
              rw [HSd.out, HE.out]
            | none =>
              rw [hl] at HLK
              have HST := Lib.hid (fun (W : World) (hW : W.heap[gp]? = some (.map es ck)) => run_storeI (P := Tryd.prog) Tryd.underlying52 Tryd.underlying9 (w := W) hW hme (nmL x.label) hl (.int .i64 (IntKind.i64.wrap (4194304 + q))))
              have hdn : (⟨⟨nmL x.label⟩⟩ : ByteArray) = x.label := rfl
              rw [hdn] at HST
              clear hdn
              have HE := Lib.hid (show itS (q, ps2, cs) x = .ok (q, ps2 ++ [(nmL x.label, 4194304 + q)], cs ++ [(nmL x.label, q)]) by unfold itS; rw [if_neg HLB.out]; simp only [hl])
              have HLC := Lib.hid (HSUB.out _ hl)
              clear hl
              go_upto_region 27 with (fail)
              refine upto_begin 6 (fun w' => w'.cell? ⟨gk, 0, none⟩ = some (.map (some gp)) ∧ w'.cell? ⟨gd, 0, none⟩ = some (.string x.label)) (by kernel_rfl) ?_ (fun hU0 => ?_)
              · exact ⟨t0, q0⟩
              first | refine upto_run 0 (v := ?_) hU0 (by kernel_rfl) rfl (by kernel_rfl) (by kernel_rfl) (by kernel_rfl) (by kernel_rfl) (fun _ _ _ h => h) (Or.inl ⟨by rfl, ?_⟩) ?_ | fail
              rotate_left
              · first | (intro w _; go_simp; with_reducible rfl) | (intro w _; go_simp; done) | (intro w _; go_simp; rw [if_neg (by omega)]) | fail
              try simp only [Act.put, List.setIfInBounds_toArray, List.set_cons_zero, List.set_cons_succ]
              first | refine upto_run 1 (v := ?_) hU0 (by kernel_rfl) rfl (by kernel_rfl) (by kernel_rfl) (by kernel_rfl) (by kernel_rfl) (fun _ _ _ h => h) (Or.inl ⟨by rfl, ?_⟩) ?_ | fail
              rotate_left
              · first | (intro w _; go_simp; with_reducible rfl) | (intro w _; go_simp; done) | (intro w _; go_simp; rw [if_neg (by omega)]) | fail
              try simp only [Act.put, List.setIfInBounds_toArray, List.set_cons_zero, List.set_cons_succ]
              first | refine upto_run 2 (v := ?_) hU0 (by kernel_rfl) rfl (by kernel_rfl) (by kernel_rfl) (by kernel_rfl) (by kernel_rfl) (fun _ _ _ h => h) (Or.inl ⟨by rfl, ?_⟩) ?_ | fail
              rotate_left
              · first | (intro w _; go_simp; with_reducible rfl) | (intro w _; go_simp; done) | (intro w _; go_simp; rw [if_neg (by omega)]) | fail
              try simp only [Act.put, List.setIfInBounds_toArray, List.set_cons_zero, List.set_cons_succ]
              first | refine upto_run 4 (v := ?_) hU0 (by kernel_rfl) rfl (by kernel_rfl) (by kernel_rfl) (by kernel_rfl) (by kernel_rfl) (fun _ _ _ h => h) (Or.inl ⟨by rfl, ?_⟩) ?_ | fail
              rotate_left
              · first | (intro w _; go_simp; with_reducible rfl) | (intro w _; go_simp; done) | (intro w _; go_simp; rw [if_neg (by omega)]) | fail
              try simp only [Act.put, List.setIfInBounds_toArray, List.set_cons_zero, List.set_cons_succ]
              first | refine upto_read 3 (v := ?_) hU0 (by kernel_rfl) rfl (by kernel_rfl) (by kernel_rfl) (by kernel_rfl) (by kernel_rfl) (by kernel_rfl) (fun _ _ _ h => h) (Or.inl ⟨by rfl, ?_⟩) ?_ | fail
              rotate_left
              · first | (intro w hSw; (try dsimp only at hSw); go_simp; with_reducible rfl) | (intro w hSw; (try dsimp only at hSw); go_simp; done) | fail
              try simp only [Act.put, List.setIfInBounds_toArray, List.set_cons_zero, List.set_cons_succ]
              first | refine upto_read 5 (v := ?_) hU0 (by kernel_rfl) rfl (by kernel_rfl) (by kernel_rfl) (by kernel_rfl) (by kernel_rfl) (by kernel_rfl) (fun _ _ _ h => h) (Or.inl ⟨by rfl, ?_⟩) ?_ | fail
              rotate_left
              · first | (intro w hSw; (try dsimp only at hSw); go_simp; with_reducible rfl) | (intro w hSw; (try dsimp only at hSw); go_simp; done) | fail
              try simp only [Act.put, List.setIfInBounds_toArray, List.set_cons_zero, List.set_cons_succ]
              first | refine upto_next 6 rfl (by kernel_rfl) (fun K hK => ?_) | fail
              have hlk := HLK.out wd hmp
              have hlk2 := HLK.out wd.drew hmp
              go_simp
              first | refine hK.out _ _ ?_ (fun hU1 => ?_) | (go_wp2_with fail; refine hK.out _ _ ?_ (fun hU1 => ?_)) | fail
              · exact Or.inl (by kernel_rfl)
              clear hK K
              clear hU0
              try simp only [Act.put, List.setIfInBounds_toArray, List.set_cons_zero, List.set_cons_succ]
              first | refine upto_run 7 (v := ?_) hU1 (by kernel_rfl) rfl (by kernel_rfl) (by kernel_rfl) (by kernel_rfl) (by kernel_rfl) (fun _ _ _ h => h) (Or.inl ⟨by rfl, ?_⟩) ?_ | fail
              rotate_left
              · first | (intro w _; go_simp; with_reducible rfl) | (intro w _; go_simp; done) | (intro w _; go_simp; rw [if_neg (by omega)]) | fail
              try simp only [Act.put, List.setIfInBounds_toArray, List.set_cons_zero, List.set_cons_succ]
              first | refine upto_run 8 (v := ?_) hU1 (by kernel_rfl) rfl (by kernel_rfl) (by kernel_rfl) (by kernel_rfl) (by kernel_rfl) (fun _ _ _ h => h) (Or.inl ⟨by rfl, ?_⟩) ?_ | fail
              rotate_left
              · first | (intro w _; go_simp; with_reducible rfl) | (intro w _; go_simp; done) | (intro w _; go_simp; rw [if_neg (by omega)]) | fail
              try simp only [Act.put, List.setIfInBounds_toArray, List.set_cons_zero, List.set_cons_succ]
              first | refine upto_run 9 (v := ?_) hU1 (by kernel_rfl) rfl (by kernel_rfl) (by kernel_rfl) (by kernel_rfl) (by kernel_rfl) (fun _ _ _ h => h) (Or.inl ⟨by rfl, ?_⟩) ?_ | fail
              rotate_left
              · first | (intro w _; go_simp; with_reducible rfl) | (intro w _; go_simp; done) | (intro w _; go_simp; rw [if_neg (by omega)]) | fail
              try simp only [Act.put, List.setIfInBounds_toArray, List.set_cons_zero, List.set_cons_succ]
              first | refine upto_run 10 (v := ?_) hU1 (by kernel_rfl) rfl (by kernel_rfl) (by kernel_rfl) (by kernel_rfl) (by kernel_rfl) (fun _ _ _ h => h) (Or.inl ⟨by rfl, ?_⟩) ?_ | fail
              rotate_left
              · first | (intro w _; go_simp; with_reducible rfl) | (intro w _; go_simp; done) | (intro w _; go_simp; rw [if_neg (by omega)]) | fail
              try simp only [Act.put, List.setIfInBounds_toArray, List.set_cons_zero, List.set_cons_succ]
              first | refine upto_run 11 (v := ?_) hU1 (by kernel_rfl) rfl (by kernel_rfl) (by kernel_rfl) (by kernel_rfl) (by kernel_rfl) (fun _ _ _ h => h) (Or.inl ⟨by rfl, ?_⟩) ?_ | fail
              rotate_left
              · first | (intro w _; go_simp; with_reducible rfl) | (intro w _; go_simp; done) | (intro w _; go_simp; rw [if_neg (by omega)]) | fail
              try simp only [Act.put, List.setIfInBounds_toArray, List.set_cons_zero, List.set_cons_succ]
              refine upto_done (by kernel_rfl) ?_ _
              go_upto_region 30 with (fail)
              refine upto_begin 8 (fun w' => w'.cell? ⟨gk, 0, none⟩ = some (.map (some gp)) ∧ w'.cell? ⟨gd, 0, none⟩ = some (.string x.label)) (by kernel_rfl) ?_ (fun hU0 => ?_)
              · exact ⟨t0, q0⟩
              first | refine upto_run 0 (v := ?_) hU0 (by kernel_rfl) rfl (by kernel_rfl) (by kernel_rfl) (by kernel_rfl) (by kernel_rfl) (fun _ _ _ h => h) (Or.inl ⟨by rfl, ?_⟩) ?_ | fail
              rotate_left
              · first | (intro w _; go_simp; with_reducible rfl) | (intro w _; go_simp; done) | (intro w _; go_simp; rw [if_neg (by omega)]) | fail
              try simp only [Act.put, List.setIfInBounds_toArray, List.set_cons_zero, List.set_cons_succ]
              first | refine upto_run 1 (v := ?_) hU0 (by kernel_rfl) rfl (by kernel_rfl) (by kernel_rfl) (by kernel_rfl) (by kernel_rfl) (fun _ _ _ h => h) (Or.inl ⟨by rfl, ?_⟩) ?_ | fail
              rotate_left
              · first | (intro w _; go_simp; with_reducible rfl) | (intro w _; go_simp; done) | (intro w _; go_simp; rw [if_neg (by omega)]) | fail
              try simp only [Act.put, List.setIfInBounds_toArray, List.set_cons_zero, List.set_cons_succ]
              first | refine upto_run 2 (v := ?_) hU0 (by kernel_rfl) rfl (by kernel_rfl) (by kernel_rfl) (by kernel_rfl) (by kernel_rfl) (fun _ _ _ h => h) (Or.inl ⟨by rfl, ?_⟩) ?_ | fail
              rotate_left
              · first | (intro w _; go_simp; with_reducible rfl) | (intro w _; go_simp; done) | (intro w _; go_simp; rw [if_neg (by omega)]) | fail
              try simp only [Act.put, List.setIfInBounds_toArray, List.set_cons_zero, List.set_cons_succ]
              first | refine upto_run 4 (v := ?_) hU0 (by kernel_rfl) rfl (by kernel_rfl) (by kernel_rfl) (by kernel_rfl) (by kernel_rfl) (fun _ _ _ h => h) (Or.inl ⟨by rfl, ?_⟩) ?_ | fail
              rotate_left
              · first | (intro w _; go_simp; with_reducible rfl) | (intro w _; go_simp; done) | (intro w _; go_simp; rw [if_neg (by omega)]) | fail
              try simp only [Act.put, List.setIfInBounds_toArray, List.set_cons_zero, List.set_cons_succ]
              first | refine upto_run 6 (v := ?_) hU0 (by kernel_rfl) rfl (by kernel_rfl) (by kernel_rfl) (by kernel_rfl) (by kernel_rfl) (fun _ _ _ h => h) (Or.inl ⟨by rfl, ?_⟩) ?_ | fail
              rotate_left
              · first | (intro w _; go_simp; with_reducible rfl) | (intro w _; go_simp; done) | (intro w _; go_simp; rw [if_neg (by omega)]) | fail
              try simp only [Act.put, List.setIfInBounds_toArray, List.set_cons_zero, List.set_cons_succ]
              first | refine upto_run 7 (v := ?_) hU0 (by kernel_rfl) rfl (by kernel_rfl) (by kernel_rfl) (by kernel_rfl) (by kernel_rfl) (fun _ _ _ h => h) (Or.inl ⟨by rfl, ?_⟩) ?_ | fail
              rotate_left
              · first | (intro w _; go_simp; with_reducible rfl) | (intro w _; go_simp; done) | (intro w _; go_simp; rw [if_neg (by omega)]) | fail
              try simp only [Act.put, List.setIfInBounds_toArray, List.set_cons_zero, List.set_cons_succ]
              first | refine upto_read 3 (v := ?_) hU0 (by kernel_rfl) rfl (by kernel_rfl) (by kernel_rfl) (by kernel_rfl) (by kernel_rfl) (by kernel_rfl) (fun _ _ _ h => h) (Or.inl ⟨by rfl, ?_⟩) ?_ | fail
              rotate_left
              · first | (intro w hSw; (try dsimp only at hSw); go_simp; with_reducible rfl) | (intro w hSw; (try dsimp only at hSw); go_simp; done) | fail
              try simp only [Act.put, List.setIfInBounds_toArray, List.set_cons_zero, List.set_cons_succ]
              first | refine upto_read 5 (v := ?_) hU0 (by kernel_rfl) rfl (by kernel_rfl) (by kernel_rfl) (by kernel_rfl) (by kernel_rfl) (by kernel_rfl) (fun _ _ _ h => h) (Or.inl ⟨by rfl, ?_⟩) ?_ | fail
              rotate_left
              · first | (intro w hSw; (try dsimp only at hSw); go_simp; with_reducible rfl) | (intro w hSw; (try dsimp only at hSw); go_simp; done) | fail
              try simp only [Act.put, List.setIfInBounds_toArray, List.set_cons_zero, List.set_cons_succ]
              first | refine upto_next 8 rfl (by kernel_rfl) (fun K hK => ?_) | fail
              have h1 := HST.out wd.drew hmp
              have h2 := HST.out wd.drew.drew hmp
              have h3 := HST.out wd hmp
              go_simp
              first | refine hK.out _ _ ?_ (fun hU1 => ?_) | (go_wp2_with fail; refine hK.out _ _ ?_ (fun hU1 => ?_)) | fail
              · exact Or.inl (by kernel_rfl)
              clear hK K
              clear hU0
              try simp only [Act.put, List.setIfInBounds_toArray, List.set_cons_zero, List.set_cons_succ]
              refine upto_done (by kernel_rfl) ?_ _
              go_upto_region 31 with (fail)
              change Code.wp _ _ _ _ (setObj wd.drew.drew gp (.map (es.push { key := .string x.label, val := .int .i64 (IntKind.i64.wrap (4194304 + q)), born := ck }) (ck + 1)))
              have HKp := Lib.hid ((HKd.out.later (Below.drew (Below.drew (Below.refl _ _)))).putP hmp hme (nmL x.label) (IntKind.i64.wrap (4194304 + q)))
              rw [IntWalk.i64_in (4194304 + q) (by omega)] at HKp ⊢
              have HXp := Lib.hid (show (setObj wd.drew.drew gp (.map (es.push { key := .string x.label, val := .int .i64 (4194304 + q), born := ck }) (ck + 1))).heap[gd]? = _ from (setObj_ne (by rintro rfl; rw [HXd.out] at hmp; cases hmp) _).trans HXd.out)
              have hlw : wd.heap.size = (setObj wd.drew.drew gp (.map (es.push { key := .string x.label, val := .int .i64 (4194304 + q), born := ck }) (ck + 1))).heap.size := by simp [setObj]
              obtain ⟨wp, hwp⟩ : ∃ z, z = setObj wd.drew.drew gp (.map (es.push { key := .string x.label, val := .int .i64 (4194304 + q), born := ck }) (ck + 1)) := ⟨_, rfl⟩
              have hdn : (⟨⟨nmL x.label⟩⟩ : ByteArray) = x.label := rfl
              rw [hdn] at HKp
              rw [← hwp] at HKp HXp hlw ⊢
              clear hwp hlw hdn HST HLK t0 tl q0 ql h1 h2 h3 hlk hlk2
              obtain ⟨ec, cc, hmc, hmec⟩ := HKp.out.cm
              have t1 := blk_cell (i := 1) HKp.out.box rfl
              have tl := blk_lt HKp.out.box
              have q0 := blk_cell (i := 0) HXp.out rfl
              have ql := blk_lt HXp.out
              have HST := Lib.hid (fun (W : World) (hW : W.heap[gc]? = some (.map ec cc)) => run_storeI (P := Tryd.prog) Tryd.underlying53 Tryd.underlying9 (w := W) hW hmec (nmL x.label) HLC.out (.int .i64 q))
              have hdn : (⟨⟨nmL x.label⟩⟩ : ByteArray) = x.label := rfl
              rw [hdn] at HST
              clear hdn
              refine upto_begin 7 (fun w' => w'.cell? ⟨gk, 1, none⟩ = some (.map (some gc)) ∧ w'.cell? ⟨gd, 0, none⟩ = some (.string x.label)) (by kernel_rfl) ?_ (fun hU0 => ?_)
              · exact ⟨t1, q0⟩
              first | refine upto_run 0 (v := ?_) hU0 (by kernel_rfl) rfl (by kernel_rfl) (by kernel_rfl) (by kernel_rfl) (by kernel_rfl) (fun _ _ _ h => h) (Or.inl ⟨by rfl, ?_⟩) ?_ | fail
              rotate_left
              · first | (intro w _; go_simp; with_reducible rfl) | (intro w _; go_simp; done) | (intro w _; go_simp; rw [if_neg (by omega)]) | fail
              try simp only [Act.put, List.setIfInBounds_toArray, List.set_cons_zero, List.set_cons_succ]
              first | refine upto_run 1 (v := ?_) hU0 (by kernel_rfl) rfl (by kernel_rfl) (by kernel_rfl) (by kernel_rfl) (by kernel_rfl) (fun _ _ _ h => h) (Or.inl ⟨by rfl, ?_⟩) ?_ | fail
              rotate_left
              · first | (intro w _; go_simp; with_reducible rfl) | (intro w _; go_simp; done) | (intro w _; go_simp; rw [if_neg (by omega)]) | fail
              try simp only [Act.put, List.setIfInBounds_toArray, List.set_cons_zero, List.set_cons_succ]
              first | refine upto_run 2 (v := ?_) hU0 (by kernel_rfl) rfl (by kernel_rfl) (by kernel_rfl) (by kernel_rfl) (by kernel_rfl) (fun _ _ _ h => h) (Or.inl ⟨by rfl, ?_⟩) ?_ | fail
              rotate_left
              · first | (intro w _; go_simp; with_reducible rfl) | (intro w _; go_simp; done) | (intro w _; go_simp; rw [if_neg (by omega)]) | fail
              try simp only [Act.put, List.setIfInBounds_toArray, List.set_cons_zero, List.set_cons_succ]
              first | refine upto_run 4 (v := ?_) hU0 (by kernel_rfl) rfl (by kernel_rfl) (by kernel_rfl) (by kernel_rfl) (by kernel_rfl) (fun _ _ _ h => h) (Or.inl ⟨by rfl, ?_⟩) ?_ | fail
              rotate_left
              · first | (intro w _; go_simp; with_reducible rfl) | (intro w _; go_simp; done) | (intro w _; go_simp; rw [if_neg (by omega)]) | fail
              try simp only [Act.put, List.setIfInBounds_toArray, List.set_cons_zero, List.set_cons_succ]
              first | refine upto_run 6 (v := ?_) hU0 (by kernel_rfl) rfl (by kernel_rfl) (by kernel_rfl) (by kernel_rfl) (by kernel_rfl) (fun _ _ _ h => h) (Or.inl ⟨by rfl, ?_⟩) ?_ | fail
              rotate_left
              · first | (intro w _; go_simp; with_reducible rfl) | (intro w _; go_simp; done) | (intro w _; go_simp; rw [if_neg (by omega)]) | fail
              try simp only [Act.put, List.setIfInBounds_toArray, List.set_cons_zero, List.set_cons_succ]
              first | refine upto_read 3 (v := ?_) hU0 (by kernel_rfl) rfl (by kernel_rfl) (by kernel_rfl) (by kernel_rfl) (by kernel_rfl) (by kernel_rfl) (fun _ _ _ h => h) (Or.inl ⟨by rfl, ?_⟩) ?_ | fail
              rotate_left
              · first | (intro w hSw; (try dsimp only at hSw); go_simp; with_reducible rfl) | (intro w hSw; (try dsimp only at hSw); go_simp; done) | fail
              try simp only [Act.put, List.setIfInBounds_toArray, List.set_cons_zero, List.set_cons_succ]
              first | refine upto_read 5 (v := ?_) hU0 (by kernel_rfl) rfl (by kernel_rfl) (by kernel_rfl) (by kernel_rfl) (by kernel_rfl) (by kernel_rfl) (fun _ _ _ h => h) (Or.inl ⟨by rfl, ?_⟩) ?_ | fail
              rotate_left
              · first | (intro w hSw; (try dsimp only at hSw); go_simp; with_reducible rfl) | (intro w hSw; (try dsimp only at hSw); go_simp; done) | fail
              try simp only [Act.put, List.setIfInBounds_toArray, List.set_cons_zero, List.set_cons_succ]
              first | refine upto_next 7 rfl (by kernel_rfl) (fun K hK => ?_) | fail
              have h1 := HST.out wp.drew hmc
              have h2 := HST.out wp.drew.drew hmc
              have h3 := HST.out wp hmc
              go_simp
              first | refine hK.out _ _ ?_ (fun hU1 => ?_) | (go_wp2_with fail; refine hK.out _ _ ?_ (fun hU1 => ?_)) | fail
              · exact Or.inl (by kernel_rfl)
              clear hK K
              clear hU0
              try simp only [Act.put, List.setIfInBounds_toArray, List.set_cons_zero, List.set_cons_succ]
              refine upto_done (by kernel_rfl) ?_ _
              go_wp2_with fail
              go_roundw
              case rel =>
                refine ⟨j + 1, q, ps2 ++ [(nmL x.label, 4194304 + q)], cs ++ [(nmL x.label, q)], by omega, by go_num, rfl, by omega, by omega, ?_, ?_, ?_⟩
                · rw [HSd.out, HE.out]
                · first | exact (HKp.out.later (Below.drew (Below.refl _ _))).putC hmc hmec (nmL x.label) q | exact HKp.out.putC hmc hmec (nmL x.label) q
                · intro y hy
                  rw [lookI_snoc] at hy ⊢
                  cases hp : lookI ps2 y with
                  | some v => rw [hp] at hy; cases hy
                  | none =>
                    rw [hp] at hy
                    rw [HSUB.out y hp]
                    by_cases e : nmL x.label = y
                    · simp [e] at hy
                    · simp [e]
              case measure => simp [intOf]; omega
        · have e : j = p.code.length := by omega
          subst e
          have HF2 := Lib.hid (show p.code.foldlM itS (0, ps, []) = .ok (q, ps2, cs) by have h := HF.out; rwa [List.take_length] at h)
          go_wp2_with fail
          go_returns
          exact ⟨m, 0, rfl, Or.inl ⟨rfl, ps, q, ps2, cs, HF1.out, HF2.out, HK.out⟩⟩
end Go.Proofs.YtamejgfmfneppaaDoor
