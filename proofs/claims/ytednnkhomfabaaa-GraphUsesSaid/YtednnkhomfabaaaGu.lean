/- The walk of GraphUses. No condition. -/
import Derived.Test.YtednnkhomfabaaaGr5
import Derived.Test.YtednnkhomfabaaaGuP
import Derived.Test.YtednnkhomfabaaaFit16
namespace Go.Proofs.Ytednnkhomfabaaa
open Go.RowKit
set_option linter.unusedVariables false
set_option maxHeartbeats 4000000
set_option maxRecDepth 100000 in
theorem useslaw (w : World) (p : ProgD) (vf vg : Value) (hin : In w p vf vg) :
    Calls Try.prog 5 #[.agg #[vf, vg, .int .i64 p.data, .int .i64 p.main]] w fun e w' => e = .returned (.bool true) ∧ Below w.heap.size w w' := by
  have HIN := Lib.hid hin
  obtain ⟨A, cap, rfl, _, m3, hi⟩ := hin.funcs
  obtain ⟨A2, cap2, rfl, _, m4, _⟩ := hin.globs
  have HM := Lib.hid (fun w1 h => maybe_any w w1 h p _ _ hin)
  have hfl := hin.flen
  have hgl := hin.glen
  have HF := Lib.hid hi
  clear hi hin m3 m4
  have HB1 := Lib.hid (below_alloc (.cells #[.slice A p.funcs.length cap, .slice A2 p.globals.length cap2, .int .i64 p.data, .int .i64 p.main] 25) (Below.refl w.heap.size w))
  have HBX := Lib.hid (block_box w #[.slice A p.funcs.length cap, .slice A2 p.globals.length cap2, .int .i64 p.data, .int .i64 p.main] 25)
  go_enter Try.func5, Try.ntmps5
  go_wp2_with fail
  refine (fit_vm _).mono ?_
  rintro e w2 ⟨rfl, hb2⟩
  have HB2 := Lib.hid (HB1.out.bt hb2)
  have c0 := later (HBX.out 0 _ rfl) hb2
  have c1 := later (HBX.out 1 _ rfl) hb2
  have c2 := later (HBX.out 2 _ rfl) hb2
  have c3 := later (HBX.out 3 _ rfl) hb2
  clear hb2 HB1
  go_wp2_with fail
  refine (HM.out _ HB2.out).mono ?_
  rintro e w3 ⟨b, rfl, hb, hb3⟩
  have HB3 := Lib.hid (HB2.out.bt hb3)
  have d0 := later c0 hb3
  have HOK := Lib.hid hb
  clear c0 c1 c2 c3 hb3 hb
  cases b
  · go_wp2_with fail
    go_returns
    exact ⟨rfl, HB3.out⟩
  have HLk := Lib.hid (HOK.out rfl).1
  have HPk := Lib.hid (HOK.out rfl).2
  clear HOK HBX HB2
  go_wp2_with fail
  clear d0
  go_loopw [25] (fun i wr => ∃ k : Nat, k ≤ p.funcs.length ∧ i = .int .i64 k ∧ Below w.heap.size w wr) (fun i _ => p.funcs.length - (intOf i).toNat)
  case atStart => exact ⟨0, by omega, rfl, HB3.out⟩
  case round =>
    obtain ⟨k, hk, rfl, hb⟩ := hrel
    have HB5 := Lib.hid hb
    clear hb
    by_cases hlt : k < p.funcs.length
    · obtain ⟨f, hfk⟩ : ∃ f, p.funcs[k]? = some f := ⟨_, List.getElem?_eq_getElem hlt⟩
      obtain ⟨fb, fo, cs, rfl, e1, e2, hfr⟩ := HF.out k f hfk
      obtain ⟨R, P, hFN⟩ := FnOk.of (HPk.out f (List.mem_of_getElem? hfk)) (HLk.out.2.2 f (List.mem_of_getElem? hfk))
      have HFN := Lib.hid hFN
      obtain ⟨vs, vl, vb, rfl, z1, z2, z3, z4, z5, z6, z7, z8, z9⟩ := hfr
      have HSB := Lib.hid z8
      obtain ⟨A7, cap7, rfl, _, m7, _⟩ := z3
      obtain ⟨A6, cap6, rfl, _, m6, _⟩ := z6
      obtain ⟨A8, cap8, rfl, _, m8, h8⟩ := z8
      have H8 := Lib.hid h8
      have r0 := later (e2 0 (by omega)) HB5.out
      have r1 : wr.cell? ⟨fb, fo + k * 6 + 1, none⟩ = some (.int .i64 (P : Nat)) := by rw [← hFN.par]; exact later (e2 1 (by omega)) HB5.out
      have r2 := later (e2 2 (by omega)) HB5.out
      have r3 : wr.cell? ⟨fb, fo + k * 6 + 3, none⟩ = some (.int .i64 (R : Nat)) := by rw [← hFN.regs]; exact later (e2 3 (by omega)) HB5.out
      have r4 := later (e2 4 (by omega)) HB5.out
      have r5 := later (e2 5 (by omega)) HB5.out
      rw [Nat.add_zero] at r0
      clear e1 e2 h8 hfk m6 m7 m8 z1 z2 z4 z5 z7 z9 hFN
      have hR300 := HFN.out.hR
      have hn2000 := HFN.out.hn
      have hPR := HFN.out.hPR
      have HB6 := Lib.hid (below_alloc (.cells #[.string f.name, .int .i64 (P : Nat), .slice A7 f.secret.length cap7, .int .i64 (R : Nat), .slice A6 f.slots.length cap6, .slice A8 f.blocks.length cap8] 32) HB5.out)
      have HFB := Lib.hid (blk_new wr (.cells #[.string f.name, .int .i64 (P : Nat), .slice A7 f.secret.length cap7, .int .i64 (R : Nat), .slice A6 f.slots.length cap6, .slice A8 f.blocks.length cap8] 32))
      go_wp2_with fail
      clear r0 r1 r2 r3 r4 r5
      generalize hgfe : wr.heap.size = gf at *
      obtain ⟨wf, hwf⟩ : ∃ z, z = wr.alloc (.cells #[.string f.name, .int .i64 (P : Nat), .slice A7 f.secret.length cap7, .int .i64 (R : Nat), .slice A6 f.slots.length cap6, .slice A8 f.blocks.length cap8] 32) := ⟨_, rfl⟩
      rw [← hwf] at HB6 HFB ⊢
      clear hwf hgfe
      refine (of_fn w wf HB6.out gf f R P HFN.out _ (blk_cell HFB.out rfl) (blk_cell HFB.out rfl) (blk_cell HFB.out rfl) HSB.out).mono ?_
      rintro e wo ⟨L0, L1, gb, av, cv, mv, uv, vs, rfl, hG, hbo⟩
      have HG := Lib.hid hG
      have HBO := Lib.hid hbo
      have HB7 := Lib.hid (HB6.out.trans (hbo.mono HB6.out.size))
      have HF7 := Lib.hid ((hbo.block gf (blk_lt HFB.out)).trans HFB.out)
      clear hG hbo
      have hR6 : R ≤ 1000000 := by omega
      obtain ⟨wm, hrm, hom, hbm⟩ := make_ints wo R hR6
      have HGm := Lib.hid (HG.out.more hbm)
      have HB8 := Lib.hid (HB7.out.trans (hbm.mono HB7.out.size))
      have HOM := Lib.hid hom
      have HFm := Lib.hid ((hbm.block gf (blk_lt HF7.out)).trans HF7.out)
      have k3 : wo.cell? ⟨gf, 3, none⟩ = some (.int .i64 (R : Nat)) := blk_cell HF7.out rfl
      have k5 : wm.cell? ⟨gf, 5, none⟩ = some (.slice A8 f.blocks.length cap8) := blk_cell HFm.out rfl
      have hgf7 := blk_lt HF7.out
      have hgfm := blk_lt HFm.out
      obtain ⟨ub, hub⟩ : ∃ z, z = wo.heap.size := ⟨_, rfl⟩
      rw [← hub] at hrm HOM
      have HL := Lib.hid (show L0 ≤ ub ∧ w.heap.size ≤ ub by rw [hub]; exact ⟨Nat.le_trans HG.out.le HG.out.top, HB7.out.size⟩)
      obtain ⟨EE, hEE⟩ : ∃ z, z = parE (iB f 0) (blE R (blkF f) (oB f) f.blocks.length) P 0 := ⟨_, rfl⟩
      obtain ⟨MM, hMM⟩ : ∃ z, z = blM (blkF f) (oB f) f.blocks.length := ⟨_, rfl⟩
      obtain ⟨UU, hUU⟩ : ∃ z, z = blU R (blkF f) f.blocks.length := ⟨_, rfl⟩
      obtain ⟨CC, hCC⟩ : ∃ z, z = blC (blkF f) f.blocks.length := ⟨_, rfl⟩
      rw [← hEE, ← hMM, ← hUU, ← hCC] at HGm
      have HUS := Lib.hid (show US w wm wf.heap.size L0 L1 gb R av cv mv uv vs EE MM UU CC ub (luU R (blkF f) 0) ((0 : Nat) * 1000004000010) from ⟨HGm.out, HOM.out, HL.out.1, HL.out.2, HB8.out, Ub.zero R, luU_length R (blkF f) 0⟩)
      have HUC := Lib.hid (And.intro hUU hCC)
      clear hom hbm hub HG HB7 HGm HOM HB8 hEE hMM hUU hCC
      go_wp2_with fail
      clear k3 k5 hgf7 hgfm hrm
      go_loopw [36, 7] (fun i c wr => ∃ m : Nat, m ≤ f.blocks.length ∧ i = .int .i64 m ∧ c = .int .i64 (totC (blkF f) m : Nat) ∧ US w wr wf.heap.size L0 L1 gb R av cv mv uv vs EE MM UU CC ub (luU R (blkF f) m) (m * 1000004000010)) (fun i _ _ => f.blocks.length - (intOf i).toNat)
      case atStart => exact ⟨0, by omega, rfl, rfl, HUS.out⟩
      case round =>
        obtain ⟨m, hm, rfl, rfl, hg⟩ := hrel
        have HU1 := Lib.hid hg
        clear hg HUS
        by_cases hltm : m < f.blocks.length
        · obtain ⟨blk, hblk⟩ : ∃ b', f.blocks[m]? = some b' := ⟨_, List.getElem?_eq_getElem hltm⟩
          obtain ⟨bb, bo, cs, rfl, e1, e2, vi, e3, y1, y2, t1, t2, t3, t4, t5, t6, t7, t8⟩ := H8.out m blk hblk
          subst e3
          obtain ⟨A9, cap9, rfl, _, _, h9⟩ := y1
          have H9 := Lib.hid h9
          have HT4 := Lib.hid (And.intro t3 t4)
          have HT5 := Lib.hid (And.intro t5 t6)
          have r0 := later (e2 0 (by omega)) HU1.out.bel
          have r1 := later (e2 1 (by omega)) HU1.out.bel
          have r2 := later (e2 2 (by omega)) HU1.out.bel
          have r3 := later (e2 3 (by omega)) HU1.out.bel
          have r4 := later (e2 4 (by omega)) HU1.out.bel
          have r5 := later (e2 5 (by omega)) HU1.out.bel
          have r6 := later (e2 6 (by omega)) HU1.out.bel
          have r7 := later (e2 7 (by omega)) HU1.out.bel
          have r8 := later (e2 8 (by omega)) HU1.out.bel
          rw [Nat.add_zero] at r0
          have HBk := Lib.hid (blkF_of hblk)
          have hmem := List.mem_of_getElem? hblk
          have HSb := Lib.hid (And.intro (HFN.out.hslim blk hmem) (And.intro (HFN.out.hil blk hmem) (And.intro (HFN.out.hdst blk hmem) (And.intro (HFN.out.htr blk hmem) (HFN.out.hcp blk hmem)))))
          have hil := HSb.out.2.1
          have HBX := Lib.hid (below_alloc (.cells #[.slice A9 blk.ins.length cap9, .int .i64 blk.term.kind, .int .i64 blk.term.op, .int .i64 blk.term.a.reg, .int .i64 blk.term.a.num, .int .i64 blk.term.b.reg, .int .i64 blk.term.b.num, .int .i64 blk.term.to_, .int .i64 blk.term.els] 55) (Below.refl wr.heap.size wr))
          have HBO := Lib.hid (blk_new wr (.cells #[.slice A9 blk.ins.length cap9, .int .i64 blk.term.kind, .int .i64 blk.term.op, .int .i64 blk.term.a.reg, .int .i64 blk.term.a.num, .int .i64 blk.term.b.reg, .int .i64 blk.term.b.num, .int .i64 blk.term.to_, .int .i64 blk.term.els] 55))
          clear e1 e2 y2 t1 t2 t3 t4 t5 t6 t7 t8 hblk h9 hmem
          go_wp2_with fail
          clear r0 r1 r2 r3 r4 r5 r6 r7 r8
          obtain ⟨wb, hwb⟩ : ∃ z, z = wr.alloc (.cells #[.slice A9 blk.ins.length cap9, .int .i64 blk.term.kind, .int .i64 blk.term.op, .int .i64 blk.term.a.reg, .int .i64 blk.term.a.num, .int .i64 blk.term.b.reg, .int .i64 blk.term.b.num, .int .i64 blk.term.to_, .int .i64 blk.term.els] 55) := ⟨_, rfl⟩
          rw [← hwb] at HBX HBO ⊢
          obtain ⟨gk, hgk⟩ : ∃ z, z = wr.heap.size := ⟨_, rfl⟩
          rw [← hgk] at HBO ⊢
          have HUB := Lib.hid (HU1.out.more HBX.out)
          obtain ⟨BV, hBV⟩ : ∃ z : Array Value, z = #[.slice A9 blk.ins.length cap9, .int .i64 blk.term.kind, .int .i64 blk.term.op, .int .i64 blk.term.a.reg, .int .i64 blk.term.a.num, .int .i64 blk.term.b.reg, .int .i64 blk.term.b.num, .int .i64 blk.term.to_, .int .i64 blk.term.els] := ⟨_, rfl⟩
          rw [← hBV] at HBO
          have HBV := Lib.hid hBV
          clear hwb hgk HU1 hBV
          have HTC := Lib.hid (totC_le (blkF f) 2000 m (fun j hj => by rw [blkF_of (List.getElem?_eq_getElem (show j < f.blocks.length by omega))]; exact HFN.out.hil _ (List.getElem_mem _)))
          go_loopw [43, 7] (fun i c wr => ∃ q : Nat, q ≤ blk.ins.length ∧ i = .int .i64 q ∧ c = .int .i64 ((totC (blkF f) m + (blk.ins.take q).countP isCp : Nat) : Int) ∧ US w wr wf.heap.size L0 L1 gb R av cv mv uv vs EE MM UU CC ub (fU (luU R (blkF f) m) (blk.ins.take q)) (m * 1000004000010 + q * 1000003) ∧ wr.heap[gk]? = some (.cells BV 55 (0, 0))) (fun i _ _ => blk.ins.length - (intOf i).toNat)
          case atStart => exact ⟨0, by omega, rfl, rfl, HUB.out.congr (by rw [List.take_zero]; rfl) (by omega), HBO.out⟩
          case round =>
            obtain ⟨q, hq, rfl, rfl, hg, hbx⟩ := hrel
            have HU2 := Lib.hid hg
            have HB2 := Lib.hid hbx
            clear hg hbx HUB HBO
            by_cases hltq : q < blk.ins.length
            · obtain ⟨x, hx⟩ : ∃ x, blk.ins[q]? = some x := ⟨_, List.getElem?_eq_getElem hltq⟩
              obtain ⟨ib, io, cs, rfl, e1, e2, va, e3, u1, u2, u3, u4, u5, u6, u7, u8, u9, u10, u11⟩ := H9.out q x hx
              subst e3
              have r0 := later (e2 0 (by omega)) HU2.out.bel
              have r1 := later (e2 1 (by omega)) HU2.out.bel
              have r2 := later (e2 2 (by omega)) HU2.out.bel
              have r3 := later (e2 3 (by omega)) HU2.out.bel
              have r4 := later (e2 4 (by omega)) HU2.out.bel
              have r5 := later (e2 5 (by omega)) HU2.out.bel
              have r6 := later (e2 6 (by omega)) HU2.out.bel
              have r7 := later (e2 7 (by omega)) HU2.out.bel
              have r8 := later (e2 8 (by omega)) HU2.out.bel
              have r9 := later (e2 9 (by omega)) HU2.out.bel
              have r10 := later (e2 10 (by omega)) HU2.out.bel
              have r11 := later (e2 11 (by omega)) HU2.out.bel
              rw [Nat.add_zero] at r0
              have HVA := Lib.hid (And.intro u10 (u10.blk (by decide)))
              have hxm := List.mem_of_getElem? hx
              have HXf := Lib.hid (And.intro (HSb.out.2.2.1 x hxm) (And.intro (HSb.out.1 x hxm) (HSb.out.2.2.2.2 x hxm)))
              have HIn := Lib.hid (And.intro u1 (And.intro (And.intro u3 u4) (And.intro u5 u6)))
              have HFT := Lib.hid (fU_take (luU R (blkF f) m) hx)
              have HCT := Lib.hid (countP_take hx)
              have hc3 := List.countP_le_length (p := isCp) (l := blk.ins.take q)
              rw [List.length_take] at hc3
              have hc4 := HTC.out
              obtain ⟨A5, cap5, rfl, _, _, _⟩ := u10
              have HXX := Lib.hid (below_alloc (.cells #[.int .i64 x.op, .int .i64 x.dst, .int .i64 x.a.reg, .int .i64 x.a.num, .int .i64 x.b.reg, .int .i64 x.b.num, .int .i64 x.size, .bool x.signed, .bool x.secret, .int .i64 x.ref, .int .i64 x.off, .slice A5 x.args.length cap5] 58) (Below.refl wr.heap.size wr))
              have HXO := Lib.hid (blk_new wr (.cells #[.int .i64 x.op, .int .i64 x.dst, .int .i64 x.a.reg, .int .i64 x.a.num, .int .i64 x.b.reg, .int .i64 x.b.num, .int .i64 x.size, .bool x.signed, .bool x.secret, .int .i64 x.ref, .int .i64 x.off, .slice A5 x.args.length cap5] 58))
              have q1 : (wr.alloc (.cells #[.int .i64 x.op, .int .i64 x.dst, .int .i64 x.a.reg, .int .i64 x.a.num, .int .i64 x.b.reg, .int .i64 x.b.num, .int .i64 x.size, .bool x.signed, .bool x.secret, .int .i64 x.ref, .int .i64 x.off, .slice A5 x.args.length cap5] 58)).cell? ⟨wr.heap.size, 1, none⟩ = some (.int .i64 x.dst) := blk_cell HXO.out rfl
              obtain ⟨cn, hcn⟩ : ∃ z : Nat, z = totC (blkF f) m + (blk.ins.take q).countP isCp := ⟨_, rfl⟩
              rw [← hcn]
              have HCN := Lib.hid hcn
              have hcnb : cn ≤ 10000000 := by omega
              clear e1 e2 hx hxm u1 u2 u3 u4 u5 u6 u7 u8 u9 u11 hcn hc3 hc4
              go_upto_if 49 with (fail)
              clear r0 r1 r2 r3 r4 r5 r6 r7 r8 r9 r10 r11 q1
              obtain ⟨wx, hwx⟩ : ∃ z, z = wr.alloc (.cells #[.int .i64 x.op, .int .i64 x.dst, .int .i64 x.a.reg, .int .i64 x.a.num, .int .i64 x.b.reg, .int .i64 x.b.num, .int .i64 x.size, .bool x.signed, .bool x.secret, .int .i64 x.ref, .int .i64 x.off, .slice A5 x.args.length cap5] 58) := ⟨_, rfl⟩
              rw [← hwx] at HXX HXO ⊢
              obtain ⟨gx, hgx⟩ : ∃ z, z = wr.heap.size := ⟨_, rfl⟩
              rw [← hgx] at HXO ⊢
              have HU3 := Lib.hid (HU2.out.more HXX.out)
              have HB3 := Lib.hid (blk_kept HB2.out (grown_of_below (r := none) HXX.out) (Or.inl rfl))
              clear hwx hgx
              go_cut [] (fun wy => US w wy wf.heap.size L0 L1 gb R av cv mv uv vs EE MM UU CC ub (addU (fU (luU R (blkF f) m) (blk.ins.take q)) x.dst) (m * 1000004000010 + q * 1000003 + 1) ∧ wy.heap[gk]? = some (.cells BV 55 (0, 0)) ∧ wy.heap[gx]? = some (.cells #[.int .i64 x.op, .int .i64 x.dst, .int .i64 x.a.reg, .int .i64 x.a.num, .int .i64 x.b.reg, .int .i64 x.b.num, .int .i64 x.size, .bool x.signed, .bool x.secret, .int .i64 x.ref, .int .i64 x.off, .slice A5 x.args.length cap5] 58 (0, 0)))
              case first =>
                have kx1 : wx.cell? ⟨gx, 1, none⟩ = some (.int .i64 x.dst) := blk_cell HXO.out rfl
                have lx := blk_lt HXO.out
                by_cases hd : 0 ≤ x.dst
                · obtain ⟨d, hdd⟩ : ∃ d : Nat, x.dst = d := ⟨x.dst.toNat, by omega⟩
                  have hdR : d < R := by have := HXf.out.1.1.2; omega
                  obtain ⟨y, hy⟩ : ∃ y, (fU (luU R (blkF f) m) (blk.ins.take q))[d]? = some y := ⟨_, List.getElem?_eq_getElem (by rw [HU3.out.len]; exact hdR)⟩
                  obtain ⟨y1, y2⟩ := HU3.out.ub_.at_ hy
                  obtain ⟨ku, kf, kl⟩ := HU3.out.at_ hy
                  have V := HU3.out.put hy (by omega)
                  have HV := Lib.hid V
                  have HBa := Lib.hid (HU3.out.box HB3.out (by decide) V.2)
                  have HXa := Lib.hid (HU3.out.box HXO.out (by decide) V.2)
                  have hin : (y + 1) ≤ 9223372036854775807 := by omega
                  have hin2 : -9223372036854775808 ≤ (y + 1) := by omega
                  have d0 : decide ((0 : Int) ≤ (d : Int)) = true := decide_eq_true (by omega)
                  have HDD := Lib.hid hdd
                  rw [hdd] at kx1
                  rw [hdd, d0]
                  clear V hy hdd hd
                  go_wp2_with fail
                  go_meet
                  exact ⟨by rw [HDD.out]; exact HV.out.1, HBa.out, HXa.out⟩
                · have d0 : decide ((0 : Int) ≤ x.dst) = false := decide_eq_false hd
                  have HN := Lib.hid (show addU (fU (luU R (blkF f) m) (blk.ins.take q)) x.dst = fU (luU R (blkF f) m) (blk.ins.take q) by unfold addU; rw [if_neg hd])
                  rw [d0]
                  clear hd
                  go_wp2_with fail
                  go_meet
                  exact ⟨HU3.out.congr HN.out.symm (by omega), HB3.out, HXO.out⟩
              case rest =>
                obtain ⟨h4, hb4, hx4⟩ := hcut
                have HU4 := Lib.hid h4
                have HB4 := Lib.hid hb4
                have HX4 := Lib.hid hx4
                have c0 : wc.cell? ⟨gx, 0, none⟩ = some (.int .i64 x.op) := blk_cell hx4 rfl
                have c1 : wc.cell? ⟨gx, 1, none⟩ = some (.int .i64 x.dst) := blk_cell hx4 rfl
                have c2 : wc.cell? ⟨gx, 2, none⟩ = some (.int .i64 x.a.reg) := blk_cell hx4 rfl
                have c3 : wc.cell? ⟨gx, 3, none⟩ = some (.int .i64 x.a.num) := blk_cell hx4 rfl
                have c4 : wc.cell? ⟨gx, 4, none⟩ = some (.int .i64 x.b.reg) := blk_cell hx4 rfl
                have c5 : wc.cell? ⟨gx, 5, none⟩ = some (.int .i64 x.b.num) := blk_cell hx4 rfl
                have c6 : wc.cell? ⟨gx, 6, none⟩ = some (.int .i64 x.size) := blk_cell hx4 rfl
                have c7 : wc.cell? ⟨gx, 7, none⟩ = some (.bool x.signed) := blk_cell hx4 rfl
                have c8 : wc.cell? ⟨gx, 8, none⟩ = some (.bool x.secret) := blk_cell hx4 rfl
                have c9 : wc.cell? ⟨gx, 9, none⟩ = some (.int .i64 x.ref) := blk_cell hx4 rfl
                have c10 : wc.cell? ⟨gx, 10, none⟩ = some (.int .i64 x.off) := blk_cell hx4 rfl
                have c11 : wc.cell? ⟨gx, 11, none⟩ = some (.slice A5 x.args.length cap5) := blk_cell hx4 rfl
                have lx := blk_lt hx4
                clear h4 hb4 hx4 HU3 HB3 HXO HXX
                go_wp2_with fail
                refine (ireads_new _ x _ HIn.out.1 HIn.out.2.1 HIn.out.2.2 (HVA.out.1.later (by decide) HU4.out.bel) (by have := HXf.out.2.1; omega)).mono ?_
                rintro e w5 ⟨v, rfl, hv5, hb5, how⟩
                have HU5 := Lib.hid (HU4.out.more hb5)
                have HB5' := Lib.hid ((hb5.block gk (blk_lt HB4.out)).trans HB4.out)
                have HX5 := Lib.hid ((hb5.block gx (blk_lt HX4.out)).trans HX4.out)
                have HV5 := Lib.hid (And.intro hv5 (show readsD x = [] ∨ v.ownBlock ≠ some ub by
                  rcases how with rfl | ⟨b9, n9, xs9, ho9⟩
                  · have hlen := hv5.len_eq HVA.out.1
                    rcases HVA.out.2 with h | ⟨b', h1, h2⟩
                    · left; rw [h] at hlen; exact List.length_eq_zero_iff.1 (by simpa using hlen)
                    · refine Or.inr (fun e => ?_)
                      rw [h1] at e
                      cases e
                      have := HU5.out.lw
                      omega
                  · rcases own_ne ho9 HU5.out.o (by decide) with h | h
                    · exact Or.inl (hv5.nil_of h)
                    · exact Or.inr h))
                have hlen2 : (readsD x).length ≤ 4001 := by
                  have := HXf.out.2.1
                  unfold readsD
                  split
                  · omega
                  · split
                    · simp; omega
                    · split
                      · simp
                      · split <;> simp
                obtain ⟨A4, cap4, hv6, _⟩ := id hv5
                subst hv6
                clear c0 c1 c2 c3 c4 c5 c6 c7 c8 c9 c10 c11 lx hv5 hb5 how HU4 HB4 HX4
                obtain ⟨al, hal2⟩ : ∃ z, z = readsD x := ⟨_, rfl⟩
                have HRD := Lib.hid HXf.out.1.2
                rw [← hal2] at HV5 HRD hlen2 ⊢
                have HAL := Lib.hid hal2
                obtain ⟨n, hn⟩ : ∃ n, n = al.length := ⟨_, rfl⟩
                rw [← hn] at HV5 hlen2 ⊢
                have HN := Lib.hid hn
                clear hal2 hn
                go_wp2_with fail
                go_loopw [60] (fun i wr => ∃ j : Nat, j ≤ n ∧ i = .int .i64 j ∧ US w wr wf.heap.size L0 L1 gb R av cv mv uv vs EE MM UU CC ub (readU (addU (fU (luU R (blkF f) m) (blk.ins.take q)) x.dst) (al.take j)) (m * 1000004000010 + q * 1000003 + 1 + j) ∧ w5.grownBy wr (some ub)) (fun i _ => n - (intOf i).toNat)
                case atStart => exact ⟨0, by omega, rfl, HU5.out.congr (by rw [List.take_zero]; rfl) (by omega), grownBy_refl _ _⟩
                case round =>
                  obtain ⟨j, hj, rfl, hg, hgr⟩ := hrel
                  have HU6 := Lib.hid hg
                  have HG6 := Lib.hid hgr
                  have hv6 := HV5.out.1.grown hgr HV5.out.2
                  clear hg hgr
                  by_cases hltj : j < n
                  · have hlk : j < al.length := by rw [← HN.out]; exact hltj
                    obtain ⟨a, ha⟩ : ∃ a, al[j]? = some a := ⟨_, List.getElem?_eq_getElem hlk⟩
                    obtain ⟨A6, cap6, e6, _, _, hv7⟩ := hv6
                    cases e6
                    obtain ⟨lb, lo, cs, rfl, e1, e2, e3, e4, e5⟩ := hv7 j a ha
                    subst e3
                    have q0 := e2 0 (by omega)
                    have q1 := e2 1 (by omega)
                    rw [Nat.add_zero] at q0
                    have hb0 := World.block_lt_of_cell? _ _ q0
                    have HR := Lib.hid (HRD.out a (List.mem_of_getElem? ha))
                    have HT1 := Lib.hid (readU_take (addU (fU (luU R (blkF f) m) (blk.ins.take q)) x.dst) ha)
                    have HAB := Lib.hid (below_alloc (.cells #[.int .i64 a.reg, .int .i64 a.num] 51) (Below.refl wr.heap.size wr))
                    have HU7 := Lib.hid (HU6.out.more HAB.out)
                    have HG7 := Lib.hid (grown_trans HG6.out (grown_of_below HAB.out))
                    obtain ⟨num, hnum⟩ : ∃ z, z = a.num := ⟨_, rfl⟩
                    rw [← hnum] at q1 HAB HU7 HG7
                    clear e1 e2 e4 e5 hlk ha hv7 hnum
                    by_cases hd : 0 ≤ a.reg
                    · obtain ⟨d, hdd⟩ : ∃ d : Nat, a.reg = d := ⟨a.reg.toNat, by omega⟩
                      have hdR : d < R := by have := HR.out.2; omega
                      rw [hdd] at HU7 HT1 HAB HG7 q0
                      obtain ⟨y, hy⟩ : ∃ y, (readU (addU (fU (luU R (blkF f) m) (blk.ins.take q)) x.dst) (al.take j))[d]? = some y := ⟨_, List.getElem?_eq_getElem (by rw [HU7.out.len]; exact hdR)⟩
                      obtain ⟨y1, y2⟩ := HU7.out.ub_.at_ hy
                      obtain ⟨ku, kf, kl⟩ := HU6.out.at_ hy
                      have V := HU6.out.put hy (by omega)
                      have ha8 : Below (wr.setCell ⟨ub, d, none⟩ (.int .i64 (y + 1))).heap.size (wr.setCell ⟨ub, d, none⟩ (.int .i64 (y + 1))) ((wr.setCell ⟨ub, d, none⟩ (.int .i64 (y + 1))).alloc (.cells #[.int .i64 (d : Nat), .int .i64 num] 51)) := below_alloc _ (Below.refl _ _)
                      have HV := Lib.hid (And.intro (V.1.more ha8) (grown_trans (grown_trans HG6.out V.2) (grown_of_below (r := some ub) ha8)))
                      have hin : (y + 1) ≤ 9223372036854775807 := by omega
                      have hin2 : -9223372036854775808 ≤ (y + 1) := by omega
                      have hne : wr.heap.size ≠ ub := by omega
                      have d0 : decide ((0 : Int) ≤ (d : Int)) = true := decide_eq_true (by omega)
                      have HDD := Lib.hid hdd
                      clear V ha8 hy hdd hd
                      go_wp2_with fail
                      go_roundw
                      case rel => exact ⟨j + 1, by omega, by go_num, HV.out.1.congr HT1.out.symm (by omega), HV.out.2⟩
                      case measure => first | omega | (simp [intOf]; done) | (simp [intOf]; omega)
                    · have d0 : decide ((0 : Int) ≤ a.reg) = false := decide_eq_false hd
                      have HNo := Lib.hid (show readU (addU (fU (luU R (blkF f) m) (blk.ins.take q)) x.dst) (al.take (j + 1)) = readU (addU (fU (luU R (blkF f) m) (blk.ins.take q)) x.dst) (al.take j) by rw [HT1.out]; unfold addU; rw [if_neg hd])
                      clear hd
                      go_wp2_with fail
                      go_roundw
                      case rel => exact ⟨j + 1, by omega, by go_num, HU7.out.congr HNo.out.symm (by omega), HG7.out⟩
                      case measure => first | omega | (simp [intOf]; done) | (simp [intOf]; omega)
                  · have e : n = j := by omega
                    subst e
                    have HB6' := Lib.hid (blk_kept HB5'.out HG6.out (own_blk HU5.out.o HB5'.out (by decide)))
                    have hx6 := blk_kept HX5.out HG6.out (own_blk HU5.out.o HX5.out (by decide))
                    have kx0 : wr.cell? ⟨gx, 0, none⟩ = some (.int .i64 x.op) := blk_cell hx6 rfl
                    have kx1 : wr.cell? ⟨gx, 1, none⟩ = some (.int .i64 x.dst) := blk_cell hx6 rfl
                    have kx2 : wr.cell? ⟨gx, 2, none⟩ = some (.int .i64 x.a.reg) := blk_cell hx6 rfl
                    have lx := blk_lt hx6
                    have HU8 := Lib.hid (show US w wr wf.heap.size L0 L1 gb R av cv mv uv vs EE MM UU CC ub (fU (luU R (blkF f) m) (blk.ins.take (q + 1))) (m * 1000004000010 + (q + 1 : Nat) * 1000003) from HU6.out.congr (by rw [HFT.out]; unfold insU; rw [HN.out, List.take_length, HAL.out]) (by omega))
                    clear hx6 hv6 HU6 HG6 HU5 HB5' HX5 HV5
                    obtain ⟨op, hop⟩ : ∃ z, z = x.op := ⟨_, rfl⟩
                    obtain ⟨ds, hds⟩ : ∃ z, z = x.dst := ⟨_, rfl⟩
                    obtain ⟨rg, hrg⟩ : ∃ z, z = x.a.reg := ⟨_, rfl⟩
                    rw [← hop] at kx0
                    rw [← hds] at kx1
                    rw [← hrg] at kx2
                    have HOP := Lib.hid (And.intro hop (And.intro hds hrg))
                    have HNC := Lib.hid (fun (h : isCp x = false) => show ((cn : Nat) : Int) = ((totC (blkF f) m + (blk.ins.take (q + 1)).countP isCp : Nat) : Int) by rw [HCT.out, h, HCN.out]; simp)
                    have HYC := Lib.hid (fun (h : isCp x = true) => show ((cn : Nat) : Int) + 1 = ((totC (blkF f) m + (blk.ins.take (q + 1)).countP isCp : Nat) : Int) by rw [HCT.out, h, HCN.out]; simp; omega)
                    clear hop hds hrg
                    by_cases h2 : op = 2
                    · have b2 : (op == 2) = true := by simpa using h2
                      have HD0 := Lib.hid (show 0 ≤ x.dst from HXf.out.2.2 (by rw [← HOP.out.1]; exact h2))
                      by_cases hr0 : 0 ≤ rg
                      · have b3 : decide (0 ≤ rg) = true := decide_eq_true hr0
                        by_cases hrd : rg = ds
                        · have HC := Lib.hid (HNC.out (by unfold isCp; rw [← HOP.out.2.1, ← HOP.out.2.2, decide_eq_true hrd]; simp))
                          have HRD2 := Lib.hid hrd
                          rw [hrd] at kx2 b3
                          have b4 : (ds != ds) = false := by simp
                          clear h2 hr0 hrd
                          go_wp2_with fail
                          go_roundw
                          case rel => exact ⟨q + 1, by omega, by go_num, by rw [HC.out], HU8.out, HB6'.out⟩
                          case measure => first | omega | (simp [intOf]; done) | (simp [intOf]; omega)
                        · have HC := Lib.hid (HYC.out (by unfold isCp; rw [← HOP.out.1, ← HOP.out.2.1, ← HOP.out.2.2, decide_eq_true h2, decide_eq_false hrd, b3, decide_eq_true (by rw [HOP.out.2.1]; exact HD0.out)]; rfl))
                          have b4 : (rg != ds) = true := by simpa using hrd
                          clear h2 hr0 hrd
                          go_wp2_with fail
                          go_roundw
                          case rel => exact ⟨q + 1, by omega, by go_num, by rw [HC.out], HU8.out, HB6'.out⟩
                          case measure => first | omega | (simp [intOf]; done) | (simp [intOf]; omega)
                      · have b3 : decide (0 ≤ rg) = false := decide_eq_false hr0
                        have HC := Lib.hid (HNC.out (by unfold isCp; rw [← HOP.out.2.2, b3]; simp))
                        clear h2 hr0
                        go_wp2_with fail
                        go_roundw
                        case rel => exact ⟨q + 1, by omega, by go_num, by rw [HC.out], HU8.out, HB6'.out⟩
                        case measure => first | omega | (simp [intOf]; done) | (simp [intOf]; omega)
                    · have b2 : (op == 2) = false := by simpa using h2
                      have HC := Lib.hid (HNC.out (by unfold isCp; rw [← HOP.out.1, decide_eq_false h2]; simp))
                      clear h2
                      go_wp2_with fail
                      go_roundw
                      case rel => exact ⟨q + 1, by omega, by go_num, by rw [HC.out], HU8.out, HB6'.out⟩
                      case measure => first | omega | (simp [intOf]; done) | (simp [intOf]; omega)
            · have e : q = blk.ins.length := by omega
              have hbv := HB2.out
              rw [HBV.out] at hbv
              have k1 : wr.cell? ⟨gk, 1, none⟩ = some (.int .i64 blk.term.kind) := blk_cell hbv rfl
              have k2 : wr.cell? ⟨gk, 2, none⟩ = some (.int .i64 blk.term.op) := blk_cell hbv rfl
              have k3 : wr.cell? ⟨gk, 3, none⟩ = some (.int .i64 blk.term.a.reg) := blk_cell hbv rfl
              have k4 : wr.cell? ⟨gk, 4, none⟩ = some (.int .i64 blk.term.a.num) := blk_cell hbv rfl
              have k5 : wr.cell? ⟨gk, 5, none⟩ = some (.int .i64 blk.term.b.reg) := blk_cell hbv rfl
              have k6 : wr.cell? ⟨gk, 6, none⟩ = some (.int .i64 blk.term.b.num) := blk_cell hbv rfl
              have k7 : wr.cell? ⟨gk, 7, none⟩ = some (.int .i64 blk.term.to_) := blk_cell hbv rfl
              have k8 : wr.cell? ⟨gk, 8, none⟩ = some (.int .i64 blk.term.els) := blk_cell hbv rfl
              have lk := blk_lt hbv
              have HU3 := Lib.hid (show US w wr wf.heap.size L0 L1 gb R av cv mv uv vs EE MM UU CC ub (fU (luU R (blkF f) m) blk.ins) (m * 1000004000010 + 2000006000) from HU2.out.congr (by rw [e, List.take_length]) (by omega))
              have HC3 := Lib.hid (show totC (blkF f) m + (blk.ins.take q).countP isCp = totC (blkF f) (m + 1) by rw [e, List.take_length]; show _ = totC (blkF f) m + (blkF f m).ins.countP isCp; rw [HBk.out])
              rw [HC3.out]
              clear hbv HU2 HB2 e
              obtain ⟨cn, hcn⟩ : ∃ z : Nat, z = totC (blkF f) (m + 1) := ⟨_, rfl⟩
              rw [← hcn]
              have HCN := Lib.hid hcn
              clear hcn
              go_wp2_with fail
              refine (treads_new _ blk.term HT4.out HT5.out).mono ?_
              rintro e w5 ⟨v, rfl, hv5, hb5, how⟩
              have HU5 := Lib.hid (HU3.out.more hb5)
              have HV5 := Lib.hid (And.intro hv5 (show readsT blk.term = [] ∨ v.ownBlock ≠ some ub by
                rcases how with rfl | ⟨b9, n9, xs9, ho9⟩
                · exact Or.inl (hv5.nil_of rfl)
                · rcases own_ne ho9 HU5.out.o (by decide) with h | h
                  · exact Or.inl (hv5.nil_of h)
                  · exact Or.inr h))
              have hlen2 : (readsT blk.term).length ≤ 2 := by
                unfold readsT
                split
                · simp
                · split <;> simp
              obtain ⟨A4, cap4, hv6, _⟩ := id hv5
              subst hv6
              clear k1 k2 k3 k4 k5 k6 k7 k8 lk hv5 hb5 how HU3
              obtain ⟨al, hal2⟩ : ∃ z, z = readsT blk.term := ⟨_, rfl⟩
              have HRD := Lib.hid HSb.out.2.2.2.1
              rw [← hal2] at HV5 HRD hlen2 ⊢
              have HAL := Lib.hid hal2
              obtain ⟨n, hn⟩ : ∃ n, n = al.length := ⟨_, rfl⟩
              rw [← hn] at HV5 hlen2 ⊢
              have HN := Lib.hid hn
              clear hal2 hn
              go_wp2_with fail
              go_loopw [99] (fun i wr => ∃ j : Nat, j ≤ n ∧ i = .int .i64 j ∧ US w wr wf.heap.size L0 L1 gb R av cv mv uv vs EE MM UU CC ub (readU (fU (luU R (blkF f) m) blk.ins) (al.take j)) (m * 1000004000010 + 2000006000 + j) ∧ w5.grownBy wr (some ub)) (fun i _ => n - (intOf i).toNat)
              case atStart => exact ⟨0, by omega, rfl, HU5.out.congr (by rw [List.take_zero]; rfl) (by omega), grownBy_refl _ _⟩
              case round =>
                obtain ⟨j, hj, rfl, hg, hgr⟩ := hrel
                have HU6 := Lib.hid hg
                have HG6 := Lib.hid hgr
                have hv6 := HV5.out.1.grown hgr HV5.out.2
                clear hg hgr
                by_cases hltj : j < n
                · have hlk : j < al.length := by rw [← HN.out]; exact hltj
                  obtain ⟨a, ha⟩ : ∃ a, al[j]? = some a := ⟨_, List.getElem?_eq_getElem hlk⟩
                  obtain ⟨A6, cap6, e6, _, _, hv7⟩ := hv6
                  cases e6
                  obtain ⟨lb, lo, cs, rfl, e1, e2, e3, e4, e5⟩ := hv7 j a ha
                  subst e3
                  have q0 := e2 0 (by omega)
                  have q1 := e2 1 (by omega)
                  rw [Nat.add_zero] at q0
                  have hb0 := World.block_lt_of_cell? _ _ q0
                  have HR := Lib.hid (HRD.out a (List.mem_of_getElem? ha))
                  have HT1 := Lib.hid (readU_take (fU (luU R (blkF f) m) blk.ins) ha)
                  have HAB := Lib.hid (below_alloc (.cells #[.int .i64 a.reg, .int .i64 a.num] 51) (Below.refl wr.heap.size wr))
                  have HU7 := Lib.hid (HU6.out.more HAB.out)
                  have HG7 := Lib.hid (grown_trans HG6.out (grown_of_below HAB.out))
                  obtain ⟨num, hnum⟩ : ∃ z, z = a.num := ⟨_, rfl⟩
                  rw [← hnum] at q1 HAB HU7 HG7
                  clear e1 e2 e4 e5 hlk ha hv7 hnum
                  by_cases hd : 0 ≤ a.reg
                  · obtain ⟨d, hdd⟩ : ∃ d : Nat, a.reg = d := ⟨a.reg.toNat, by omega⟩
                    have hdR : d < R := by have := HR.out.2; omega
                    rw [hdd] at HT1 q0
                    obtain ⟨y, hy⟩ : ∃ y, (readU (fU (luU R (blkF f) m) blk.ins) (al.take j))[d]? = some y := ⟨_, List.getElem?_eq_getElem (by rw [HU6.out.len]; exact hdR)⟩
                    obtain ⟨y1, y2⟩ := HU6.out.ub_.at_ hy
                    obtain ⟨ku, kf, kl⟩ := HU6.out.at_ hy
                    have V := HU6.out.put hy (by omega)
                    have ha8 : Below (wr.setCell ⟨ub, d, none⟩ (.int .i64 (y + 1))).heap.size (wr.setCell ⟨ub, d, none⟩ (.int .i64 (y + 1))) ((wr.setCell ⟨ub, d, none⟩ (.int .i64 (y + 1))).alloc (.cells #[.int .i64 (d : Nat), .int .i64 num] 51)) := below_alloc _ (Below.refl _ _)
                    have HV := Lib.hid (And.intro (V.1.more ha8) (grown_trans (grown_trans HG6.out V.2) (grown_of_below (r := some ub) ha8)))
                    have hin : (y + 1) ≤ 9223372036854775807 := by omega
                    have hin2 : -9223372036854775808 ≤ (y + 1) := by omega
                    have hne : wr.heap.size ≠ ub := by omega
                    have d0 : decide ((0 : Int) ≤ (d : Int)) = true := decide_eq_true (by omega)
                    clear V ha8 hy hdd hd
                    go_wp2_with fail
                    go_roundw
                    case rel => exact ⟨j + 1, by omega, by go_num, HV.out.1.congr HT1.out.symm (by omega), HV.out.2⟩
                    case measure => first | omega | (simp [intOf]; done) | (simp [intOf]; omega)
                  · have d0 : decide ((0 : Int) ≤ a.reg) = false := decide_eq_false hd
                    have HNo := Lib.hid (show readU (fU (luU R (blkF f) m) blk.ins) (al.take (j + 1)) = readU (fU (luU R (blkF f) m) blk.ins) (al.take j) by rw [HT1.out]; unfold addU; rw [if_neg hd])
                    clear hd
                    go_wp2_with fail
                    go_roundw
                    case rel => exact ⟨j + 1, by omega, by go_num, HU7.out.congr HNo.out.symm (by omega), HG7.out⟩
                    case measure => first | omega | (simp [intOf]; done) | (simp [intOf]; omega)
                · have e : n = j := by omega
                  subst e
                  have HU8 := Lib.hid (show US w wr wf.heap.size L0 L1 gb R av cv mv uv vs EE MM UU CC ub (luU R (blkF f) (m + 1)) ((m + 1 : Nat) * 1000004000010) from HU6.out.congr (by rw [HN.out, List.take_length, HAL.out]; show _ = readU (fU (luU R (blkF f) m) (blkF f m).ins) (readsT (blkF f m).term); rw [HBk.out]) (by omega))
                  go_wp2_with fail
                  go_roundw
                  case rel => exact ⟨m + 1, by omega, by go_num, by rw [HCN.out], HU8.out⟩
                  case measure => first | omega | (simp [intOf]; done) | (simp [intOf]; omega)
        · have e : m = f.blocks.length := by omega
          have HU2 := Lib.hid (show US w wr wf.heap.size L0 L1 gb R av cv mv uv vs EE MM UU CC ub UU (m * 1000004000010) from HU1.out.congr (by rw [HUC.out.1, e, luU_eq]) (by omega))
          have HCL := Lib.hid (show totC (blkF f) m = CC.length by rw [HUC.out.2, blC_count, e])
          rw [HCL.out]
          clear HU1 e
          obtain ⟨Ac, cc, hcv, _⟩ := own_slice HU2.out.g.ci
          subst hcv
          have kg1 : wr.cell? ⟨gb, 1, none⟩ = some (.slice Ac CC.length cc) := blk_cell HU2.out.g.blk rfl
          have lg1 := blk_lt HU2.out.g.blk
          go_wp2_with fail
          clear kg1 lg1
          go_loopw [124] (fun i wr => ∃ r : Nat, r ≤ R ∧ i = .int .i64 r ∧ US w wr wf.heap.size L0 L1 gb R av (.slice Ac CC.length cc) mv uv vs EE MM UU CC ub UU (m * 1000004000010)) (fun i _ => R - (intOf i).toNat)
          case atStart => exact ⟨0, by omega, rfl, HU2.out⟩
          case round =>
            obtain ⟨r, hr, rfl, hg⟩ := hrel
            have HU3 := Lib.hid hg
            clear hg HU2
            by_cases hltr : r < R
            · obtain ⟨x, hx⟩ : ∃ x, UU[r]? = some x := ⟨_, List.getElem?_eq_getElem (by rw [HU3.out.len]; exact hltr)⟩
              obtain ⟨ku, _, kl⟩ := HU3.out.at_ hx
              obtain ⟨g, cu, rfl⟩ := HU3.out.g.lenU (by omega)
              obtain ⟨kv, _, kw⟩ := HU3.out.g.cellU hx
              have kg3 : wr.cell? ⟨gb, 3, none⟩ = some (.slice (some ⟨g, 0, none⟩) R cu) := blk_cell HU3.out.g.blk rfl
              have lg3 := blk_lt HU3.out.g.blk
              have b1 : (x != x) = false := by simp
              clear hx
              go_wp2_with fail
              go_quiet (fail)
              go_wp2_with fail
              go_roundw
              case rel => exact ⟨r + 1, by omega, by go_num, HU3.out.more (below_drewN (Below.refl _ _) _)⟩
              case measure => first | omega | (simp [intOf]; done) | (simp [intOf]; omega)
            · have e : R = r := by omega
              go_wp2_with fail
              go_roundw
              case rel => exact ⟨k + 1, by omega, by go_num, HU3.out.bel⟩
              case measure => first | omega | (simp [intOf]; done) | (simp [intOf]; omega)
    · have e : k = p.funcs.length := by omega
      subst e
      go_wp2_with fail
      go_returns
      exact ⟨rfl, HB5.out⟩
end Go.Proofs.Ytednnkhomfabaaa
