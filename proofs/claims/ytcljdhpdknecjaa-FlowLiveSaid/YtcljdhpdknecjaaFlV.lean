/- The walk of FlowLive. No condition. -/
import Derived.Test.YtcljdhpdknecjaaFl9
import Derived.Test.YtcljdhpdknecjaaRn
import Derived.Test.YtcljdhpdknecjaaFit11
namespace Go.Proofs.Ytcljdhpdknecjaa
open Go.RowKit
set_option linter.unusedVariables false
set_option maxHeartbeats 4000000
def anyT (p : Int → Bool) (l : List Int) (j : Nat) : Bool := (l.take j).any p
theorem anyT_succ (p : Int → Bool) (l : List Int) (j : Nat) (k : Int) (h : l[j]? = some k) : anyT p l (j + 1) = (anyT p l j || p k) := by
  unfold anyT; rw [List.take_add_one, h]; simp
theorem s7_step {w w1 w2 : World} {gf gi b : Nat} {a0 a1 a2 a3 a4 a5 a6 : Value} (hb : Below w1.heap.size w1 w2) (h : (w1.cell? ⟨gf, 0, none⟩ = some a0 ∧ w1.cell? ⟨gf, 1, none⟩ = some a1 ∧ w1.cell? ⟨gf, 2, none⟩ = some a2 ∧ w1.cell? ⟨gf, 3, none⟩ = some a3 ∧ w1.cell? ⟨gf, 4, none⟩ = some a4 ∧ w1.cell? ⟨gf, 5, none⟩ = some a5 ∧ w1.cell? ⟨gi, b, none⟩ = some a6) ∧ Below w.heap.size w w1) :
    (w2.cell? ⟨gf, 0, none⟩ = some a0 ∧ w2.cell? ⟨gf, 1, none⟩ = some a1 ∧ w2.cell? ⟨gf, 2, none⟩ = some a2 ∧ w2.cell? ⟨gf, 3, none⟩ = some a3 ∧ w2.cell? ⟨gf, 4, none⟩ = some a4 ∧ w2.cell? ⟨gf, 5, none⟩ = some a5 ∧ w2.cell? ⟨gi, b, none⟩ = some a6) ∧ Below w.heap.size w w2 := by
  obtain ⟨⟨h0, h1, h2, h3, h4, h5, h6⟩, h7⟩ := h
  exact ⟨⟨later h0 hb, later h1 hb, later h2 hb, later h3 hb, later h4 hb, later h5 hb, later h6 hb⟩, h7.bt hb⟩
theorem s7_to {w w2 : World} {gf gi b : Nat} {a0 a1 a2 a3 a4 a5 a6 : Value} (h : (w.cell? ⟨gf, 0, none⟩ = some a0 ∧ w.cell? ⟨gf, 1, none⟩ = some a1 ∧ w.cell? ⟨gf, 2, none⟩ = some a2 ∧ w.cell? ⟨gf, 3, none⟩ = some a3 ∧ w.cell? ⟨gf, 4, none⟩ = some a4 ∧ w.cell? ⟨gf, 5, none⟩ = some a5 ∧ w.cell? ⟨gi, b, none⟩ = some a6) ∧ Below w.heap.size w w) (hb : Below w.heap.size w w2) :
    (w2.cell? ⟨gf, 0, none⟩ = some a0 ∧ w2.cell? ⟨gf, 1, none⟩ = some a1 ∧ w2.cell? ⟨gf, 2, none⟩ = some a2 ∧ w2.cell? ⟨gf, 3, none⟩ = some a3 ∧ w2.cell? ⟨gf, 4, none⟩ = some a4 ∧ w2.cell? ⟨gf, 5, none⟩ = some a5 ∧ w2.cell? ⟨gi, b, none⟩ = some a6) ∧ Below w.heap.size w w2 := s7_step hb h
set_option maxRecDepth 100000 in
theorem livelaw (w : World) (p : ProgD) (vf vg : Value) (hin : In w p vf vg) :
    Calls Try.prog 4 #[.agg #[vf, vg, .int .i64 p.data, .int .i64 p.main]] w fun e w' => e = .returned (.bool true) ∧ Below w.heap.size w w' := by
  have HIN := Lib.hid hin
  obtain ⟨A, cap, rfl, _, m3, hi⟩ := hin.funcs
  obtain ⟨A2, cap2, rfl, _, m4, _⟩ := hin.globs
  have HM := Lib.hid (fun w1 h => maybe_any w w1 h p _ _ hin)
  have hfl := hin.flen
  have hgl := hin.glen
  have HF := Lib.hid hi
  clear hi hin m3 m4
  have HB1 := Lib.hid (below_alloc (.cells #[.slice A p.funcs.length cap, .slice A2 p.globals.length cap2, .int .i64 p.data, .int .i64 p.main] 36) (Below.refl w.heap.size w))
  have HBX := Lib.hid (block_box w #[.slice A p.funcs.length cap, .slice A2 p.globals.length cap2, .int .i64 p.data, .int .i64 p.main] 36)
  go_enter Try.func4, Try.ntmps4
  go_wp2_with fail
  refine (fit_vm _).mono ?_
  rintro e w2 ⟨rfl, hb2⟩
  have HB2 := Lib.hid (HB1.out.bt hb2)
  have c0 := later (HBX.out 0 _ rfl) hb2
  have c1 := later (HBX.out 1 _ rfl) hb2
  have c2 := later (HBX.out 2 _ rfl) hb2
  have c3 := later (HBX.out 3 _ rfl) hb2
  clear hb2 HB1
  go_wp2_with fail
  refine (HM.out _ HB2.out).mono ?_
  rintro e w3 ⟨b, rfl, hb, hb3⟩
  have HB3 := Lib.hid (HB2.out.bt hb3)
  have d0 := later c0 hb3
  have HOK := Lib.hid hb
  clear c0 c1 c2 c3 hb3 hb
  cases b
  · go_wp2_with fail
    go_returns
    exact ⟨rfl, HB3.out⟩
  have HLk := Lib.hid (HOK.out rfl).1
  have HPk := Lib.hid (HOK.out rfl).2
  clear HOK HBX HB2
  go_wp2_with fail
  clear d0
  go_loopw [21] (fun i wr => ∃ k : Nat, k ≤ p.funcs.length ∧ i = .int .i64 k ∧ Below w.heap.size w wr) (fun i _ => p.funcs.length - (intOf i).toNat)
  case atStart => exact ⟨0, by omega, rfl, HB3.out⟩
  case round =>
    obtain ⟨k, hk, rfl, hb⟩ := hrel
    have HB5 := Lib.hid hb
    clear hb
    by_cases hlt : k < p.funcs.length
    · obtain ⟨f, hfk⟩ : ∃ f, p.funcs[k]? = some f := ⟨_, List.getElem?_eq_getElem hlt⟩
      obtain ⟨fb, fo, cs, rfl, e1, e2, hfr⟩ := HF.out k f hfk
      have HFO := Lib.hid (HPk.out f (List.mem_of_getElem? hfk))
      have HSl := Lib.hid (HLk.out.slim f (List.mem_of_getElem? hfk))
      obtain ⟨vs, vl, vb, rfl, z1, z2, z3, z4, z5, z6, z7, z8, z9⟩ := hfr
      have HSB := Lib.hid z8
      obtain ⟨A7, cap7, rfl, _, m7, _⟩ := z3
      obtain ⟨A6, cap6, rfl, _, m6, _⟩ := z6
      obtain ⟨A8, cap8, rfl, _, m8, h8⟩ := z8
      have H8 := Lib.hid h8
      have r0 := later (e2 0 (by omega)) HB5.out
      have r1 := later (e2 1 (by omega)) HB5.out
      have r2 := later (e2 2 (by omega)) HB5.out
      have r3 := later (e2 3 (by omega)) HB5.out
      have r4 := later (e2 4 (by omega)) HB5.out
      have r5 := later (e2 5 (by omega)) HB5.out
      rw [Nat.add_zero] at r0
      obtain ⟨R, hR⟩ : ∃ R : Nat, f.regs = (R : Int) := ⟨f.regs.toNat, by have := HFO.out.1.1; have := HFO.out.1.2.1; omega⟩
      have r3' : wr.cell? ⟨fb, fo + k * 6 + 3, none⟩ = some (.int .i64 (R : Nat)) := by rw [← hR]; exact r3
      clear r3
      clear e1 e2 h8 hfk m6 m7 m8 z1 z2 z4 z5 z7 z9
      have HRg := Lib.hid hR
      clear hR
      by_cases hbig : 60 < R ∨ 40 < f.blocks.length
      · rcases hbig with h1 | h1
        · go_wp2_with fail
          go_roundw
          case rel => exact ⟨k + 1, by omega, by go_num, below_alloc _ HB5.out⟩
          case measure => simp [intOf]; omega
        · by_cases h2 : 60 < R
          · go_wp2_with fail
            go_roundw
            case rel => exact ⟨k + 1, by omega, by go_num, below_alloc _ HB5.out⟩
            case measure => simp [intOf]; omega
          · go_wp2_with fail
            go_roundw
            case rel => exact ⟨k + 1, by omega, by go_num, below_alloc _ HB5.out⟩
            case measure => simp [intOf]; omega
      have hR60 : R ≤ 60 := by omega
      have hn40 : f.blocks.length ≤ 40 := by omega
      have HR60 := Lib.hid hR60
      have HN40 := Lib.hid hn40
      have HB6 := Lib.hid (below_alloc (.cells #[.string f.name, .int .i64 f.params, .slice A7 f.secret.length cap7, .int .i64 (R : Nat), .slice A6 f.slots.length cap6, .slice A8 f.blocks.length cap8] 41) HB5.out)
      have HFB := Lib.hid (block_box wr #[.string f.name, .int .i64 f.params, .slice A7 f.secret.length cap7, .int .i64 (R : Nat), .slice A6 f.slots.length cap6, .slice A8 f.blocks.length cap8] 41)
      have HNX := Lib.hid (show ∀ i k, i < f.blocks.length → k ∈ nxF f i → 0 ≤ k ∧ k < f.blocks.length by
        intro i k hi hk
        rw [nxF_of (List.getElem?_eq_getElem hi)] at hk
        exact (HFO.out.2 _ (List.getElem_mem hi)).2.2.2.2.2 k hk)
      have H0n := Lib.hid (show 0 < f.blocks.length from Nat.pos_of_ne_zero HFO.out.1.2.2.2.2)
      go_wp2_with fail
      clear r0 r1 r2 r3' r4 r5 HB5 hbig
      generalize wr.heap.size = gf at *
      obtain ⟨w6, hw6⟩ : ∃ w6, w6 = wr.alloc (.cells #[.string f.name, .int .i64 f.params, .slice A7 f.secret.length cap7, .int .i64 (R : Nat), .slice A6 f.slots.length cap6, .slice A8 f.blocks.length cap8] 41) := ⟨_, rfl⟩
      rw [← hw6] at HB6 HFB ⊢
      clear hw6
      refine (live_sets w w6 HB6.out gf 0 f _ (HFB.out 5 (.slice A8 f.blocks.length cap8) rfl) R (HFB.out 3 (.int .i64 (R : Nat)) rfl) HSB.out _ rfl H0n.out (by omega) (by omega) HNX.out HSl.out).mono ?_
      rintro e wl ⟨iv, ov, vs, I, O, rfl, hLS, hLI, hLD⟩
      have HBL := Lib.hid (HB6.out.bt hLS.below)
      have HLS := Lib.hid hLS
      have HLI := Lib.hid hLI
      have HLD := Lib.hid hLD
      have HK0 := Lib.hid (show wl.cell? ⟨gf, 0, none⟩ = some (.string f.name) from later (HFB.out 0 _ rfl) hLS.below)
      have HK1 := Lib.hid (show wl.cell? ⟨gf, 1, none⟩ = some (.int .i64 f.params) from later (HFB.out 1 _ rfl) hLS.below)
      have HK2 := Lib.hid (show wl.cell? ⟨gf, 2, none⟩ = some (.slice A7 f.secret.length cap7) from later (HFB.out 2 _ rfl) hLS.below)
      have HK3 := Lib.hid (show wl.cell? ⟨gf, 3, none⟩ = some (.int .i64 (R : Nat)) from later (HFB.out 3 _ rfl) hLS.below)
      have HK4 := Lib.hid (show wl.cell? ⟨gf, 4, none⟩ = some (.slice A6 f.slots.length cap6) from later (HFB.out 4 _ rfl) hLS.below)
      have HK5 := Lib.hid (show wl.cell? ⟨gf, 5, none⟩ = some (.slice A8 f.blocks.length cap8) from later (HFB.out 5 _ rfl) hLS.below)
      clear hLS hLI hLD HFB HB6
      have q5 := HK5.out
      have hgf := World.block_lt_of_cell? _ _ q5
      obtain ⟨gi, ci, hiv, _⟩ := own_form HLS.out.ri H0n.out
      obtain ⟨go, co, hov, _⟩ := own_form HLS.out.ro H0n.out
      subst hiv hov
      go_wp2_with fail
      clear q5 hgf
      go_loopw [41] (fun s wr => ∃ b : Nat, b ≤ f.blocks.length ∧ s = .int .i64 b ∧ Below wl.heap.size wl wr) (fun s _ => f.blocks.length - (intOf s).toNat)
      case atStart => exact ⟨0, by omega, rfl, Below.refl _ _⟩
      case round =>
        obtain ⟨b, hb, rfl, hB⟩ := hrel
        have HB := Lib.hid hB
        clear hB
        by_cases hltb : b < f.blocks.length
        · obtain ⟨blk, hblk⟩ : ∃ b', f.blocks[b]? = some b' := ⟨_, List.getElem?_eq_getElem hltb⟩
          obtain ⟨bb, bo, cs, rfl, e1, e2, vi, e3, y1, y2, t1, t2, t3, t4, t5, t6, t7, t8⟩ := H8.out b blk hblk
          subst e3
          obtain ⟨A9, cap9, rfl, _⟩ := y1
          have H03 := HBL.out.bt HB.out
          have r0 := later (e2 0 (by omega)) H03
          have r1 := later (e2 1 (by omega)) H03
          have r2 := later (e2 2 (by omega)) H03
          have r3 := later (e2 3 (by omega)) H03
          have r4 := later (e2 4 (by omega)) H03
          have r5 := later (e2 5 (by omega)) H03
          have r6 := later (e2 6 (by omega)) H03
          have r7 := later (e2 7 (by omega)) H03
          have r8 := later (e2 8 (by omega)) H03
          rw [Nat.add_zero] at r0
          have HNx := Lib.hid (nxF_of hblk)
          have q3 := later HK3.out HB.out
          have hgf := World.block_lt_of_cell? _ _ q3
          have HBO := Lib.hid (blk_new wr (.cells #[.slice A9 blk.ins.length cap9, .int .i64 blk.term.kind, .int .i64 blk.term.op, .int .i64 blk.term.a.reg, .int .i64 blk.term.a.num, .int .i64 blk.term.b.reg, .int .i64 blk.term.b.num, .int .i64 blk.term.to_, .int .i64 blk.term.els] 52))
          have HBW := Lib.hid (HB.out.bt (below_alloc (.cells #[.slice A9 blk.ins.length cap9, .int .i64 blk.term.kind, .int .i64 blk.term.op, .int .i64 blk.term.a.reg, .int .i64 blk.term.a.num, .int .i64 blk.term.b.reg, .int .i64 blk.term.b.num, .int .i64 blk.term.to_, .int .i64 blk.term.els] 52) (Below.refl wr.heap.size wr)))
          clear e1 e2 y2 t1 t2 t3 t4 t5 t6 t7 t8 hblk H03
          go_wp2_with fail
          clear r0 r1 r2 r3 r4 r5 r6 r7 r8 q3 hgf HB
          obtain ⟨gk, hgk⟩ : ∃ z, z = wr.heap.size := ⟨_, rfl⟩
          obtain ⟨wk, hwk⟩ : ∃ z, z = wr.alloc (.cells #[.slice A9 blk.ins.length cap9, .int .i64 blk.term.kind, .int .i64 blk.term.op, .int .i64 blk.term.a.reg, .int .i64 blk.term.a.num, .int .i64 blk.term.b.reg, .int .i64 blk.term.b.num, .int .i64 blk.term.to_, .int .i64 blk.term.els] 52) := ⟨_, rfl⟩
          rw [← hwk] at HBO HBW ⊢
          rw [← hgk] at HBO ⊢
          clear hwk hgk
          go_loopw [48] (fun s wr => ∃ r : Nat, r ≤ R ∧ s = .int .i64 r ∧ Below wk.heap.size wk wr) (fun s _ => R - (intOf s).toNat)
          case atStart => exact ⟨0, by omega, rfl, Below.refl _ _⟩
          case round =>
            obtain ⟨r, hr, rfl, hB⟩ := hrel
            have HB := Lib.hid hB
            clear hB
            by_cases hltr : r < R
            · have HWL := Lib.hid (HBW.out.bt HB.out)
              have hR60' := HR60.out
              have hn40' := HN40.out
              obtain ⟨v, hv, hsv⟩ := HLS.out.si b hltb
              obtain ⟨cv, _, _⟩ := HLS.out.cellI hltb hv
              obtain ⟨Av, kv, hve, _⟩ := hsv.slice_
              subst hve
              have HCV := Lib.hid cv
              have HSV := Lib.hid hsv
              have HX := Lib.hid (liv_in HLI.out HLD.out (r := r) (show r < 64 * ((R + 63) / 64) by omega) hltb)
              obtain ⟨w9, hr9, ho9, hb9⟩ := make_bools wr.drew f.blocks.length (by omega)
              have HO9 := Lib.hid ho9
              have HB9 := Lib.hid (show Below wr.heap.size wr w9 from ⟨hb9.os, hb9.tape, hb9.output, hb9.size, hb9.block⟩)
              have HHas := Lib.hid (fun w' (h : Below wr.heap.size wr w') => has_any w' _ _ _ (r : Nat) (set_below HSV.out (HWL.out.bt h)) (by omega))
              have hh : hasL (I b) ((r : Nat) : Int) = livB (blkF f) (nxF f) f.blocks.length r b 0 := by unfold hasL; rw [decide_eq_true (by omega)]; exact HX.out
              rw [hh] at HHas
              have HLive := Lib.hid (live_top w f A6 A7 _ cap6 cap7 cap8 f.slots.length f.secret.length (R : Nat) HSB.out f.blocks.length rfl (by omega) HNX.out HSl.out r (by omega) w9 wr (HBL.out.bt HWL.out) HB9.out wr.heap.size f.blocks.length b 0 hltb (Nat.zero_le _) HO9.out)
              obtain ⟨lv, hlv⟩ : ∃ z, z = livB (blkF f) (nxF f) f.blocks.length r b 0 := ⟨_, rfl⟩
              rw [← hlv] at HHas HLive
              have HS0 := Lib.hid (show (wr.cell? ⟨gf, 0, none⟩ = some (.string f.name) ∧ wr.cell? ⟨gf, 1, none⟩ = some (.int .i64 f.params) ∧ wr.cell? ⟨gf, 2, none⟩ = some (.slice A7 f.secret.length cap7) ∧ wr.cell? ⟨gf, 3, none⟩ = some (.int .i64 (R : Nat)) ∧ wr.cell? ⟨gf, 4, none⟩ = some (.slice A6 f.slots.length cap6) ∧ wr.cell? ⟨gf, 5, none⟩ = some (.slice (some ⟨bb, bo, none⟩) f.blocks.length cap8) ∧ wr.cell? ⟨gi, b, none⟩ = some (.slice Av (I b).length kv)) ∧ Below wr.heap.size wr wr from ⟨⟨later HK0.out HWL.out, later HK1.out HWL.out, later HK2.out HWL.out, later HK3.out HWL.out, later HK4.out HWL.out, later HK5.out HWL.out, later cv HWL.out⟩, Below.refl _ _⟩)
              have q3 := HS0.out.1.2.2.2.1
              have hgf := World.block_lt_of_cell? _ _ q3
              clear hv hsv cv ho9 hb9 hh hlv
              go_wp2_with fail
              clear q3
              go_cut [65] (fun x wx => x = .bool false ∧ Below wr.heap.size wr wx)
              case first =>
                go_region_held3 (fun w' => (w'.cell? ⟨gf, 0, none⟩ = some (.string f.name) ∧ w'.cell? ⟨gf, 1, none⟩ = some (.int .i64 f.params) ∧ w'.cell? ⟨gf, 2, none⟩ = some (.slice A7 f.secret.length cap7) ∧ w'.cell? ⟨gf, 3, none⟩ = some (.int .i64 (R : Nat)) ∧ w'.cell? ⟨gf, 4, none⟩ = some (.slice A6 f.slots.length cap6) ∧ w'.cell? ⟨gf, 5, none⟩ = some (.slice (some ⟨bb, bo, none⟩) f.blocks.length cap8) ∧ w'.cell? ⟨gi, b, none⟩ = some (.slice Av (I b).length kv)) ∧ Below wr.heap.size wr w')
                  (first | exact s7_step (hb := drew_below' _) (h := HS0.out) | exact s7_to HS0.out HB9.out | exact s7_to HS0.out hbL)
                  ((first
                    | (go_at_call 13; refine (HHas.out _ (by first | exact HB9.out | exact drew_below' wr)).mono ?_; rintro e w7 ⟨rfl, rfl⟩)
                    | (go_at_call 16; refine HLive.out.mono ?_; rintro e w8 ⟨rfl, hbL⟩)))
                all_goals (try go_wp2_with fail)
                all_goals go_meet
                all_goals exact ⟨by simp, by assumption⟩
              obtain ⟨hc65, hbL⟩ := hcut
              subst hc65
              have HBLw := Lib.hid hbL
              have HB20 := Lib.hid (HB.out.bt hbL)
              have HWL2 := Lib.hid (HBW.out.bt HB20.out)
              have HK20 := Lib.hid (blk_kept HBO.out (grown_of_below (r := none) HB20.out) (Or.inl rfl))
              have k1 : wc.cell? ⟨gk, 1, none⟩ = some (.int .i64 blk.term.kind) := blk_cell HK20.out rfl
              have k2 : wc.cell? ⟨gk, 2, none⟩ = some (.int .i64 blk.term.op) := blk_cell HK20.out rfl
              have k3 : wc.cell? ⟨gk, 3, none⟩ = some (.int .i64 blk.term.a.reg) := blk_cell HK20.out rfl
              have k4 : wc.cell? ⟨gk, 4, none⟩ = some (.int .i64 blk.term.a.num) := blk_cell HK20.out rfl
              have k5 : wc.cell? ⟨gk, 5, none⟩ = some (.int .i64 blk.term.b.reg) := blk_cell HK20.out rfl
              have k6 : wc.cell? ⟨gk, 6, none⟩ = some (.int .i64 blk.term.b.num) := blk_cell HK20.out rfl
              have k7 : wc.cell? ⟨gk, 7, none⟩ = some (.int .i64 blk.term.to_) := blk_cell HK20.out rfl
              have k8 : wc.cell? ⟨gk, 8, none⟩ = some (.int .i64 blk.term.els) := blk_cell HK20.out rfl
              have hgk := blk_lt HK20.out
              clear hr9
              go_wp2_with fail
              refine (next_own _ blk.term).mono ?_
              rintro e w5 ⟨v4, rfl, ho4, hb4⟩
              have HB5w := Lib.hid (HB20.out.bt hb4)
              have O4 := Lib.hid (own_base ho4 (Nat.zero_le _))
              clear k1 k2 k3 k4 k5 k6 k7 k8 ho4 hb4 hgk hbL
              obtain ⟨A4, cap4, hv4, hm4⟩ := own_slice O4.out
              subst hv4
              have hT2 := nextT_len blk.term
              generalize nextT blk.term = nt at *
              have HT2 := Lib.hid hT2
              clear hm4 hT2
              have HAny := Lib.hid (fun j k2 (h : nt[j]? = some k2) => anyT_succ (fun k => livB (blkF f) (nxF f) f.blocks.length r k.toNat 0) nt j k2 h)
              have HB5l := Lib.hid (HBW.out.bt HB5w.out)
              have HB5wr := Lib.hid (HBLw.out)
              go_wp2_with fail
              obtain ⟨wd, hwd⟩ : ∃ z, z = w5 := ⟨_, rfl⟩
              rw [← hwd] at O4 HB5w HB5l ⊢
              clear hwd HS0 HHas HLive HB20 HWL2 HK20 HBLw HB5wr
              go_loopw [10, 70] (fun a s wr => ∃ j : Nat, j ≤ nt.length ∧ s = .int .i64 j ∧ a = .bool (anyT (fun k => livB (blkF f) (nxF f) f.blocks.length r k.toNat 0) nt j) ∧ Below wd.heap.size wd wr) (fun _ s _ => nt.length - (intOf s).toNat)
              case atStart => exact ⟨0, by omega, rfl, rfl, Below.refl _ _⟩
              case round =>
                obtain ⟨j, hj, rfl, ha, hB⟩ := hrel
                have HBd := Lib.hid hB
                have HAn := Lib.hid ha
                have hnl := HT2.out
                clear hB
                obtain ⟨sm, hsm⟩ : ∃ z, z = anyT (fun k => livB (blkF f) (nxF f) f.blocks.length r k.toNat 0) nt j := ⟨_, rfl⟩
                rw [← hsm] at ha
                subst ha
                have HSm := Lib.hid hsm
                clear hsm HAn
                by_cases hltj : j < nt.length
                · obtain ⟨k2, hk2⟩ : ∃ k, nt[j]? = some k := ⟨_, List.getElem?_eq_getElem hltj⟩
                  have hkn := HNX.out b k2 hltb (by rw [HNx.out]; exact List.mem_of_getElem? hk2)
                  obtain ⟨k2, rfl⟩ : ∃ k' : Nat, k2 = k' := ⟨k2.toNat, by omega⟩
                  obtain ⟨g4, k4, e4, _⟩ := own_form O4.out (by omega)
                  cases e4
                  have cc := later (OwnI.cell O4.out hltj _ hk2) HBd.out
                  have hg4 := World.block_lt_of_cell? _ _ cc
                  have HAs := Lib.hid (HAny.out j k2 hk2)
                  have HKn := Lib.hid (show k2 < f.blocks.length by omega)
                  have HWd := Lib.hid (HB5l.out.bt HBd.out)
                  clear hk2 hkn
                  cases sm
                  · obtain ⟨w9, hr9, ho9, hb9⟩ := make_bools wr.drew f.blocks.length (by omega)
                    have HO9 := Lib.hid ho9
                    have HB9 := Lib.hid (show Below wr.heap.size wr w9 from ⟨hb9.os, hb9.tape, hb9.output, hb9.size, hb9.block⟩)
                    have HLive := Lib.hid (live_top w f A6 A7 _ cap6 cap7 cap8 f.slots.length f.secret.length (R : Nat) HSB.out f.blocks.length rfl (by omega) HNX.out HSl.out r (by omega) w9 wr (HBL.out.bt HWd.out) HB9.out wr.heap.size f.blocks.length k2 0 HKn.out (Nat.zero_le _) HO9.out)
                    have HS0 := Lib.hid (show (wr.cell? ⟨gf, 0, none⟩ = some (.string f.name) ∧ wr.cell? ⟨gf, 1, none⟩ = some (.int .i64 f.params) ∧ wr.cell? ⟨gf, 2, none⟩ = some (.slice A7 f.secret.length cap7) ∧ wr.cell? ⟨gf, 3, none⟩ = some (.int .i64 (R : Nat)) ∧ wr.cell? ⟨gf, 4, none⟩ = some (.slice A6 f.slots.length cap6) ∧ wr.cell? ⟨gf, 5, none⟩ = some (.slice (some ⟨bb, bo, none⟩) f.blocks.length cap8) ∧ wr.cell? ⟨gi, b, none⟩ = some (.slice Av (I b).length kv)) ∧ Below wr.heap.size wr wr from ⟨⟨later HK0.out HWd.out, later HK1.out HWd.out, later HK2.out HWd.out, later HK3.out HWd.out, later HK4.out HWd.out, later HK5.out HWd.out, later HCV.out HWd.out⟩, Below.refl _ _⟩)
                    clear ho9 hb9
                    go_wp2_with fail
                    go_region_held3 (fun w' => (w'.cell? ⟨gf, 0, none⟩ = some (.string f.name) ∧ w'.cell? ⟨gf, 1, none⟩ = some (.int .i64 f.params) ∧ w'.cell? ⟨gf, 2, none⟩ = some (.slice A7 f.secret.length cap7) ∧ w'.cell? ⟨gf, 3, none⟩ = some (.int .i64 (R : Nat)) ∧ w'.cell? ⟨gf, 4, none⟩ = some (.slice A6 f.slots.length cap6) ∧ w'.cell? ⟨gf, 5, none⟩ = some (.slice (some ⟨bb, bo, none⟩) f.blocks.length cap8) ∧ w'.cell? ⟨gi, b, none⟩ = some (.slice Av (I b).length kv)) ∧ Below wr.heap.size wr w')
                      (first | exact s7_step (hb := drew_below' _) (h := HS0.out) | exact s7_to HS0.out HB9.out | exact s7_to HS0.out hbL)
                      ((go_at_call 16; refine HLive.out.mono ?_; rintro e w8 ⟨rfl, hbL⟩))
                    have HBz := Lib.hid (HBd.out.bt hbL)
                    clear hbL hr9
                    go_wp2_with fail
                    go_roundw
                    case rel => exact ⟨j + 1, by omega, by go_num, by rw [HAs.out, ← HSm.out]; rfl, HBz.out⟩
                    case measure => first | omega | (simp [intOf]; done) | (simp [intOf]; omega)
                  · go_wp2_with fail
                    go_quiet (fail)
                    go_wp2_with fail
                    go_roundw
                    case rel => exact ⟨j + 1, by omega, by go_num, by rw [HAs.out, ← HSm.out]; rfl, below_drewN HBd.out _⟩
                    case measure => first | omega | (simp [intOf]; done) | (simp [intOf]; omega)
                · have e : j = nt.length := by omega
                  subst e
                  have HWd := Lib.hid (HB5l.out.bt HBd.out)
                  obtain ⟨u, hu, hsu⟩ := HLS.out.so b hltb
                  obtain ⟨cu, _, _⟩ := HLS.out.cellO hltb hu
                  obtain ⟨Au, ku, hue, _⟩ := hsu.slice_
                  subst hue
                  have hOut := liv_out HLI.out HLD.out HNX.out (r := r) (show r < 64 * ((R + 63) / 64) by omega) hltb
                  rw [HNx.out] at hOut
                  have hSm := HSm.out
                  unfold anyT at hSm
                  rw [List.take_length, ← hOut] at hSm
                  have hh : hasL (O b) ((r : Nat) : Int) = sm := by unfold hasL; rw [decide_eq_true (by omega)]; exact hSm.symm
                  have HHs := Lib.hid (has_any wr _ _ _ (r : Nat) (set_below hsu HWd.out) (by omega))
                  rw [hh] at HHs
                  have cu' := later cu HWd.out
                  have hgo2 := World.block_lt_of_cell? _ _ cu'
                  clear hu hsu cu hOut hSm hh
                  go_wp2_with fail
                  refine HHs.out.mono ?_
                  rintro e w8 ⟨rfl, rfl⟩
                  clear cu' hgo2
                  go_wp2_with fail
                  go_roundw
                  case rel => exact ⟨r + 1, by omega, by go_num, HB5w.out.bt HBd.out⟩
                  case measure => first | omega | (simp [intOf]; done) | (simp [intOf]; omega)
            · have e : r = R := by omega
              subst e
              go_wp2_with fail
              go_roundw
              case rel => exact ⟨b + 1, by omega, by go_num, HBW.out.bt HB.out⟩
              case measure => first | omega | (simp [intOf]; done) | (simp [intOf]; omega)
        · have e : b = f.blocks.length := by omega
          subst e
          go_wp2_with fail
          go_roundw
          case rel => exact ⟨k + 1, by omega, by go_num, HBL.out.bt HB.out⟩
          case measure => first | omega | (simp [intOf]; done) | (simp [intOf]; omega)
    · have e : k = p.funcs.length := by omega
      subst e
      go_wp2_with fail
      go_returns
      exact ⟨rfl, HB5.out⟩
end Go.Proofs.Ytcljdhpdknecjaa
