/- The walk of AllocMay. No condition. -/
import Derived.Test.YtegnaeinpacafaaAm5
import Derived.Test.YtegnaeinpacafaaAm6
import Derived.Test.YtegnaeinpacafaaRn
import Derived.Test.YtegnaeinpacafaaFit17
namespace Go.Proofs.Ytegnaeinpacafaa
open Go.RowKit
set_option linter.unusedVariables false
set_option maxHeartbeats 4000000
theorem t8_step {w w2 : World} {p0 p1 p2 p3 p4 p5 p6 p7 : Addr} {a0 a1 a2 a3 a4 a5 a6 a7 : Value} (hb : Below w.heap.size w w2) (h : (w.cell? p0 = some a0 ∧ w.cell? p1 = some a1 ∧ w.cell? p2 = some a2 ∧ w.cell? p3 = some a3 ∧ w.cell? p4 = some a4 ∧ w.cell? p5 = some a5 ∧ w.cell? p6 = some a6 ∧ w.cell? p7 = some a7)) : (w2.cell? p0 = some a0 ∧ w2.cell? p1 = some a1 ∧ w2.cell? p2 = some a2 ∧ w2.cell? p3 = some a3 ∧ w2.cell? p4 = some a4 ∧ w2.cell? p5 = some a5 ∧ w2.cell? p6 = some a6 ∧ w2.cell? p7 = some a7) ∧ Below w.heap.size w w2 := by
  obtain ⟨h0, h1, h2, h3, h4, h5, h6, h7⟩ := h
  exact ⟨⟨later h0 hb, later h1 hb, later h2 hb, later h3 hb, later h4 hb, later h5 hb, later h6 hb, later h7 hb⟩, hb⟩
set_option maxRecDepth 100000 in
theorem maylaw (w : World) (p : ProgD) (vf vg : Value) (hin : In w p vf vg) :
    Calls Try.prog 5 #[.agg #[vf, vg, .int .i64 p.data, .int .i64 p.main]] w fun e w' => e = .returned (.bool true) ∧ Below w.heap.size w w' := by
  have HIN := Lib.hid hin
  obtain ⟨A, cap, rfl, _, m3, hi⟩ := hin.funcs
  obtain ⟨A2, cap2, rfl, _, m4, _⟩ := hin.globs
  have HM := Lib.hid (fun w1 h => maybe_any w w1 h p _ _ hin)
  have hfl := hin.flen
  have hgl := hin.glen
  have HF := Lib.hid hi
  clear hi hin m3 m4
  have HB1 := Lib.hid (below_alloc (.cells #[.slice A p.funcs.length cap, .slice A2 p.globals.length cap2, .int .i64 p.data, .int .i64 p.main] 51) (Below.refl w.heap.size w))
  have HBX := Lib.hid (block_box w #[.slice A p.funcs.length cap, .slice A2 p.globals.length cap2, .int .i64 p.data, .int .i64 p.main] 51)
  go_enter Try.func5, Try.ntmps5
  go_wp2_with fail
  refine (fit_vm _).mono ?_
  rintro e w2 ⟨rfl, hb2⟩
  have HB2 := Lib.hid (HB1.out.bt hb2)
  have c0 := later (HBX.out 0 _ rfl) hb2
  have c1 := later (HBX.out 1 _ rfl) hb2
  have c2 := later (HBX.out 2 _ rfl) hb2
  have c3 := later (HBX.out 3 _ rfl) hb2
  clear hb2 HB1
  go_wp2_with fail
  refine (HM.out _ HB2.out).mono ?_
  rintro e w3 ⟨b, rfl, hb, hb3⟩
  have HB3 := Lib.hid (HB2.out.bt hb3)
  have d0 := later c0 hb3
  have HOK := Lib.hid hb
  clear c0 c1 c2 c3 hb3 hb
  cases b
  · go_wp2_with fail
    go_returns
    exact ⟨rfl, HB3.out⟩
  have HLk := Lib.hid (HOK.out rfl).1
  have HPk := Lib.hid (HOK.out rfl).2
  clear HOK HBX HB2
  go_wp2_with fail
  refine (all_any w w3 HB3.out p A cap w.heap.size d0 HIN.out.funcs (fun f hf => FnOk.of (HPk.out f hf) (HLk.out.2.2 f hf)) HLk.out.1).mono ?_
  rintro e w4 ⟨v, xs, rfl, hA, hb4⟩
  have HA4 := Lib.hid hA
  have HB4 := Lib.hid (HB3.out.trans (hb4.mono HB3.out.size))
  have d1 := later d0 hb4
  have l1 := World.block_lt_of_cell? _ _ d1
  obtain ⟨Av, cv, hv, _⟩ := own_slice hA.row
  subst hv
  have bl : ((p.funcs.length : Int) != (p.funcs.length : Int)) = false := by simp
  clear hA hb4 d0
  go_wp2_with fail
  clear d1 l1 bl
  go_loopw [21] (fun i wr => ∃ k : Nat, k ≤ p.funcs.length ∧ i = .int .i64 k ∧ Below w4.heap.size w4 wr) (fun i _ => p.funcs.length - (intOf i).toNat)
  case atStart => exact ⟨0, by omega, rfl, Below.refl _ _⟩
  case round =>
    obtain ⟨k, hk, rfl, hb⟩ := hrel
    have HBw := Lib.hid hb
    have HB5 := Lib.hid (HB4.out.trans (hb.mono HB4.out.size))
    clear hb
    by_cases hlt : k < p.funcs.length
    · obtain ⟨f, hfk⟩ : ∃ f, p.funcs[k]? = some f := ⟨_, List.getElem?_eq_getElem hlt⟩
      obtain ⟨fb, fo, cs, rfl, e1, e2, hfr⟩ := HF.out k f hfk
      obtain ⟨R, P, hFN⟩ := FnOk.of (HPk.out f (List.mem_of_getElem? hfk)) (HLk.out.2.2 f (List.mem_of_getElem? hfk))
      have HFN := Lib.hid hFN
      obtain ⟨vs, vl, vb, rfl, z1, z2, z3, z4, z5, z6, z7, z8, z9⟩ := hfr
      have HSB := Lib.hid z8
      obtain ⟨A7, cap7, rfl, _, m7, _⟩ := z3
      obtain ⟨A6, cap6, rfl, _, m6, _⟩ := z6
      obtain ⟨A8, cap8, rfl, _, m8, h8⟩ := z8
      have H8 := Lib.hid h8
      have r0 := later (e2 0 (by omega)) HB5.out
      have r1 : wr.cell? ⟨fb, fo + k * 6 + 1, none⟩ = some (.int .i64 (P : Nat)) := by rw [← hFN.par]; exact later (e2 1 (by omega)) HB5.out
      have r2 := later (e2 2 (by omega)) HB5.out
      have r3 : wr.cell? ⟨fb, fo + k * 6 + 3, none⟩ = some (.int .i64 (R : Nat)) := by rw [← hFN.regs]; exact later (e2 3 (by omega)) HB5.out
      have r4 := later (e2 4 (by omega)) HB5.out
      have r5 := later (e2 5 (by omega)) HB5.out
      rw [Nat.add_zero] at r0
      have hfk2 := hfk
      clear e1 e2 h8 hfk m6 m7 m8 z1 z2 z4 z5 z7 z9 hFN
      have hR300 := HFN.out.hR
      have hn2000 := HFN.out.hn
      have hPR := HFN.out.hPR
      by_cases hbig : 100 < R
      · go_wp2_with fail
        go_roundw
        case rel => exact ⟨k + 1, by omega, by go_num, below_alloc _ HBw.out⟩
        case measure => first | omega | (simp [intOf]; done) | (simp [intOf]; omega)
      obtain ⟨a, b, hxa, hxb, gp, R', P', pl, cells, hF', rfl, rfl, hpl, hok⟩ := HA4.out.at_ k f (by omega) (by assumption)
      obtain rfl : R = R' := by have h1 := hF'.regs; have h2 := HFN.out.regs; omega
      obtain rfl : P = P' := by have h1 := hF'.par; have h2 := HFN.out.par; omega
      have HPL := Lib.hid hpl
      have HOK := Lib.hid hok
      obtain ⟨gl, cl, hvl, _⟩ := own_form HA4.out.row (by omega)
      cases hvl
      have y0 := (World.ownsRow.cellAt HA4.out.row (k * 2) (by omega)).trans hxa
      have y1 := (World.ownsRow.cellAt HA4.out.row (k * 2 + 1) (by omega)).trans hxb
      have HBw6 := Lib.hid (below_alloc (.cells #[.string f.name, .int .i64 (P : Nat), .slice A7 f.secret.length cap7, .int .i64 (R : Nat), .slice A6 f.slots.length cap6, .slice A8 f.blocks.length cap8] 38) HBw.out)
      clear hxa hxb hF' hpl hok
      have HB6 := Lib.hid (below_alloc (.cells #[.string f.name, .int .i64 (P : Nat), .slice A7 f.secret.length cap7, .int .i64 (R : Nat), .slice A6 f.slots.length cap6, .slice A8 f.blocks.length cap8] 38) HB5.out)
      have HFB := Lib.hid (blk_new wr (.cells #[.string f.name, .int .i64 (P : Nat), .slice A7 f.secret.length cap7, .int .i64 (R : Nat), .slice A6 f.slots.length cap6, .slice A8 f.blocks.length cap8] 38))
      go_wp2_with fail
      clear r0 r1 r2 r3 r4 r5
      generalize hgfe : wr.heap.size = gf at *
      obtain ⟨wf, hwf⟩ : ∃ z, z = wr.alloc (.cells #[.string f.name, .int .i64 (P : Nat), .slice A7 f.secret.length cap7, .int .i64 (R : Nat), .slice A6 f.slots.length cap6, .slice A8 f.blocks.length cap8] 38) := ⟨_, rfl⟩
      rw [← hwf] at HB6 HFB HBw6 ⊢
      clear hwf hgfe
      have HS0 := Lib.hid (And.intro (blk_cell (i := 0) HFB.out rfl) (And.intro (blk_cell (i := 1) HFB.out rfl) (And.intro (blk_cell (i := 2) HFB.out rfl) (And.intro (blk_cell (i := 3) HFB.out rfl) (And.intro (blk_cell (i := 4) HFB.out rfl) (And.intro (blk_cell (i := 5) HFB.out rfl) (And.intro (later y0 HBw6.out) (later y1 HBw6.out))))))))
      have HMay := Lib.hid (fun w1 (h1 : Below wf.heap.size wf w1) => may_any w w1 (HB6.out.trans (h1.mono HB6.out.size)) f R P HFN.out A6 A7 A8 f.slots.length f.secret.length cap6 cap7 cap8 HSB.out _ gp pl (own_below HPL.out (HBw6.out.bt h1)) cells HOK.out)
      have HC1 := Lib.hid (fun w1 (h1 : Below wf.heap.size wf w1) => check_g w w1 (HB6.out.trans (h1.mono HB6.out.size)) gf 0 f _ (later (blk_cell (i := 5) HFB.out rfl) h1) R P (later (blk_cell (i := 3) HFB.out rfl) h1) (later (blk_cell (i := 1) HFB.out rfl) h1) HFN.out HSB.out _ gp pl (own_below HPL.out (HBw6.out.bt h1)) cells HOK.out)
      have HOf := Lib.hid (fun w1 (h1 : Below wf.heap.size wf w1) => alloc_of w w1 (HB6.out.trans (h1.mono HB6.out.size)) gf 0 f R P HFN.out _ (later (blk_cell (i := 5) HFB.out rfl) h1) (later (blk_cell (i := 3) HFB.out rfl) h1) (later (blk_cell (i := 1) HFB.out rfl) h1) HSB.out)
      have HC2 := Lib.hid (fun w1 (h1 : Below wf.heap.size wf w1) base gp2 pl2 cells2 (hp : OwnI w1 base (.slice (some ⟨gp2, 0, none⟩) R R) pl2) (hA : AllocOk f R P pl2 (cells2 : Nat)) => check_g w w1 (HB6.out.trans (h1.mono HB6.out.size)) gf 0 f _ (later (blk_cell (i := 5) HFB.out rfl) h1) R P (later (blk_cell (i := 3) HFB.out rfl) h1) (later (blk_cell (i := 1) HFB.out rfl) h1) HFN.out HSB.out base gp2 pl2 hp cells2 hA)
      clear y0 y1
      have hklt : k < p.funcs.length := hlt
      go_cut [48] (fun z wx => z = .bool false ∧ Below wf.heap.size wf wx)
      case first =>
        go_region_held3 (fun w' => (w'.cell? ⟨gf, 0, none⟩ = some (.string f.name) ∧ w'.cell? ⟨gf, 1, none⟩ = some (.int .i64 (P : Nat)) ∧ w'.cell? ⟨gf, 2, none⟩ = some (.slice A7 f.secret.length cap7) ∧ w'.cell? ⟨gf, 3, none⟩ = some (.int .i64 (R : Nat)) ∧ w'.cell? ⟨gf, 4, none⟩ = some (.slice A6 f.slots.length cap6) ∧ w'.cell? ⟨gf, 5, none⟩ = some (.slice A8 f.blocks.length cap8) ∧ w'.cell? ⟨gl, k * 2, none⟩ = some (.slice (some ⟨gp, 0, none⟩) R R) ∧ w'.cell? ⟨gl, k * 2 + 1, none⟩ = some (.int .i64 (cells : Nat))) ∧ Below wf.heap.size wf w')
          (first | exact t8_step (hb := hbL) (h := HS0.out) | exact t8_step (hb := hbC) (h := HS0.out) | exact t8_step (hb := hbB) (h := HS0.out) | exact t8_step (hb := hbA) (h := HS0.out) | exact t8_step (hb := drew_below' _) (h := HS0.out))
          ((first
            | (go_at_call 13; refine (HMay.out _ (drew_below' wf)).mono ?_; rintro e w8 ⟨rfl, hb8⟩; have hbA : Below wf.heap.size wf w8 := (drew_below' wf).bt hb8)
            | (go_at_call 9; refine (HC2.out _ hbC _ _ _ _ hp2 hok2).mono ?_; rintro e w11 ⟨rfl, hb11⟩; have hbL : Below wf.heap.size wf w11 := hbC.bt hb11)
            | (go_at_call 9; refine (HC1.out _ hbA).mono ?_; rintro e w9 ⟨rfl, hb9⟩; have hbB : Below wf.heap.size wf w9 := hbA.bt hb9)
            | (go_at_call 10; refine (HOf.out _ hbB).mono ?_; rintro e w10 ⟨gp2, pl2, cc2, rfl, hp2, hok2, hb10⟩; have hbC : Below wf.heap.size wf w10 := hbB.bt hb10)))
        all_goals (try go_wp2_with fail)
        all_goals go_meet
        all_goals exact ⟨by simp, by assumption⟩
      case rest =>
        obtain ⟨hc48, hbL⟩ := hcut
        subst hc48
        have HBz := Lib.hid (HBw6.out.bt hbL)
        clear hbL
        go_wp2_with fail
        go_roundw
        case rel => exact ⟨k + 1, by omega, by go_num, HBz.out⟩
        case measure => first | omega | (simp [intOf]; done) | (simp [intOf]; omega)
    · have e : k = p.funcs.length := by omega
      subst e
      go_wp2_with fail
      go_returns
      exact ⟨rfl, HB5.out⟩
end Go.Proofs.Ytegnaeinpacafaa
