/- The walk of the reference's Right. No condition. -/
import Derived.Test.YticgaknkonolnaaRha
import Derived.StillTailTactics
namespace Go.Proofs.Yticgaknkonolnaa
open Go.RowKit
set_option linter.unusedVariables false
set_option maxHeartbeats 40000000
def RQ (w : World) (p : ProgD) (e : Ending) (w' : World) : Prop := RIs (RightOk p) e ∧ Below w.heap.size w w'
theorem rh_no {w w' : World} {p : ProgD} (hn : ¬ RightOk p) (h : Below w.heap.size w w') : RQ w p (.returned (.bool false)) w' := ⟨ris_of (by simp [hn]), h⟩
theorem ppr_of {w : World} {p : ProgD} {vf vg : Value} (hin : In w p vf vg) {pb : Nat} (hb : BoxP w w pb p vf vg) : PPr w pb p.funcs.length p.globals.length (parOf p) := by
  obtain ⟨A1, d1, e1, _, m2, _⟩ := hin.globs
  obtain ⟨A2, d2, e2, _, m3, hi⟩ := hin.funcs
  subst e1 e2
  refine ⟨⟨A1, d1, hb.2.1, by have := hin.glen; omega⟩, ⟨A2, d2, hb.1, by have := hin.flen; omega, fun i hlt => ?_⟩⟩
  obtain ⟨b, o, cs', g1, g2, g3, g4⟩ := hi i _ (List.getElem?_eq_getElem hlt)
  obtain ⟨_, _, _, rfl, _⟩ := g4
  refine ⟨b, o, g1, ?_⟩
  rw [g3 1 (by omega)]
  simp [parOf, List.getElem?_eq_getElem hlt]
theorem refins_any (w : World) (g0 : Nat) (hg0 : g0 = w.heap.size) (pb nf ng : Nat) (par : Int → Int) (nm : ByteArray) (pa regs : Int) (A1 A2 A3 : Option Addr) (n1 ns n3 k1 k2 k3 : Nat) (x : InsD) (va : Value)
    (hpp : PPr w pb nf ng par) (hop : In64 x.op) (hdst : In64 x.dst) (ha : In64 x.a.reg ∧ In64 x.a.num) (hb : In64 x.b.reg ∧ In64 x.b.num) (hsz : In64 x.size) (href : In64 x.ref) (hs : SlR w 2 ArgR va x.args) (hl : x.args.length ≤ 1000000) (hr : In64 regs) (hns : ns ≤ 9223372036854775807) :
    Calls Try.prog 39 #[.pointer (some ⟨pb, 0, none⟩), .agg #[.string nm, .int .i64 pa, .slice A1 n1 k1, .int .i64 regs, .slice A2 ns k2, .slice A3 n3 k3], insV x va] w fun e w' => RIs (RI nf ng ns par regs x.op x.dst x.a x.b x.size x.signed x.secret x.ref x.off x.args) e ∧ Below g0 w w' := by
  by_cases h : x.op < 1 ∨ 30 < x.op ∨ x.dst < -1 ∨ regs ≤ x.dst
  · exact refins_no w g0 hg0 pb nf ng par nm pa regs A1 A2 A3 n1 ns n3 k1 k2 k3 x.op x.dst x.a x.b x.size x.signed x.secret x.ref x.off x.args va hop hdst hr h
  · exact refins_yes w g0 hg0 pb nf ng par nm pa regs A1 A2 A3 n1 ns n3 k1 k2 k3 x.op x.dst x.a x.b x.size x.signed x.secret x.ref x.off x.args va hpp hop hdst ha hb hsz href hs hl hr hns (by omega) (by omega) (by omega) (by omega)
set_option maxRecDepth 100000 in
theorem refright_main (w : World) (p : ProgD) (vf vg : Value) (hin : In w p vf vg) (pb : Nat) (hbx : BoxP w w pb p vf vg)
    (hn : p.main < 0 ∨ (p.funcs.length : Int) ≤ p.main ∨ (0 ≤ p.main ∧ p.main < p.funcs.length ∧ parOf p p.main ≠ 0)) :
    Calls Try.prog 15 #[.pointer (some ⟨pb, 0, none⟩)] w (RQ w p) := by
  obtain ⟨c0, c1, c2, c3⟩ := hbx
  obtain ⟨A, cap, rfl, _, m3, hi⟩ := hin.funcs
  have hfl := hin.flen
  obtain ⟨q1, q2⟩ := hin.main
  have hcase : decide (p.main < 0) = true ∨ (decide (p.main < 0) = false ∧ decide ((p.funcs.length : Int) ≤ p.main) = true) ∨ (0 ≤ p.main ∧ p.main < p.funcs.length ∧ decide (p.main < 0) = false ∧ decide ((p.funcs.length : Int) ≤ p.main) = false ∧ (parOf p p.main != 0) = true) := by
    by_cases z1 : p.main < 0
    · exact Or.inl (decide_eq_true z1)
    · by_cases z2 : (p.funcs.length : Int) ≤ p.main
      · exact Or.inr (Or.inl ⟨decide_eq_false z1, decide_eq_true z2⟩)
      · refine Or.inr (Or.inr ⟨by omega, by omega, decide_eq_false z1, decide_eq_false z2, ?_⟩)
        rcases hn with h | h | h
        · omega
        · omega
        · simpa using h.2.2
  have HNO := Lib.hid (show ¬ RightOk p from fun h => by
    have h1 := h.m0
    have h2 := h.m1
    have h3 := h.par
    rcases hn with g | g | g
    · omega
    · omega
    · exact g.2.2 h3)
  clear hn
  rcases hcase with d1 | ⟨d1, d2⟩ | ⟨g1, g2, d1, d2, d3⟩
  · clear hi
    go_enter Try.func15, Try.ntmps15
    go_wp2_with fail
    go_quiet (fail)
    go_wp2_with fail
    go_returns
    exact rh_no HNO.out (below_drewN (Below.refl _ _) _)
  · clear hi
    go_enter Try.func15, Try.ntmps15
    go_wp2_with fail
    go_quiet (fail)
    go_wp2_with fail
    go_returns
    exact rh_no HNO.out (below_drewN (Below.refl _ _) _)
  · obtain ⟨b, o, cs', rfl, _, g3, g4⟩ := hi p.main.toNat _ (List.getElem?_eq_getElem (by omega))
    obtain ⟨_, _, _, rfl, _⟩ := g4
    have c5 : w.cell? ⟨b, o + p.main.toNat * 6 + 1, none⟩ = some (.int .i64 (parOf p p.main)) := by
      have := g3 1 (by omega)
      rw [this]
      simp [parOf, List.getElem?_eq_getElem (show p.main.toNat < p.funcs.length by omega)]
    clear hi g3
    generalize parOf p p.main = pm at *
    go_enter Try.func15, Try.ntmps15
    go_wp2_with fail
    go_quiet (fail)
    go_wp2_with fail
    go_returns
    exact rh_no HNO.out (below_drewN (Below.refl _ _) _)
set_option maxRecDepth 100000 in
theorem refright_yes (w : World) (p : ProgD) (vf vg : Value) (hin : In w p vf vg) (pb : Nat) (hbx : BoxP w w pb p vf vg) (hL : LightOk p) (hLG : LightG p)
    (hn : 0 ≤ p.main ∧ p.main < p.funcs.length ∧ parOf p p.main = 0) :
    Calls Try.prog 15 #[.pointer (some ⟨pb, 0, none⟩)] w (RQ w p) := by
  have HIN := Lib.hid hin
  have HBX := Lib.hid hbx
  have HLI := Lib.hid hL
  have HLG := Lib.hid hLG
  obtain ⟨c0, c1, c2, c3⟩ := hbx
  obtain ⟨A, cap, rfl, _, m3, hi⟩ := hin.funcs
  obtain ⟨A2, cap2, rfl, _, m4, hi2⟩ := hin.globs
  have hfl := hL.1
  have hgl := hL.2.1
  have hd0 := hLG.1
  have hd1 := hLG.2.1
  obtain ⟨q1, q2⟩ := hin.main
  obtain ⟨g1, g2, g0⟩ := hn
  have HF := Lib.hid hi
  have HG := Lib.hid hi2
  obtain ⟨fm, hfm⟩ : ∃ f, p.funcs[p.main.toNat]? = some f := ⟨_, List.getElem?_eq_getElem (by omega)⟩
  obtain ⟨b, o, cs', rfl, _, g3, g4⟩ := hi p.main.toNat fm hfm
  obtain ⟨x1', x2', x3', rfl, x4'⟩ := g4
  have c5 : w.cell? ⟨b, o + p.main.toNat * 6 + 1, none⟩ = some (.int .i64 0) := by
    have := g3 1 (by omega)
    rw [this]
    have e := g0
    simp only [parOf, hfm] at e
    simp [e]
  clear x4' hfm
  have d1 : decide (p.main < 0) = false := decide_eq_false (by omega)
  have d2 : decide ((p.funcs.length : Int) ≤ p.main) = false := decide_eq_false (by omega)
  have d3 : decide (p.data < 0) = false := decide_eq_false (by omega)
  have d4 : decide (32768 < p.data) = false := decide_eq_false (by omega)
  have HM := Lib.hid (And.intro g1 (And.intro g2 g0))
  clear hi hi2 g3 g0 hin m3 m4 hL hLG
  go_enter Try.func15, Try.ntmps15
  go_wp2_with fail
  go_quiet (fail)
  clear c5
  go_wp2_with fail
  clear g1 g2 d1 d2 d3 d4 c0 c1 c2 c3
  go_loopw [3] (fun i wr => ∃ k : Nat, k ≤ p.globals.length ∧ i = .int .i64 k ∧ (∀ g ∈ p.globals.take k, placedB p.data p.funcs.length g = true) ∧ Below w.heap.size w wr) (fun i _ => p.globals.length - (intOf i).toNat)
  case atStart => exact ⟨0, by omega, rfl, (fun g hg => by simp at hg), below_drewN (Below.refl _ _) _⟩
  case round =>
    rename World => wg
    obtain ⟨k, hk, rfl, hgl2, hb⟩ := hrel
    have HGl := Lib.hid hgl2
    clear hgl2
    have HB := Lib.hid hb
    obtain ⟨c0, c1, c2, c3⟩ := HBX.out.later hb
    have hl0 := World.block_lt_of_cell? _ _ c0
    clear hb
    by_cases hlt : k < p.globals.length
    · obtain ⟨y, hy⟩ : ∃ y, p.globals[k]? = some y := ⟨_, List.getElem?_eq_getElem hlt⟩
      obtain ⟨lb, lo, cs, rfl, e1, e2, vp, e3, n1, n2, n3, n4, n5⟩ := HG.out k y hy
      subst e3
      have r0 := later (e2 0 (by omega)) HB.out
      have r1 := later (e2 1 (by omega)) HB.out
      have r2 := later (e2 2 (by omega)) HB.out
      have r3 := later (e2 3 (by omega)) HB.out
      rw [Nat.add_zero] at r0
      have lr0 := World.block_lt_of_cell? _ _ r0
      obtain ⟨A6, cap6, rfl, _, _, l6⟩ := id n4
      have H6 := Lib.hid l6
      have HY := Lib.hid hy
      obtain ⟨ua, ub, uc, ud⟩ := HLG.out.2.2 y (List.mem_of_getElem? hy)
      have HUD := Lib.hid ud
      obtain ⟨n2a, n2b⟩ := n2
      obtain ⟨n3a, n3b⟩ := n3
      clear e1 e2 hy l6 n4 n5 ud
      have hcase : (decide (y.at_ < 0) = true) ∨ (decide (y.at_ < 0) = false ∧ decide (y.size < 0) = true) ∨ (decide (y.at_ < 0) = false ∧ decide (y.size < 0) = false ∧ decide (p.data < y.size) = true) ∨
          (0 ≤ y.at_ ∧ 0 ≤ y.size ∧ y.size ≤ p.data ∧ decide (y.at_ < 0) = false ∧ decide (y.size < 0) = false ∧ decide (p.data < y.size) = false ∧ decide (p.data < y.at_ + y.size) = true) ∨ (0 ≤ y.at_ ∧ 0 ≤ y.size ∧ y.size ≤ p.data ∧ decide (y.at_ < 0) = false ∧ decide (y.size < 0) = false ∧ decide (p.data < y.size) = false ∧ decide (p.data < y.at_ + y.size) = false) := by
        by_cases h1 : y.at_ < 0
        · exact Or.inl (decide_eq_true h1)
        · by_cases h2 : y.size < 0
          · exact Or.inr (Or.inl ⟨decide_eq_false h1, decide_eq_true h2⟩)
          · by_cases h3 : p.data < y.size
            · exact Or.inr (Or.inr (Or.inl ⟨decide_eq_false h1, decide_eq_false h2, decide_eq_true h3⟩))
            · by_cases h4 : p.data < y.at_ + y.size
              · exact Or.inr (Or.inr (Or.inr (Or.inl ⟨by omega, by omega, by omega, decide_eq_false h1, decide_eq_false h2, decide_eq_false h3, decide_eq_true h4⟩)))
              · exact Or.inr (Or.inr (Or.inr (Or.inr ⟨by omega, by omega, by omega, decide_eq_false h1, decide_eq_false h2, decide_eq_false h3, decide_eq_false h4⟩)))
      have HNP := Lib.hid (show placedB p.data p.funcs.length y = false → ¬ RightOk p from fun h hr => by
        have := hr.globs y (List.mem_of_getElem? HY.out)
        rw [h] at this; cases this)
      rcases hcase with d1 | ⟨d1, d2⟩ | ⟨d1, d2, d3⟩ | ⟨s0, s1, s2, d1, d2, d3, d4⟩ | ⟨s0, s1, s2, d1, d2, d3, d4⟩
      · as_aux_lemma =>
          have HNO := Lib.hid (HNP.out (placedB_no (fun h => by have := of_decide_eq_true d1; omega)))
          go_wp2_with fail
          go_quiet (fail)
          go_wp2_with fail
          go_returns
          exact rh_no HNO.out (below_drewN (below_alloc _ HB.out) _)
      · as_aux_lemma =>
          have HNO := Lib.hid (HNP.out (placedB_no (fun h => by have := of_decide_eq_true d2; omega)))
          go_wp2_with fail
          go_quiet (fail)
          go_wp2_with fail
          go_returns
          exact rh_no HNO.out (below_drewN (below_alloc _ HB.out) _)
      · as_aux_lemma =>
          have HNO := Lib.hid (HNP.out (placedB_no (fun h => by have := of_decide_eq_true d3; omega)))
          go_wp2_with fail
          go_quiet (fail)
          go_wp2_with fail
          go_returns
          exact rh_no HNO.out (below_drewN (below_alloc _ HB.out) _)
      · as_aux_lemma =>
          have HNO := Lib.hid (HNP.out (placedB_no (fun h => by have := of_decide_eq_true d4; omega)))
          have hw := IntWalk.i64_in (y.at_ + y.size) (by omega)
          go_wp2_with fail
          go_quiet (fail)
          go_wp2_with fail
          go_returns
          exact rh_no HNO.out (below_drewN (below_alloc _ HB.out) _)
      · as_aux_lemma =>
          have hw := IntWalk.i64_in (y.at_ + y.size) (by omega)
          go_wp2_with fail
          go_quiet (fail)
          clear hw
          obtain ⟨w2, hw2⟩ : ∃ z, z = wg.alloc (.cells #[.string y.name, .int .i64 y.at_, .int .i64 y.size, .slice A6 y.parts.length cap6] 98) := ⟨_, rfl⟩
          have hgb : w2.heap[wg.heap.size]? = some (.cells #[.string y.name, .int .i64 y.at_, .int .i64 y.size, .slice A6 y.parts.length cap6] 98 (0, 0)) := by rw [hw2]; exact blk_new wg _
          have HB2 := Lib.hid (show Below w.heap.size w w2 by rw [hw2]; exact below_alloc _ HB.out)
          have HWG := Lib.hid (show wg.heap.size < w2.heap.size by rw [hw2]; simp)
          have HGB := Lib.hid hgb
          rw [← hw2]
          clear hw2 hgb r0 r1 r2 r3 lr0 c0 c1 c2 c3 hl0
          have HSZ := Lib.hid (placed_sum (data := p.data) (nf := p.funcs.length) (g := y) s1)
          have HSI := Lib.hid (And.intro s0 (And.intro s2 (show y.at_ + y.size ≤ p.data by have := of_decide_eq_false d4; omega)))
          clear d1 d2 d3 d4 s0 s2
          go_wp2_with fail
          go_loopw [5, 6] (fun s i wr => ∃ (q : Nat) (t : Int), q ≤ y.parts.length ∧ i = .int .i64 q ∧ s = .int .i64 t ∧ sumV p.funcs.length y.size (y.parts.take q) = some t ∧ 0 ≤ t ∧ t ≤ 4096 * q ∧ Below w2.heap.size w2 wr) (fun _ i _ => y.parts.length - (intOf i).toNat)
          case atStart => exact ⟨0, 0, by omega, rfl, rfl, rfl, by omega, by omega, below_drewN (Below.refl _ _) _⟩
          case round =>
            rename World => wp
            obtain ⟨q, t, hq, rfl, rfl, hsum, ht0, ht1, hb⟩ := hrel
            have HSU := Lib.hid hsum
            have HB3 := Lib.hid hb
            have HBW := Lib.hid (HB2.out.trans (hb.mono HB2.out.size))
            have hgb := blk_below HGB.out hb
            have s3 := blk_cell (i := 3) hgb rfl
            have s2 := blk_cell (i := 2) hgb rfl
            have ls := blk_lt hgb
            clear hb hsum hgb
            by_cases hltq : q < y.parts.length
            · obtain ⟨z, hz⟩ : ∃ z, y.parts[q]? = some z := ⟨_, List.getElem?_eq_getElem hltq⟩
              obtain ⟨lb2, lo2, cs, rfl, e1, e2, vd, e3, k1, k2, k3, k4⟩ := H6.out q z hz
              subst e3
              have HB0 := Lib.hid HBW.out
              have r0 := later (e2 0 (by omega)) HB0.out
              have r1 := later (e2 1 (by omega)) HB0.out
              have r2 := later (e2 2 (by omega)) HB0.out
              rw [Nat.add_zero] at r0
              have lr0 := World.block_lt_of_cell? _ _ r0
              obtain ⟨A10, cap10, rfl, _, _, _⟩ := k2
              have HST := Lib.hid (sumV_take (nf := p.funcs.length) (size := y.size) hz)
              have hdl := HUD.out z (List.mem_of_getElem? hz)
              obtain ⟨zk, zd, zn⟩ := z
              simp only at r0 r1 r2 hdl k1 k4
              obtain ⟨k4a, k4b⟩ := k4
              clear e1 e2 hz k3
              have HNV := Lib.hid (show partV p.funcs.length y.size ⟨zk, zd, zn⟩ = none → ¬ RightOk p from fun h => HNP.out (by
                rw [HSZ.out]
                have : sumV p.funcs.length y.size y.parts = none := sumV_no (k := q + 1) (by rw [HST.out, HSU.out, h]; rfl)
                rw [this]; simp))
              have HSV := Lib.hid (show ∀ n, partV p.funcs.length y.size ⟨zk, zd, zn⟩ = some n → sumV p.funcs.length y.size (y.parts.take (q + 1)) = some (t + n) from fun n h => by rw [HST.out, HSU.out, h]; rfl)
              have hkc : zk = 0 ∨ zk = 1 ∨ zk = 2 ∨ zk = 3 ∨ ((zk == 0) = false ∧ (zk == 1) = false ∧ (zk == 2) = false ∧ (zk == 3) = false) := by simp only [beq_eq_false_iff_ne, ne_eq]; omega
              rcases hkc with h | h | h | h | ⟨h0, h1, h2, h3⟩
              · as_aux_lemma =>
                  subst h
                  have hw := IntWalk.i64_in (t + zd.length) (by omega)
                  go_wp2_with fail
                  clear hw
                  go_roundw
                  case rel => exact ⟨q + 1, _, by omega, by go_num, rfl, HSV.out _ rfl, by omega, by omega, below_alloc _ HB3.out⟩
                  case measure => simp [intOf]; omega
              · as_aux_lemma =>
                  subst h
                  have hw := IntWalk.i64_in (t + 8) (by omega)
                  obtain ⟨c0, _, _, _⟩ := HBX.out.later HBW.out
                  have hl0 := World.block_lt_of_cell? _ _ c0
                  by_cases z1 : zn < 0
                  · have d1 : decide (zn < 0) = true := decide_eq_true z1
                    have HNO := Lib.hid (HNV.out (by simp [partV]; omega))
                    go_wp2_with fail
                    go_quiet (fail)
                    go_wp2_with fail
                    go_returns
                    exact rh_no HNO.out (below_drewN (below_alloc _ HBW.out) _)
                  · by_cases z2 : (p.funcs.length : Int) ≤ zn
                    · have d1 : decide (zn < 0) = false := decide_eq_false z1
                      have d2 : decide ((p.funcs.length : Int) ≤ zn) = true := decide_eq_true z2
                      have HNO := Lib.hid (HNV.out (by simp [partV]; omega))
                      go_wp2_with fail
                      go_quiet (fail)
                      go_wp2_with fail
                      go_returns
                      exact rh_no HNO.out (below_drewN (below_alloc _ HBW.out) _)
                    · have d1 : decide (zn < 0) = false := decide_eq_false z1
                      have d2 : decide ((p.funcs.length : Int) ≤ zn) = false := decide_eq_false z2
                      have HV := Lib.hid (HSV.out 8 (by simp [partV]; omega))
                      go_wp2_with fail
                      go_quiet (fail)
                      clear hw
                      go_wp2_with fail
                      go_roundw
                      case rel => exact ⟨q + 1, _, by omega, by go_num, rfl, HV.out, by omega, by omega, below_drewN (below_alloc _ HB3.out) _⟩
                      case measure => simp [intOf]; omega
              · as_aux_lemma =>
                  subst h
                  by_cases z1 : zn < 0
                  · have d1 : decide (zn < 0) = true := decide_eq_true z1
                    have HNO := Lib.hid (HNV.out (by simp [partV]; omega))
                    go_wp2_with fail
                    go_returns
                    exact rh_no HNO.out (below_alloc _ HBW.out)
                  · by_cases z2 : y.size < zn
                    · have d1 : decide (zn < 0) = false := decide_eq_false z1
                      have d2 : decide (y.size < zn) = true := decide_eq_true z2
                      have HNO := Lib.hid (HNV.out (by simp [partV]; omega))
                      go_wp2_with fail
                      go_returns
                      exact rh_no HNO.out (below_alloc _ HBW.out)
                    · have d1 : decide (zn < 0) = false := decide_eq_false z1
                      have d2 : decide (y.size < zn) = false := decide_eq_false z2
                      have hw := IntWalk.i64_in (t + zn) (by omega)
                      have HV := Lib.hid (HSV.out zn (by simp [partV]; omega))
                      go_wp2_with fail
                      clear hw
                      go_roundw
                      case rel => exact ⟨q + 1, _, by omega, by go_num, rfl, HV.out, by omega, by omega, below_alloc _ HB3.out⟩
                      case measure => simp [intOf]; omega
              · as_aux_lemma =>
                  subst h
                  by_cases z1 : zn < 0
                  · have d1 : decide (zn < 0) = true := decide_eq_true z1
                    have HNO := Lib.hid (HNV.out (by simp [partV]; omega))
                    go_wp2_with fail
                    go_returns
                    exact rh_no HNO.out (below_alloc _ HBW.out)
                  · by_cases z2 : y.size < zn
                    · have d1 : decide (zn < 0) = false := decide_eq_false z1
                      have d2 : decide (y.size < zn) = true := decide_eq_true z2
                      have HNO := Lib.hid (HNV.out (by simp [partV]; omega))
                      go_wp2_with fail
                      go_returns
                      exact rh_no HNO.out (below_alloc _ HBW.out)
                    · have d1 : decide (zn < 0) = false := decide_eq_false z1
                      have d2 : decide (y.size < zn) = false := decide_eq_false z2
                      have hw := IntWalk.i64_in (t + zn) (by omega)
                      have HV := Lib.hid (HSV.out zn (by simp [partV]; omega))
                      go_wp2_with fail
                      clear hw
                      go_roundw
                      case rel => exact ⟨q + 1, _, by omega, by go_num, rfl, HV.out, by omega, by omega, below_alloc _ HB3.out⟩
                      case measure => simp [intOf]; omega
              · as_aux_lemma =>
                  have HNO := Lib.hid (HNV.out (by simp only [beq_eq_false_iff_ne, ne_eq] at h0 h1 h2 h3; simp [partV, h0, h1, h2, h3]))
                  go_wp2_with fail
                  go_returns
                  exact rh_no HNO.out (below_alloc _ HBW.out)
            · have e : q = y.parts.length := by omega
              subst e
              rw [List.take_length] at HSU
              by_cases zs : t = y.size
              · subst zs
                have HP := Lib.hid (show placedB p.data p.funcs.length y = true by
                  rw [HSZ.out, HSU.out]
                  have := HSI.out
                  simp; omega)
                go_wp2_with fail
                go_roundw
                case rel => exact ⟨k + 1, by omega, by go_num, take_all HY.out HGl.out HP.out, HBW.out⟩
                case measure => simp [intOf]; omega
              · as_aux_lemma =>
                  have HNO := Lib.hid (HNP.out (by rw [HSZ.out, HSU.out]; simp [zs]))
                  have d1 : (t != y.size) = true := by simpa using zs
                  go_wp2_with fail
                  go_returns
                  exact rh_no HNO.out HBW.out
    · have e : k = p.globals.length := by omega
      subst e
      rw [List.take_length] at HGl
      go_wp2_with fail
      clear c0 c1 c2 c3 hl0
      go_loopw [8] (fun i wr => ∃ k : Nat, k ≤ p.funcs.length ∧ i = .int .i64 k ∧ (∀ f ∈ p.funcs.take k, FuncOk p f) ∧ Below w.heap.size w wr) (fun i _ => p.funcs.length - (intOf i).toNat)
      case atStart => exact ⟨0, by omega, rfl, (fun g hg => by simp at hg), HB.out⟩
      case round =>
        rename World => wf
        obtain ⟨k, hk, rfl, hall, hb⟩ := hrel
        have HFA := Lib.hid hall
        have HB4 := Lib.hid hb
        obtain ⟨c0, c1, c2, c3⟩ := HBX.out.later hb
        have hl0 := World.block_lt_of_cell? _ _ c0
        clear hb hall
        by_cases hlt : k < p.funcs.length
        · obtain ⟨f, hf⟩ : ∃ f, p.funcs[k]? = some f := ⟨_, List.getElem?_eq_getElem hlt⟩
          obtain ⟨lb, lo, cs, hA, e1, e2, vs, vl, vb, e3, n1, n2, n3, n4, n5, n6, n7, n8, n9⟩ := HF.out k f hf
          subst e3
          cases hA
          have r0 := later (e2 0 (by omega)) HB4.out
          have r1 := later (e2 1 (by omega)) HB4.out
          have r2 := later (e2 2 (by omega)) HB4.out
          have r3 := later (e2 3 (by omega)) HB4.out
          have r4 := later (e2 4 (by omega)) HB4.out
          have r5 := later (e2 5 (by omega)) HB4.out
          rw [Nat.add_zero] at r0
          have lr0 := World.block_lt_of_cell? _ _ r0
          obtain ⟨A7, cap7, rfl, _, _, _⟩ := id n3
          obtain ⟨A8, cap8, rfl, _, _, _⟩ := id n6
          obtain ⟨A9, cap9, rfl, _, _, l9⟩ := id n8
          have H9 := Lib.hid l9
          have HFK := Lib.hid hf
          have HFL := Lib.hid (HLI.out.2.2 f (List.mem_of_getElem? hf))
          obtain ⟨n2a, n2b⟩ := n2
          have n5' := Lib.hid n5
          obtain ⟨n5a, n5b⟩ := n5
          have hbn : f.blocks.length ≤ 2000 := HFL.out.2.2.1
          have hsn : f.slots.length ≤ 2000 := HFL.out.2.2.2.1
          have hcn : f.secret.length ≤ 140737488351232 := n4
          have HNF := Lib.hid (show ¬ FuncOk p f → ¬ RightOk p from fun h hr => h (hr.prog f (List.mem_of_getElem? HFK.out)))
          clear e1 e2 hf l9 n1 n3 n4 n6 n7 n8 n9
          have hcase : (decide (f.params < 0) = true) ∨ (decide (f.params < 0) = false ∧ decide (6 < f.params) = true) ∨ (decide (f.params < 0) = false ∧ decide (6 < f.params) = false ∧ decide (f.regs < f.params) = true) ∨
              (decide (f.params < 0) = false ∧ decide (6 < f.params) = false ∧ decide (f.regs < f.params) = false ∧ ((f.secret.length : Int) != f.params) = true) ∨
              (decide (f.params < 0) = false ∧ decide (6 < f.params) = false ∧ decide (f.regs < f.params) = false ∧ ((f.secret.length : Int) != f.params) = false ∧ ((f.blocks.length : Int) == 0) = true) ∨
              (decide (f.params < 0) = false ∧ decide (6 < f.params) = false ∧ decide (f.regs < f.params) = false ∧ ((f.secret.length : Int) != f.params) = false ∧ ((f.blocks.length : Int) == 0) = false ∧ HeadOk f) := by
            by_cases h1 : f.params < 0
            · exact Or.inl (decide_eq_true h1)
            refine Or.inr ?_
            by_cases h3 : 6 < f.params
            · exact Or.inl ⟨decide_eq_false h1, decide_eq_true h3⟩
            refine Or.inr ?_
            by_cases h2 : f.regs < f.params
            · exact Or.inl ⟨decide_eq_false h1, decide_eq_false h3, decide_eq_true h2⟩
            refine Or.inr ?_
            by_cases h4 : (f.secret.length : Int) = f.params
            · refine Or.inr ?_
              by_cases h5 : f.blocks.length = 0
              · exact Or.inl ⟨decide_eq_false h1, decide_eq_false h3, decide_eq_false h2, by simp [h4], by simp [h5]⟩
              · exact Or.inr ⟨decide_eq_false h1, decide_eq_false h3, decide_eq_false h2, by simp [h4], by simp [h5], by omega, by omega, by omega, h4, h5⟩
            · exact Or.inl ⟨decide_eq_false h1, decide_eq_false h3, decide_eq_false h2, by simpa using h4⟩
          rcases hcase with d1 | ⟨d1, d2⟩ | ⟨d1, d2, d3⟩ | ⟨d1, d2, d3, d4⟩ | ⟨d1, d2, d3, d4, d5⟩ | ⟨d1, d2, d3, d4, d5, hok⟩
          · as_aux_lemma =>
              have HNO := Lib.hid (HNF.out (fun h => by have := of_decide_eq_true d1; have := h.1.1; omega))
              go_wp2_with fail
              go_returns
              exact rh_no HNO.out (below_alloc _ HB4.out)
          · as_aux_lemma =>
              have HNO := Lib.hid (HNF.out (fun h => by have := of_decide_eq_true d2; have := h.1.2.2.1; omega))
              go_wp2_with fail
              go_returns
              exact rh_no HNO.out (below_alloc _ HB4.out)
          · as_aux_lemma =>
              have HNO := Lib.hid (HNF.out (fun h => by have := of_decide_eq_true d3; have := h.1.2.1; omega))
              go_wp2_with fail
              go_returns
              exact rh_no HNO.out (below_alloc _ HB4.out)
          · as_aux_lemma =>
              have HNO := Lib.hid (HNF.out (fun h => by have := h.1.2.2.2.1; simp [this] at d4))
              go_wp2_with fail
              go_returns
              exact rh_no HNO.out (below_alloc _ HB4.out)
          · as_aux_lemma =>
              have HNO := Lib.hid (HNF.out (fun h => by have := h.1.2.2.2.2; have e := eq_of_beq d5; omega))
              go_wp2_with fail
              go_returns
              exact rh_no HNO.out (below_alloc _ HB4.out)
          · as_aux_lemma =>
              have HHO := Lib.hid hok
              clear hok
              go_wp2_with fail
              obtain ⟨w2, hw2⟩ : ∃ z, z = wf.alloc (.cells #[.string f.name, .int .i64 f.params, .slice A7 f.secret.length cap7, .int .i64 f.regs, .slice A8 f.slots.length cap8, .slice A9 f.blocks.length cap9] 95) := ⟨_, rfl⟩
              have hfb : w2.heap[wf.heap.size]? = some (.cells #[.string f.name, .int .i64 f.params, .slice A7 f.secret.length cap7, .int .i64 f.regs, .slice A8 f.slots.length cap8, .slice A9 f.blocks.length cap9] 95 (0, 0)) := by rw [hw2]; exact blk_new wf _
              have HB5 := Lib.hid (show Below w.heap.size w w2 by rw [hw2]; exact below_alloc _ HB4.out)
              have HFB := Lib.hid hfb
              rw [← hw2]
              clear hw2 hfb r0 r1 r2 r3 r4 r5 lr0 c0 c1 c2 c3 hl0 d1 d2 d3 d4 d5
              generalize wf.heap.size = gf at *
              go_loopw [10] (fun i wr => ∃ j : Nat, j ≤ f.blocks.length ∧ i = .int .i64 j ∧ (∀ b ∈ f.blocks.take j, BlockOk p f b) ∧ Below w2.heap.size w2 wr) (fun i _ => f.blocks.length - (intOf i).toNat)
              case atStart => exact ⟨0, by omega, rfl, (fun g hg => by simp at hg), Below.refl _ _⟩
              case round =>
                rename World => wb
                obtain ⟨j, hj, rfl, hall, hb⟩ := hrel
                have HJA := Lib.hid hall
                have HB6 := Lib.hid (HB5.out.trans (hb.mono HB5.out.size))
                have hfb := blk_below HFB.out hb
                have s5 := blk_cell (i := 5) hfb rfl
                have ls := blk_lt hfb
                have HFB2 := Lib.hid hfb
                have HBS := Lib.hid hb
                clear hb hall hfb
                by_cases hltj : j < f.blocks.length
                · obtain ⟨b, hbj⟩ : ∃ b, f.blocks[j]? = some b := ⟨_, List.getElem?_eq_getElem hltj⟩
                  obtain ⟨lb2, lo2, cs, rfl, e1, e2, vi, e3, m1, m2, m3, m4, m5, m6, m7, m8, m9, m10⟩ := H9.out j b hbj
                  subst e3
                  have r0 := later (e2 0 (by omega)) HB6.out
                  have r1 := later (e2 1 (by omega)) HB6.out
                  have r2 := later (e2 2 (by omega)) HB6.out
                  have r3 := later (e2 3 (by omega)) HB6.out
                  have r4 := later (e2 4 (by omega)) HB6.out
                  have r5 := later (e2 5 (by omega)) HB6.out
                  have r6 := later (e2 6 (by omega)) HB6.out
                  have r7 := later (e2 7 (by omega)) HB6.out
                  have r8 := later (e2 8 (by omega)) HB6.out
                  rw [Nat.add_zero] at r0
                  have lr0 := World.block_lt_of_cell? _ _ r0
                  obtain ⟨Ai, capi, rfl, _, _, li⟩ := id m1
                  have HII := Lib.hid li
                  have HBJ := Lib.hid hbj
                  have HBL := Lib.hid (HFL.out.2.2.2.2 b (List.mem_of_getElem? hbj))
                  have hin2 : b.ins.length ≤ 2000 := HBL.out.1
                  have HTI := Lib.hid (And.intro m3 (And.intro m4 (And.intro m5 (And.intro m6 (And.intro m7 (And.intro m8 (And.intro m9 m10)))))))
                  have HNB := Lib.hid (show ¬ BlockOk p f b → ¬ RightOk p from fun h => HNF.out (fun hf => h (hf.2 b (List.mem_of_getElem? HBJ.out))))
                  clear e1 e2 hbj li m1 m2 m3 m4 m5 m6 m7 m8 m9 m10
                  go_wp2_with fail
                  obtain ⟨w4, hw4⟩ : ∃ z, z = wb.alloc (.cells #[.slice Ai b.ins.length capi, .int .i64 b.term.kind, .int .i64 b.term.op, .int .i64 b.term.a.reg, .int .i64 b.term.a.num, .int .i64 b.term.b.reg, .int .i64 b.term.b.num, .int .i64 b.term.to_, .int .i64 b.term.els] 104) := ⟨_, rfl⟩
                  have hbb : w4.heap[wb.heap.size]? = some (.cells #[.slice Ai b.ins.length capi, .int .i64 b.term.kind, .int .i64 b.term.op, .int .i64 b.term.a.reg, .int .i64 b.term.a.num, .int .i64 b.term.b.reg, .int .i64 b.term.b.num, .int .i64 b.term.to_, .int .i64 b.term.els] 104 (0, 0)) := by rw [hw4]; exact blk_new wb _
                  have hb64 : Below wb.heap.size wb w4 := by rw [hw4]; exact below_alloc _ (Below.refl _ _)
                  have HB7 := Lib.hid (HB6.out.trans (hb64.mono HB6.out.size))
                  have HBB := Lib.hid hbb
                  have HFB3 := Lib.hid (blk_below HFB2.out hb64)
                  have HBS2 := Lib.hid (HBS.out.trans (hb64.mono HBS.out.size))
                  rw [← hw4]
                  clear hw4 hbb hb64 r0 r1 r2 r3 r4 r5 r6 r7 r8 lr0 s5 ls
                  generalize wb.heap.size = gb at *
                  go_loopw [12] (fun i wr => ∃ q : Nat, q ≤ b.ins.length ∧ i = .int .i64 q ∧ (∀ x ∈ b.ins.take q, InsOk p f x) ∧ Below w4.heap.size w4 wr) (fun i _ => b.ins.length - (intOf i).toNat)
                  case atStart => exact ⟨0, by omega, rfl, (fun g hg => by simp at hg), Below.refl _ _⟩
                  case round =>
                    rename World => wi
                    obtain ⟨q, hq, rfl, hall, hb⟩ := hrel
                    have HQA := Lib.hid hall
                    have HBS4 := Lib.hid hb
                    have HB8 := Lib.hid (HB7.out.trans (hb.mono HB7.out.size))
                    have HBS3 := Lib.hid (HBS2.out.trans (hb.mono HBS2.out.size))
                    have hfb := blk_below HFB3.out hb
                    have hbb := blk_below HBB.out hb
                    have s0 := blk_cell (i := 0) hfb rfl
                    have s1 := blk_cell (i := 1) hfb rfl
                    have s2 := blk_cell (i := 2) hfb rfl
                    have s3 := blk_cell (i := 3) hfb rfl
                    have s4 := blk_cell (i := 4) hfb rfl
                    have s5 := blk_cell (i := 5) hfb rfl
                    have ls := blk_lt hfb
                    have t0 := blk_cell (i := 0) hbb rfl
                    have lt := blk_lt hbb
                    have HBB2 := Lib.hid hbb
                    clear hall hfb hbb hb
                    by_cases hltq : q < b.ins.length
                    · obtain ⟨x, hx⟩ : ∃ x, b.ins[q]? = some x := ⟨_, List.getElem?_eq_getElem hltq⟩
                      obtain ⟨lb3, lo3, cs, rfl, e1, e2, va, e3, p1, p2, p3, p4, p5, p6, p7, p8, p9, p10, p11⟩ := HII.out q x hx
                      subst e3
                      have r0 := later (e2 0 (by omega)) HB8.out
                      have r1 := later (e2 1 (by omega)) HB8.out
                      have r2 := later (e2 2 (by omega)) HB8.out
                      have r3 := later (e2 3 (by omega)) HB8.out
                      have r4 := later (e2 4 (by omega)) HB8.out
                      have r5 := later (e2 5 (by omega)) HB8.out
                      have r6 := later (e2 6 (by omega)) HB8.out
                      have r7 := later (e2 7 (by omega)) HB8.out
                      have r8 := later (e2 8 (by omega)) HB8.out
                      have r9 := later (e2 9 (by omega)) HB8.out
                      have r10 := later (e2 10 (by omega)) HB8.out
                      have r11 := later (e2 11 (by omega)) HB8.out
                      rw [Nat.add_zero] at r0
                      have lr0 := World.block_lt_of_cell? _ _ r0
                      obtain ⟨Ax, capx, rfl, _, _, _⟩ := id p10
                      have HX := Lib.hid hx
                      have hxl : x.args.length ≤ 4000 := (HBL.out.2 x (List.mem_of_getElem? hx)).1
                      have HCALL := Lib.hid (fun (w' : World) (h : Below wi.heap.size wi w') => refins_any w' w'.heap.size rfl pb p.funcs.length p.globals.length (parOf p) f.name f.params f.regs A7 A8 (some ⟨lb2, lo2, none⟩) f.secret.length f.slots.length f.blocks.length cap7 cap8 cap9 x (.slice Ax x.args.length capx) ((ppr_of HIN.out HBX.out).later (HB8.out.trans (h.mono HB8.out.size))) p1 p2 ⟨p3, p4⟩ ⟨p5, p6⟩ p7 p8 ((p10.later (by decide) HB8.out).later (by decide) h) (by omega) n5'.out (by omega))
                      clear e1 e2 hx p1 p2 p3 p4 p5 p6 p7 p8 p9 p10 p11
                      go_wp2_with fail
                      go_still_tail 7, (by kernel_rfl)
                      change wpList _ _ _ _ _ wi.drew
                      by_cases hio : InsOk p f x
                      · as_aux_lemma =>
                          go_wp2_with (go_at_call 39; refine (HCALL.out wi.drew (Below.drew (Below.refl _ _))).mono ?_; rintro e w7 ⟨⟨bb, rfl, hbb⟩, hb7⟩; obtain rfl : bb = true := hbb.2 hio)
                          have HB9 := Lib.hid (show Below wi.heap.size wi w7 from ⟨hb7.os, hb7.tape, hb7.output, hb7.size, hb7.block⟩)
                          clear hb7
                          go_roundw
                          case rel => exact ⟨q + 1, by omega, by go_num, take_all HX.out HQA.out hio, HBS4.out.bt HB9.out⟩
                          case measure => simp [intOf]; omega
                      · as_aux_lemma =>
                          have HNO := Lib.hid (HNB.out (fun h => hio (h.1 x (List.mem_of_getElem? HX.out))))
                          go_wp2_with (go_at_call 39; refine (HCALL.out wi.drew (Below.drew (Below.refl _ _))).mono ?_; rintro e w7 ⟨⟨bb, rfl, hbb⟩, hb7⟩; obtain rfl : bb = false := by cases hz : bb with | false => rfl | true => exact absurd (hbb.1 hz) hio)
                          have HB9 := Lib.hid (show Below wi.heap.size wi w7 from ⟨hb7.os, hb7.tape, hb7.output, hb7.size, hb7.block⟩)
                          clear hb7
                          go_returns
                          exact rh_no HNO.out (HB8.out.bt HB9.out)
                    · have e : q = b.ins.length := by omega
                      subst e
                      rw [List.take_length] at HQA
                      have HBSA := Lib.hid (HBS2.out.trans (HBS4.out.mono HBS2.out.size))
                      have hbb := HBB2.out
                      have t1 := blk_cell (i := 1) hbb rfl
                      have t2 := blk_cell (i := 2) hbb rfl
                      have t3 := blk_cell (i := 3) hbb rfl
                      have t4 := blk_cell (i := 4) hbb rfl
                      have t5 := blk_cell (i := 5) hbb rfl
                      have t6 := blk_cell (i := 6) hbb rfl
                      have t7 := blk_cell (i := 7) hbb rfl
                      have t8 := blk_cell (i := 8) hbb rfl
                      clear hbb
                      have HNT := Lib.hid (show ¬ TI f.blocks.length f.regs b.term → ¬ RightOk p from fun h => HNB.out (fun hb => h hb.2))
                      have HYT := Lib.hid (show TI f.blocks.length f.regs b.term → BlockOk p f b from fun h => ⟨HQA.out, h⟩)
                      have HA1 := Lib.hid (fun (w' : World) v (hl : SlR w' 2 ArgR v [b.term.a]) => regs8_any w' f.name f.params f.regs A7 A8 (some ⟨lb2, lo2, none⟩) f.secret.length f.slots.length f.blocks.length cap7 cap8 cap9 n5'.out v [b.term.a] hl)
                      have HA2 := Lib.hid (fun (w' : World) v (hl : SlR w' 2 ArgR v [b.term.a, b.term.b]) => regs8_any w' f.name f.params f.regs A7 A8 (some ⟨lb2, lo2, none⟩) f.secret.length f.slots.length f.blocks.length cap7 cap8 cap9 n5'.out v [b.term.a, b.term.b] hl)
                      obtain ⟨tk, htk⟩ : ∃ z, b.term.kind = z := ⟨_, rfl⟩
                      obtain ⟨top, htop⟩ : ∃ z, b.term.op = z := ⟨_, rfl⟩
                      obtain ⟨tto, htto⟩ : ∃ z, b.term.to_ = z := ⟨_, rfl⟩
                      obtain ⟨tel, htel⟩ : ∃ z, b.term.els = z := ⟨_, rfl⟩
                      have HQ := HTI.out
                      obtain ⟨⟨q11, q12⟩, ⟨q9, q10⟩, qa, qb, qc, qd, ⟨q5, q6⟩, ⟨q7, q8⟩⟩ := HQ
                      rw [htk] at t1 q11 q12
                      rw [htop] at t2 q9 q10
                      rw [htto] at t7 q5 q6
                      rw [htel] at t8 q7 q8
                      have HTT := Lib.hid (show TI f.blocks.length f.regs b.term ↔ (1 ≤ tk ∧ tk ≤ 3 ∧ argsB f.regs (if tk = 2 then [b.term.a, b.term.b] else if tk = 3 then [b.term.a] else []) = true ∧ (tk = 2 → 16 ≤ top ∧ top ≤ 21) ∧ ∀ n ∈ (if tk = 1 then [tto] else if tk = 2 then [tto, tel] else []), 0 ≤ n ∧ n < (f.blocks.length : Int)) by unfold TI readsT nextT; rw [htk, htop, htto, htel])
                      clear htk htop htto htel HQA
                      have hkc : tk = 1 ∨ tk = 2 ∨ tk = 3 ∨ ((tk == 1) = false ∧ (tk == 2) = false ∧ (tk == 3) = false) := by simp only [beq_eq_false_iff_ne, ne_eq]; omega
                      rcases hkc with h | h | h | ⟨h0, h1, h2⟩
                      · as_aux_lemma =>
                          subst h
                          by_cases z1 : tto < 0
                          · have d1 : decide (tto < 0) = true := decide_eq_true z1
                            have HNO := Lib.hid (HNT.out (fun h => by have h := HTT.out.1 h; simp at h; omega))
                            go_wp2_with fail
                            go_returns
                            exact rh_no HNO.out (below_alloc _ HB8.out)
                          have d1 : decide (tto < 0) = false := decide_eq_false z1
                          by_cases z2 : (f.blocks.length : Int) ≤ tto
                          · have d2 : decide ((f.blocks.length : Int) ≤ tto) = true := decide_eq_true z2
                            have HNO := Lib.hid (HNT.out (fun h => by have h := HTT.out.1 h; simp at h; omega))
                            go_wp2_with fail
                            go_returns
                            exact rh_no HNO.out (below_alloc _ HB8.out)
                          have d2 : decide ((f.blocks.length : Int) ≤ tto) = false := decide_eq_false z2
                          have HYO := Lib.hid (HYT.out (HTT.out.2 (by simp [argsB]; omega)))
                          go_wp2_with fail
                          go_roundw
                          case rel => exact ⟨j + 1, by omega, by go_num, take_all HBJ.out HJA.out HYO.out, below_alloc _ HBSA.out⟩
                          case measure => simp [intOf]; omega
                      · as_aux_lemma =>
                          subst h
                          by_cases z1 : tto < 0
                          · have d1 : decide (tto < 0) = true := decide_eq_true z1
                            have HNO := Lib.hid (HNT.out (fun h => by have h := HTT.out.1 h; simp at h; omega))
                            go_wp2_with fail
                            go_returns
                            exact rh_no HNO.out (below_alloc _ HB8.out)
                          have d1 : decide (tto < 0) = false := decide_eq_false z1
                          by_cases z2 : (f.blocks.length : Int) ≤ tto
                          · have d2 : decide ((f.blocks.length : Int) ≤ tto) = true := decide_eq_true z2
                            have HNO := Lib.hid (HNT.out (fun h => by have h := HTT.out.1 h; simp at h; omega))
                            go_wp2_with fail
                            go_returns
                            exact rh_no HNO.out (below_alloc _ HB8.out)
                          have d2 : decide ((f.blocks.length : Int) ≤ tto) = false := decide_eq_false z2
                          by_cases z3 : tel < 0
                          · have d3 : decide (tel < 0) = true := decide_eq_true z3
                            have HNO := Lib.hid (HNT.out (fun h => by have h := HTT.out.1 h; simp at h; omega))
                            go_wp2_with fail
                            go_returns
                            exact rh_no HNO.out (below_alloc _ HB8.out)
                          have d3 : decide (tel < 0) = false := decide_eq_false z3
                          by_cases z4 : (f.blocks.length : Int) ≤ tel
                          · have d4 : decide ((f.blocks.length : Int) ≤ tel) = true := decide_eq_true z4
                            have HNO := Lib.hid (HNT.out (fun h => by have h := HTT.out.1 h; simp at h; omega))
                            go_wp2_with fail
                            go_returns
                            exact rh_no HNO.out (below_alloc _ HB8.out)
                          have d4 : decide ((f.blocks.length : Int) ≤ tel) = false := decide_eq_false z4
                          by_cases z5 : top < 16
                          · have d5 : decide (top < 16) = true := decide_eq_true z5
                            have HNO := Lib.hid (HNT.out (fun h => by have h := HTT.out.1 h; simp at h; omega))
                            go_wp2_with fail
                            go_returns
                            exact rh_no HNO.out (below_alloc _ HB8.out)
                          have d5 : decide (top < 16) = false := decide_eq_false z5
                          by_cases z6 : 21 < top
                          · have d6 : decide (21 < top) = true := decide_eq_true z6
                            have HNO := Lib.hid (HNT.out (fun h => by have h := HTT.out.1 h; simp at h; omega))
                            go_wp2_with fail
                            go_returns
                            exact rh_no HNO.out (below_alloc _ HB8.out)
                          have d6 : decide (21 < top) = false := decide_eq_false z6
                          obtain ⟨ab, hab⟩ : ∃ z, argsB f.regs [b.term.a, b.term.b] = z := ⟨_, rfl⟩
                          rw [hab] at HA2
                          have HAB := Lib.hid hab
                          clear hab
                          cases ab with
                          | false =>
                            have HNO := Lib.hid (HNT.out (fun h => by have h := HTT.out.1 h; rw [show (if (2 : Int) = 2 then [b.term.a, b.term.b] else if (2 : Int) = 3 then [b.term.a] else []) = [b.term.a, b.term.b] from by simp, HAB.out] at h; simp at h))
                            go_wp2_with (go_at_call 40; refine (HA2.out _ _ (two_lit _ _ _ _ _ (by simp) ⟨qa, qb⟩ ⟨qc, qd⟩)).mono ?_; rintro e w8 ⟨rfl, hb8⟩)
                            go_returns
                            exact rh_no HNO.out ((below_alloc _ (below_alloc _ HB8.out)).bt hb8)
                          | true =>
                            have HYO := Lib.hid (HYT.out (HTT.out.2 ⟨by omega, by omega, by simp [HAB.out], by omega, by simp; try omega⟩))
                            go_wp2_with (go_at_call 40; refine (HA2.out _ _ (two_lit _ _ _ _ _ (by simp) ⟨qa, qb⟩ ⟨qc, qd⟩)).mono ?_; rintro e w8 ⟨rfl, hb8⟩)
                            go_roundw
                            case rel => exact ⟨j + 1, by omega, by go_num, take_all HBJ.out HJA.out HYO.out, (below_alloc _ (below_alloc _ HBSA.out)).bt hb8⟩
                            case measure => simp [intOf]; omega
                      · as_aux_lemma =>
                          subst h
                          obtain ⟨ab, hab⟩ : ∃ z, argsB f.regs [b.term.a] = z := ⟨_, rfl⟩
                          rw [hab] at HA1
                          have HAB := Lib.hid hab
                          clear hab
                          cases ab with
                          | false =>
                            have HNO := Lib.hid (HNT.out (fun h => by have h := HTT.out.1 h; rw [show (if (3 : Int) = 2 then [b.term.a, b.term.b] else if (3 : Int) = 3 then [b.term.a] else []) = [b.term.a] from by simp, HAB.out] at h; simp at h))
                            go_wp2_with (go_at_call 40; refine (HA1.out _ _ (one_lit _ _ _ _ (by simp) ⟨qa, qb⟩)).mono ?_; rintro e w8 ⟨rfl, hb8⟩)
                            go_returns
                            exact rh_no HNO.out ((below_alloc _ (below_alloc _ HB8.out)).bt hb8)
                          | true =>
                            have HYO := Lib.hid (HYT.out (HTT.out.2 ⟨by omega, by omega, by simp [HAB.out], by omega, by simp; try omega⟩))
                            go_wp2_with (go_at_call 40; refine (HA1.out _ _ (one_lit _ _ _ _ (by simp) ⟨qa, qb⟩)).mono ?_; rintro e w8 ⟨rfl, hb8⟩)
                            go_roundw
                            case rel => exact ⟨j + 1, by omega, by go_num, take_all HBJ.out HJA.out HYO.out, (below_alloc _ (below_alloc _ HBSA.out)).bt hb8⟩
                            case measure => simp [intOf]; omega
                      · as_aux_lemma =>
                          have HNO := Lib.hid (HNT.out (fun h => by have h := HTT.out.1 h; simp only [beq_eq_false_iff_ne, ne_eq] at h0 h1 h2; omega))
                          go_wp2_with fail
                          go_returns
                          exact rh_no HNO.out (below_alloc _ HB8.out)
                · have e : j = f.blocks.length := by omega
                  subst e
                  rw [List.take_length] at HJA
                  have HFO := Lib.hid (And.intro HHO.out HJA.out)
                  go_wp2_with fail
                  go_roundw
                  case rel => exact ⟨k + 1, by omega, by go_num, take_all HFK.out HFA.out HFO.out, HB6.out⟩
                  case measure => simp [intOf]; omega
        · have e : k = p.funcs.length := by omega
          subst e
          rw [List.take_length] at HFA
          have HOK := Lib.hid (⟨HM.out.1, HM.out.2.1, HM.out.2.2, HLG.out.1, by have := HLG.out.2.1; omega, HGl.out, HFA.out⟩ : RightOk p)
          go_wp2_with fail
          go_returns
          exact ⟨ris_of (by simp [HOK.out]), HB4.out⟩
end Go.Proofs.Yticgaknkonolnaa
