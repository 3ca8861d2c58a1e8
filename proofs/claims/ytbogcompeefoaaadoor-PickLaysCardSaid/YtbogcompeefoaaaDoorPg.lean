/- The walk of rtl.Right: what is known where a program may be. No condition. -/
import Derived.Test.YtbogcompeefoaaaDoorLt
namespace Go.Proofs.YtbogcompeefoaaaDoor
open Go.RowKit
set_option linter.unusedVariables false
set_option maxHeartbeats 4000000
def ProgOk (p : ProgD) : Prop := ∀ f ∈ p.funcs, FuncOk p f
def RightP (w : World) (p : ProgD) (e : Ending) (w' : World) : Prop := ∃ c : Int, e = .returned (.int .i64 c) ∧ (c = 0 → ProgOk p) ∧ Below w.heap.size w w'
theorem right_no {w w' : World} {p : ProgD} (h : Below w.heap.size w w') : RightP w p (.returned (.int .i64 50)) w' := ⟨50, rfl, fun h => by omega, h⟩
set_option maxRecDepth 100000 in
theorem right_main (W0 w : World) (h0 : Below W0.heap.size W0 w) (p : ProgD) (vf vg : Value) (hin : In W0 p vf vg) (pb : Nat) (hbx : BoxP W0 w pb p vf vg)
    (hn : p.main < 0 ∨ (p.funcs.length : Int) ≤ p.main ∨ (0 ≤ p.main ∧ p.main < p.funcs.length ∧ parOf p p.main ≠ 0)) :
    Calls Tryd.prog 14 #[.pointer (some ⟨pb, 0, none⟩)] w (RightP w p) := by
  obtain ⟨c0, c1, c2, c3⟩ := hbx
  obtain ⟨A, cap, rfl, _, m3, hi⟩ := hin.funcs
  have hfl := hin.flen
  obtain ⟨q1, q2⟩ := hin.main
  have hcase : decide (p.main < 0) = true ∨ (decide (p.main < 0) = false ∧ decide ((p.funcs.length : Int) ≤ p.main) = true) ∨ (0 ≤ p.main ∧ p.main < p.funcs.length ∧ decide (p.main < 0) = false ∧ decide ((p.funcs.length : Int) ≤ p.main) = false ∧ (parOf p p.main != 0) = true) := by
    by_cases z1 : p.main < 0
    · exact Or.inl (decide_eq_true z1)
    · by_cases z2 : (p.funcs.length : Int) ≤ p.main
      · exact Or.inr (Or.inl ⟨decide_eq_false z1, decide_eq_true z2⟩)
      · refine Or.inr (Or.inr ⟨by omega, by omega, decide_eq_false z1, decide_eq_false z2, ?_⟩)
        rcases hn with h | h | h
        · omega
        · omega
        · simpa using h.2.2
  clear hn
  rcases hcase with d1 | ⟨d1, d2⟩ | ⟨g1, g2, d1, d2, d3⟩
  · clear hi
    go_enter Tryd.func14, Tryd.ntmps14
    go_wp2_with fail
    go_quiet (fail)
    go_wp2_with fail
    go_returns
    exact right_no (below_drewN (Below.refl _ _) _)
  · clear hi
    go_enter Tryd.func14, Tryd.ntmps14
    go_wp2_with fail
    go_quiet (fail)
    go_wp2_with fail
    go_returns
    exact right_no (below_drewN (Below.refl _ _) _)
  · obtain ⟨b, o, cs', rfl, _, g3, g4⟩ := hi p.main.toNat _ (List.getElem?_eq_getElem (by omega))
    obtain ⟨_, _, _, rfl, _⟩ := g4
    have c5 : w.cell? ⟨b, o + p.main.toNat * 6 + 1, none⟩ = some (.int .i64 (parOf p p.main)) := by
      have := later (g3 1 (by omega)) h0
      rw [this]
      simp [parOf, List.getElem?_eq_getElem (show p.main.toNat < p.funcs.length by omega)]
    clear hi g3
    generalize parOf p p.main = pm at *
    go_enter Tryd.func14, Tryd.ntmps14
    go_wp2_with fail
    go_quiet (fail)
    go_wp2_with fail
    go_returns
    exact right_no (below_drewN (Below.refl _ _) _)
theorem ends_any (w : World) (g0 : Nat) (hg0 : g0 = w.heap.size) (fb fo nb : Nat) (t : TermD) (regs : Int) (hfr : w.cell? ⟨fb, fo + 3, none⟩ = some (.int .i64 regs)) (hrin : In64 regs) (A : Option Addr) (cb : Nat) (hfb : w.cell? ⟨fb, fo + 5, none⟩ = some (.slice A nb cb)) (hnb : nb ≤ 9223372036854775807)
    (ha : In64 t.a.reg ∧ In64 t.a.num) (hb : In64 t.b.reg ∧ In64 t.b.num) (h1 : In64 t.to_) (h2 : In64 t.els) (hk : In64 t.kind) (ho : In64 t.op) :
    Calls Tryd.prog 19 #[.pointer (some ⟨fb, fo, none⟩), termV t] w fun e w' => RIs (TI nb regs t) e ∧ Below g0 w w' := by
  by_cases k : t.kind < 1 ∨ 3 < t.kind
  · exact ends_kind w g0 hg0 fb fo nb t regs hk k
  · exact ends_in w g0 hg0 fb fo nb t regs hfr hrin A cb hfb hnb ha hb h1 h2 hk ho (by omega) (by omega)
/-- a function's head, tested -/
def headTests (f : FuncD) : Prop := decide (f.params < 0) = true ∨ (decide (f.params < 0) = false ∧ decide (f.regs < f.params) = true) ∨ (decide (f.params < 0) = false ∧ decide (f.regs < f.params) = false ∧ decide (6 < f.params) = true) ∨
  (decide (f.params < 0) = false ∧ decide (f.regs < f.params) = false ∧ decide (6 < f.params) = false ∧ ((f.secret.length : Int) != f.params) = true) ∨
  (decide (f.params < 0) = false ∧ decide (f.regs < f.params) = false ∧ decide (6 < f.params) = false ∧ ((f.secret.length : Int) != f.params) = false ∧ ((f.blocks.length : Int) == 0) = true) ∨
  (decide (f.params < 0) = false ∧ decide (f.regs < f.params) = false ∧ decide (6 < f.params) = false ∧ ((f.secret.length : Int) != f.params) = false ∧ ((f.blocks.length : Int) == 0) = false ∧ HeadOk f)
theorem head_tests (f : FuncD) : headTests f := by
  unfold headTests
  by_cases h1 : f.params < 0
  · exact Or.inl (decide_eq_true h1)
  refine Or.inr ?_
  by_cases h2 : f.regs < f.params
  · exact Or.inl ⟨decide_eq_false h1, decide_eq_true h2⟩
  refine Or.inr ?_
  by_cases h3 : 6 < f.params
  · exact Or.inl ⟨decide_eq_false h1, decide_eq_false h2, decide_eq_true h3⟩
  refine Or.inr ?_
  by_cases h4 : (f.secret.length : Int) = f.params
  · refine Or.inr ?_
    by_cases h5 : f.blocks.length = 0
    · exact Or.inl ⟨decide_eq_false h1, decide_eq_false h2, decide_eq_false h3, by simp [h4], by simp [h5]⟩
    · exact Or.inr ⟨decide_eq_false h1, decide_eq_false h2, decide_eq_false h3, by simp [h4], by simp [h5], by omega, by omega, by omega, h4, h5⟩
  · exact Or.inl ⟨decide_eq_false h1, decide_eq_false h2, decide_eq_false h3, by simpa using h4⟩
set_option maxRecDepth 100000 in
theorem right_yes (W0 w : World) (h0 : Below W0.heap.size W0 w) (p : ProgD) (vf vg : Value) (hin : In W0 p vf vg) (pb : Nat) (hbx : BoxP W0 w pb p vf vg) (hslim : Slim p)
    (hn : 0 ≤ p.main ∧ p.main < p.funcs.length ∧ parOf p p.main = 0) :
    Calls Tryd.prog 14 #[.pointer (some ⟨pb, 0, none⟩)] w (RightP w p) := by
  have HIN := Lib.hid hin
  have HBX := Lib.hid hbx
  have H0 := Lib.hid h0
  have HSL := Lib.hid hslim
  obtain ⟨c0, c1, c2, c3⟩ := hbx
  obtain ⟨A, cap, rfl, _, m3, hi⟩ := hin.funcs
  obtain ⟨A2, cap2, rfl, _, m4, hi2⟩ := hin.globs
  have hfl := hin.flen
  have hgl := hin.glen
  obtain ⟨q1, q2⟩ := hin.main
  obtain ⟨q3, q4⟩ := hin.data
  obtain ⟨g1, g2, g0⟩ := hn
  have HF := Lib.hid hi
  have HG := Lib.hid hi2
  obtain ⟨fm, hfm⟩ : ∃ f, p.funcs[p.main.toNat]? = some f := ⟨_, List.getElem?_eq_getElem (by omega)⟩
  obtain ⟨b, o, cs', rfl, _, g3, g4⟩ := hi p.main.toNat fm hfm
  obtain ⟨x1', x2', x3', rfl, x4'⟩ := g4
  have c5 : w.cell? ⟨b, o + p.main.toNat * 6 + 1, none⟩ = some (.int .i64 0) := by
    have := later (g3 1 (by omega)) h0
    rw [this]
    have e := g0
    simp only [parOf, hfm] at e
    simp [e]
  clear x4' hfm
  have d1 : decide (p.main < 0) = false := decide_eq_false (by omega)
  have d2 : decide ((p.funcs.length : Int) ≤ p.main) = false := decide_eq_false (by omega)
  have hdt : (decide (p.data < 0) = true) ∨ (decide (p.data < 0) = false ∧ decide (32768 < p.data) = true) ∨ (decide (p.data < 0) = false ∧ decide (32768 < p.data) = false) := by
    by_cases z1 : p.data < 0
    · exact Or.inl (decide_eq_true z1)
    · by_cases z2 : 32768 < p.data
      · exact Or.inr (Or.inl ⟨decide_eq_false z1, decide_eq_true z2⟩)
      · exact Or.inr (Or.inr ⟨decide_eq_false z1, decide_eq_false z2⟩)
  clear hi hi2 g3 g0 h0 hin hslim m3 m4
  go_enter Tryd.func14, Tryd.ntmps14
  go_wp2_with fail
  go_quiet (fail)
  clear c5
  rcases hdt with d3 | ⟨d3, d4⟩ | ⟨d3, d4⟩
  · go_wp2_with fail
    go_returns
    exact right_no (below_drewN (Below.refl _ _) _)
  · go_wp2_with fail
    go_returns
    exact right_no (below_drewN (Below.refl _ _) _)
  go_wp2_with fail
  clear g1 g2 d1 d2 d3 d4 c0 c1 c2 c3
  go_loopw [63] (fun i wr => ∃ k : Nat, k ≤ p.globals.length ∧ i = .int .i64 k ∧ Below w.heap.size w wr) (fun i _ => p.globals.length - (intOf i).toNat)
  case atStart => exact ⟨0, by omega, rfl, below_drewN (Below.refl _ _) _⟩
  case round =>
    obtain ⟨k, hk, rfl, hb⟩ := hrel
    have HB := Lib.hid hb
    obtain ⟨c0, c1, c2, c3⟩ := HBX.out.later hb
    have hl0 := World.block_lt_of_cell? _ _ c0
    clear hb
    by_cases hlt : k < p.globals.length
    · obtain ⟨y, hy⟩ : ∃ y, p.globals[k]? = some y := ⟨_, List.getElem?_eq_getElem (hlt)⟩
      obtain ⟨lb, lo, cs, rfl, e1, e2, vp, e3, n1, n2, n3, n4, n5⟩ := HG.out k y hy
      subst e3
      have HB0 := Lib.hid (H0.out.trans (HB.out.mono H0.out.size))
      have r0 := later (e2 0 (by omega)) HB0.out
      have r1 := later (e2 1 (by omega)) HB0.out
      have r2 := later (e2 2 (by omega)) HB0.out
      have r3 := later (e2 3 (by omega)) HB0.out
      rw [Nat.add_zero] at r0
      obtain ⟨A6, cap6, rfl, _, _, _⟩ := id n4
      have hc2 := Lib.hid (⟨c0, c2⟩ : _ ∧ _)
      clear e1 e2 hy
      go_wp2_with fail
      have HB1 := Lib.hid (below_alloc (.cells #[.string y.name, .int .i64 y.at_, .int .i64 y.size, .slice A6 y.parts.length cap6] 68) HB.out)
      refine (placed_any W0 _ (H0.out.trans (HB1.out.mono H0.out.size)) pb y _ p.data _ p.funcs (later hc2.out.1 (below_alloc _ (Below.refl _ _))) (later hc2.out.2 (below_alloc _ (Below.refl _ _))) ⟨q3, q4⟩ HIN.out.funcs n2 n3 n4 n5).mono ?_
      rintro e w3 ⟨bb, rfl, hb3⟩
      have HB3 := Lib.hid (HB1.out.bt hb3)
      clear hb3 r0 r1 r2 r3 c0 c1 c2 c3 hc2
      cases bb
      · go_wp2_with fail
        go_returns
        exact right_no HB3.out
      · go_wp2_with fail
        go_roundw
        case rel => exact ⟨k + 1, by omega, by go_num, HB3.out⟩
        case measure => simp [intOf]; omega
    · have e : k = p.globals.length := by omega
      subst e
      go_wp2_with fail
      clear c0 c1 c2 c3 hl0
      obtain ⟨w5, rfl⟩ : ∃ wo : World, wo = wr := ⟨_, rfl⟩
      go_loopw [77] (fun i wr => ∃ k : Nat, k ≤ p.funcs.length ∧ i = .int .i64 k ∧ (∀ f ∈ p.funcs.take k, FuncOk p f) ∧ Below w.heap.size w wr) (fun i _ => p.funcs.length - (intOf i).toNat)
      case atStart => exact ⟨0, by omega, rfl, fun f hf => by simp at hf, HB.out⟩
      case round =>
        obtain ⟨k, hk, rfl, hall, hb⟩ := hrel
        have HA := Lib.hid hall
        have HB5 := Lib.hid hb
        have hbx := HBX.out.later hb
        have HBX5 := Lib.hid hbx
        obtain ⟨c0, c1, c2, c3⟩ := hbx
        clear hb hall HB
        by_cases hlt : k < p.funcs.length
        · obtain ⟨f, hfk⟩ : ∃ f, p.funcs[k]? = some f := ⟨_, List.getElem?_eq_getElem (hlt)⟩
          obtain ⟨fb, fo, cs, hA, e1, e2, hfr⟩ := HF.out k f hfk
          simp only [Option.some.injEq, Addr.mk.injEq, and_true] at hA
          obtain ⟨rfl, rfl⟩ := hA
          have HB0 := Lib.hid (H0.out.trans (HB5.out.mono H0.out.size))
          have HPF := Lib.hid (fun w' (hb' : Below w.heap.size w w') => pf_of HIN.out (H0.out.trans (hb'.mono H0.out.size)) (HBX.out.later hb') e1 e2 hfr)
          have HFK := Lib.hid hfk
          obtain ⟨vs, vl, vb, rfl, z1, z2, z3, z4, z5, z6, z7, z8, z9⟩ := hfr
          obtain ⟨A7, cap7, rfl, _, m7, _⟩ := z3
          obtain ⟨A8, cap8, rfl, _, m8, h8⟩ := z8
          have H8 := Lib.hid h8
          obtain ⟨p1, p2⟩ := z2
          obtain ⟨p3, p4⟩ := z5
          have HRC := Lib.hid (fun w' (hb' : Below w.heap.size w w') => later (e2 3 (by omega)) (H0.out.trans (hb'.mono H0.out.size)))
          have HBC := Lib.hid (fun w' (hb' : Below w.heap.size w w') => later (e2 5 (by omega)) (H0.out.trans (hb'.mono H0.out.size)))
          have r1 := later (e2 1 (by omega)) HB0.out
          have r2 := later (e2 2 (by omega)) HB0.out
          have r3 := later (e2 3 (by omega)) HB0.out
          have r5 := later (e2 5 (by omega)) HB0.out
          have hht := head_tests f
          unfold headTests at hht
          clear e1 e2 h8 hfk z1 z6 m7 m8
          go_wp2_with fail
          rcases hht with d1 | ⟨d1, d2⟩ | ⟨d1, d2, d3⟩ | ⟨d1, d2, d3, d4⟩ | ⟨d1, d2, d3, d4, d5⟩ | ⟨d1, d2, d3, d4, d5, hok⟩
          · go_quiet (fail)
            go_wp2_with fail
            go_returns
            exact right_no (below_drewN HB5.out _)
          · go_quiet (fail)
            go_wp2_with fail
            go_returns
            exact right_no (below_drewN HB5.out _)
          · go_quiet (fail)
            go_wp2_with fail
            go_returns
            exact right_no (below_drewN HB5.out _)
          · go_quiet (fail)
            go_wp2_with fail
            go_returns
            exact right_no (below_drewN HB5.out _)
          · go_quiet (fail)
            go_wp2_with fail
            go_returns
            exact right_no (below_drewN HB5.out _)
          have HOK := Lib.hid hok
          clear hok
          go_quiet (fail)
          clear r1 r2
          go_wp2_with fail
          clear d1 d2 d3 d4 d5
          clear r3 r5 c0 c1 c2 c3
          obtain ⟨w6, hw6⟩ : ∃ wo : World, wo = wr.drewN nq := ⟨_, rfl⟩
          rw [← hw6]
          have HB6 := Lib.hid (show Below w.heap.size w w6 by rw [hw6]; exact below_drewN HB5.out _)
          clear hw6 HB5 HB0
          go_loopw [134] (fun i wr => ∃ j : Nat, j ≤ f.blocks.length ∧ i = .int .i64 j ∧ (∀ b ∈ f.blocks.take j, BlockOk p f b) ∧ Below w.heap.size w wr) (fun i _ => f.blocks.length - (intOf i).toNat)
          case atStart => exact ⟨0, by omega, rfl, fun b hb => by simp at hb, HB6.out⟩
          case round =>
            obtain ⟨j, hj, rfl, hall, hb⟩ := hrel
            have HAJ := Lib.hid hall
            have HB7 := Lib.hid hb
            clear hall hb HB6
            by_cases hltj : j < f.blocks.length
            · obtain ⟨k1, hk1⟩ : ∃ b, f.blocks[j]? = some b := ⟨_, List.getElem?_eq_getElem (hltj)⟩
              obtain ⟨bb, bo, cs, rfl, e1, e2, vi, e3, y1, y2, t1, t2, t3, t4, t5, t6, t7, t8⟩ := H8.out j k1 hk1
              subst e3
              have HB0 := Lib.hid (H0.out.trans (HB7.out.mono H0.out.size))
              have r0 := later (e2 0 (by omega)) HB0.out
              have r1 := later (e2 1 (by omega)) HB0.out
              have r2 := later (e2 2 (by omega)) HB0.out
              have r3 := later (e2 3 (by omega)) HB0.out
              have r4 := later (e2 4 (by omega)) HB0.out
              have r5 := later (e2 5 (by omega)) HB0.out
              have r6 := later (e2 6 (by omega)) HB0.out
              have r7 := later (e2 7 (by omega)) HB0.out
              have r8 := later (e2 8 (by omega)) HB0.out
              rw [Nat.add_zero] at r0
              have HK1 := Lib.hid hk1
              obtain ⟨A9, cap9, rfl, _, m9, h9⟩ := y1
              have H9 := Lib.hid h9
              have HT := Lib.hid (fun w' g0 hg0 hfr hfb => ends_any w' g0 hg0 b (o + k * 6) f.blocks.length k1.term f.regs hfr ⟨p3, p4⟩ (some ⟨bb, bo, none⟩) cap8 hfb (by omega) ⟨t3, t4⟩ ⟨t5, t6⟩ t7 t8 t1 t2)
              clear e1 e2 h9 hk1 m9 t1 t2 t3 t4 t5 t6 t7 t8
              go_wp2_with fail
              have HB8 := Lib.hid (below_alloc (.cells #[.slice A9 k1.ins.length cap9, .int .i64 k1.term.kind, .int .i64 k1.term.op, .int .i64 k1.term.a.reg, .int .i64 k1.term.a.num, .int .i64 k1.term.b.reg, .int .i64 k1.term.b.num, .int .i64 k1.term.to_, .int .i64 k1.term.els] 58) HB7.out)
              have HBB := Lib.hid (block_box wr #[.slice A9 k1.ins.length cap9, .int .i64 k1.term.kind, .int .i64 k1.term.op, .int .i64 k1.term.a.reg, .int .i64 k1.term.a.num, .int .i64 k1.term.b.reg, .int .i64 k1.term.b.num, .int .i64 k1.term.to_, .int .i64 k1.term.els] 58)
              clear HB7 HB0 r0 r1 r2 r3 r4 r5 r6 r7 r8
              generalize wr.heap.size = g8 at *
              obtain ⟨w8, hw8⟩ : ∃ w8, w8 = wr.alloc (.cells #[.slice A9 k1.ins.length cap9, .int .i64 k1.term.kind, .int .i64 k1.term.op, .int .i64 k1.term.a.reg, .int .i64 k1.term.a.num, .int .i64 k1.term.b.reg, .int .i64 k1.term.b.num, .int .i64 k1.term.to_, .int .i64 k1.term.els] 58) := ⟨_, rfl⟩
              rw [← hw8] at HB8 HBB ⊢
              clear hw8
              go_loopw [141] (fun i wr => ∃ q : Nat, q ≤ k1.ins.length ∧ i = .int .i64 q ∧ (∀ x ∈ k1.ins.take q, InsOk p f x) ∧ Below w8.heap.size w8 wr) (fun i _ => k1.ins.length - (intOf i).toNat)
              case atStart => exact ⟨0, by omega, rfl, fun x hx => by simp at hx, Below.refl _ _⟩
              case round =>
                obtain ⟨q, hq, rfl, hall, hb⟩ := hrel
                have HAQ := Lib.hid hall
                have HB9 := Lib.hid (HB8.out.bt hb)
                have HB89 := Lib.hid hb
                clear hall hb
                by_cases hltq : q < k1.ins.length
                · obtain ⟨x, hx⟩ : ∃ x, k1.ins[q]? = some x := ⟨_, List.getElem?_eq_getElem hltq⟩
                  obtain ⟨ib, io, cs, rfl, e1, e2, va, e3, u1, u2, u3, u4, u5, u6, u7, u8, u9, u10, u11⟩ := H9.out q x hx
                  subst e3
                  have HB0 := Lib.hid (H0.out.trans (HB9.out.mono H0.out.size))
                  have r0 := later (e2 0 (by omega)) HB0.out
                  have r1 := later (e2 1 (by omega)) HB0.out
                  have r2 := later (e2 2 (by omega)) HB0.out
                  have r3 := later (e2 3 (by omega)) HB0.out
                  have r4 := later (e2 4 (by omega)) HB0.out
                  have r5 := later (e2 5 (by omega)) HB0.out
                  have r6 := later (e2 6 (by omega)) HB0.out
                  have r7 := later (e2 7 (by omega)) HB0.out
                  have r8 := later (e2 8 (by omega)) HB0.out
                  have r9 := later (e2 9 (by omega)) HB0.out
                  have r10 := later (e2 10 (by omega)) HB0.out
                  have r11 := later (e2 11 (by omega)) HB0.out
                  rw [Nat.add_zero] at r0
                  have HX := Lib.hid hx
                  have hsl := HSL.out f (List.mem_of_getElem? HFK.out) k1 (List.mem_of_getElem? HK1.out) x (List.mem_of_getElem? hx)
                  obtain ⟨A5, cap5, rfl, _, _, _⟩ := id u10
                  clear e1 e2 hx
                  go_wp2_with fail
                  have HBA := Lib.hid (below_alloc (.cells #[.int .i64 x.op, .int .i64 x.dst, .int .i64 x.a.reg, .int .i64 x.a.num, .int .i64 x.b.reg, .int .i64 x.b.num, .int .i64 x.size, .bool x.signed, .bool x.secret, .int .i64 x.ref, .int .i64 x.off, .slice A5 x.args.length cap5] 74) HB9.out)
                  have HBA8 := Lib.hid (below_alloc (.cells #[.int .i64 x.op, .int .i64 x.dst, .int .i64 x.a.reg, .int .i64 x.a.num, .int .i64 x.b.reg, .int .i64 x.b.num, .int .i64 x.size, .bool x.signed, .bool x.secret, .int .i64 x.ref, .int .i64 x.off, .slice A5 x.args.length cap5] 74) HB89.out)
                  refine (right_any _ _ rfl pb b (o + k * 6) p.funcs.length p.globals.length f.slots.length (parOf p) x.op x.dst x.a x.b x.size x.signed x.secret x.ref x.off x.args _ f.regs (HPF.out _ HBA.out) u1 u2 ⟨u3, u4⟩ ⟨u5, u6⟩ u7 u8 (u10.later (by decide) (H0.out.trans (HBA.out.mono H0.out.size))) hsl).mono ?_
                  rintro e w9 ⟨⟨bb2, rfl, hbi⟩, hb9⟩
                  have HBC9 := Lib.hid (HBA.out.bt hb9)
                  have HBD := Lib.hid (HBA8.out.bt hb9)
                  have HBI := Lib.hid hbi
                  clear hbi hb9 r0 r1 r2 r3 r4 r5 r6 r7 r8 r9 r10 r11
                  cases bb2
                  · go_wp2_with fail
                    go_returns
                    exact right_no HBC9.out
                  · go_wp2_with fail
                    go_roundw
                    case rel => exact ⟨q + 1, by omega, by go_num, take_all HX.out HAQ.out (by have h := HBI.out; simp at h; exact h), HBD.out⟩
                    case measure => simp [intOf]; omega
                · have e : q = k1.ins.length := by omega
                  subst e
                  have r0 := later (HBB.out 0 _ rfl) HB89.out
                  have r1 := later (HBB.out 1 _ rfl) HB89.out
                  have r2 := later (HBB.out 2 _ rfl) HB89.out
                  have r3 := later (HBB.out 3 _ rfl) HB89.out
                  have r4 := later (HBB.out 4 _ rfl) HB89.out
                  have r5 := later (HBB.out 5 _ rfl) HB89.out
                  have r6 := later (HBB.out 6 _ rfl) HB89.out
                  have r7 := later (HBB.out 7 _ rfl) HB89.out
                  have r8 := later (HBB.out 8 _ rfl) HB89.out
                  go_wp2_with fail
                  refine (HT.out _ _ rfl (HRC.out _ HB9.out) (HBC.out _ HB9.out)).mono ?_
                  rintro e w9 ⟨⟨bb2, rfl, hbi⟩, hb9⟩
                  have HBC9 := Lib.hid (HB9.out.bt hb9)
                  have HBI := Lib.hid hbi
                  clear hbi hb9 r0 r1 r2 r3 r4 r5 r6 r7 r8
                  cases bb2
                  · go_wp2_with fail
                    go_returns
                    exact right_no HBC9.out
                  · go_wp2_with fail
                    go_roundw
                    case rel =>
                      have hall := HAQ.out
                      rw [List.take_length] at hall
                      exact ⟨j + 1, by omega, by go_num, take_all HK1.out HAJ.out ⟨hall, by simpa using HBI.out⟩, HBC9.out⟩
                    case measure => simp [intOf]; omega
            · have e : j = f.blocks.length := by omega
              subst e
              go_wp2_with fail
              go_roundw
              case rel =>
                have hall := HAJ.out
                rw [List.take_length] at hall
                exact ⟨k + 1, by omega, by go_num, take_all HFK.out HA.out ⟨HOK.out, hall⟩, HB7.out⟩
              case measure => simp [intOf]; omega
        · have e : k = p.funcs.length := by omega
          subst e
          go_wp2_with fail
          go_returns
          refine ⟨0, rfl, fun _ => ?_, HB5.out⟩
          have hall := HA.out
          rw [List.take_length] at hall
          exact hall
end Go.Proofs.YtbogcompeefoaaaDoor
