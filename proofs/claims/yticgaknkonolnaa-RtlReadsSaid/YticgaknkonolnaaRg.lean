/- The walk of RtlReads. No condition. -/
import Derived.Test.YticgaknkonolnaaRo
import Derived.Test.YticgaknkonolnaaPg
import Derived.Test.YticgaknkonolnaaHl
import Derived.Test.YticgaknkonolnaaFit08
namespace Go.Proofs.Yticgaknkonolnaa
open Go.RowKit
set_option linter.unusedVariables false
set_option maxHeartbeats 30000000
theorem pure_any (w : World) (n : Int) (hn : In64 n) : Calls Try.prog 21 #[.int .i64 n] w fun e w' => e = .returned (.bool (decide (1 ≤ n ∧ n ≤ 25))) ∧ w = w' := by
  obtain ⟨h1, h2⟩ := hn
  go_enter Try.func21, Try.ntmps21
  go_wp2
  all_goals go_returns
  all_goals refine ⟨ret_bool ?_, rfl⟩
  all_goals
    rw [Bool.eq_iff_iff]
    simp only [Bool.and_eq_true, decide_eq_true_eq]
    first | omega | (simp_all; done) | (simp_all; omega)
theorem traps_any (w : World) (n : Int) (hn : In64 n) : Calls Try.prog 23 #[.int .i64 n] w fun e w' => e = .returned (.bool (decide (6 ≤ n ∧ n ≤ 9))) ∧ w = w' := by
  obtain ⟨h1, h2⟩ := hn
  go_enter Try.func23, Try.ntmps23
  go_wp2
  all_goals go_returns
  all_goals refine ⟨ret_bool ?_, rfl⟩
  all_goals
    rw [Bool.eq_iff_iff]
    simp only [Bool.and_eq_true, decide_eq_true_eq]
    first | omega | (simp_all; done) | (simp_all; omega)
theorem right_whole (W0 w : World) (h0 : Below W0.heap.size W0 w) (p : ProgD) (vf vg : Value) (hin : In W0 p vf vg) (pb : Nat) (hbx : BoxP W0 w pb p vf vg) (hslim : Slim p) :
    Calls Try.prog 14 #[.pointer (some ⟨pb, 0, none⟩)] w (RightP w p) := by
  by_cases h : 0 ≤ p.main ∧ p.main < p.funcs.length ∧ parOf p p.main = 0
  · exact right_yes W0 w h0 p vf vg hin pb hbx hslim h
  · refine right_main W0 w h0 p vf vg hin pb hbx ?_
    by_cases h1 : p.main < 0
    · exact Or.inl h1
    · by_cases h2 : (p.funcs.length : Int) ≤ p.main
      · exact Or.inr (Or.inl h2)
      · exact Or.inr (Or.inr ⟨by omega, by omega, fun e => h ⟨by omega, by omega, e⟩⟩)
theorem xi_step {g : Nat} {w0 w1 w2 : World} {x : InsD} {va : Value} (hb : Below w1.heap.size w1 w2) (h : (w1.cell? ⟨g, 0, none⟩ = some (.int .i64 x.op) ∧ w1.cell? ⟨g, 1, none⟩ = some (.int .i64 x.dst) ∧ w1.cell? ⟨g, 2, none⟩ = some (.int .i64 x.a.reg) ∧ w1.cell? ⟨g, 3, none⟩ = some (.int .i64 x.a.num) ∧ w1.cell? ⟨g, 4, none⟩ = some (.int .i64 x.b.reg) ∧ w1.cell? ⟨g, 5, none⟩ = some (.int .i64 x.b.num) ∧ w1.cell? ⟨g, 6, none⟩ = some (.int .i64 x.size) ∧ w1.cell? ⟨g, 7, none⟩ = some (.bool x.signed) ∧ w1.cell? ⟨g, 8, none⟩ = some (.bool x.secret) ∧ w1.cell? ⟨g, 9, none⟩ = some (.int .i64 x.ref) ∧ w1.cell? ⟨g, 10, none⟩ = some (.int .i64 x.off) ∧ w1.cell? ⟨g, 11, none⟩ = some (va)) ∧ Below w0.heap.size w0 w1) : (w2.cell? ⟨g, 0, none⟩ = some (.int .i64 x.op) ∧ w2.cell? ⟨g, 1, none⟩ = some (.int .i64 x.dst) ∧ w2.cell? ⟨g, 2, none⟩ = some (.int .i64 x.a.reg) ∧ w2.cell? ⟨g, 3, none⟩ = some (.int .i64 x.a.num) ∧ w2.cell? ⟨g, 4, none⟩ = some (.int .i64 x.b.reg) ∧ w2.cell? ⟨g, 5, none⟩ = some (.int .i64 x.b.num) ∧ w2.cell? ⟨g, 6, none⟩ = some (.int .i64 x.size) ∧ w2.cell? ⟨g, 7, none⟩ = some (.bool x.signed) ∧ w2.cell? ⟨g, 8, none⟩ = some (.bool x.secret) ∧ w2.cell? ⟨g, 9, none⟩ = some (.int .i64 x.ref) ∧ w2.cell? ⟨g, 10, none⟩ = some (.int .i64 x.off) ∧ w2.cell? ⟨g, 11, none⟩ = some (va)) ∧ Below w0.heap.size w0 w2 := by
  obtain ⟨⟨h0, h1, h2, h3, h4, h5, h6, h7, h8, h9, h10, h11⟩, h12⟩ := h
  exact ⟨⟨later h0 hb, later h1 hb, later h2 hb, later h3 hb, later h4 hb, later h5 hb, later h6 hb, later h7 hb, later h8 hb, later h9 hb, later h10 hb, later h11 hb⟩, h12.bt hb⟩
theorem xt_step {g : Nat} {w0 w1 w2 : World} {t : TermD} (hb : Below w1.heap.size w1 w2) (h : (w1.cell? ⟨g, 0, none⟩ = some (.int .i64 t.kind) ∧ w1.cell? ⟨g, 1, none⟩ = some (.int .i64 t.op) ∧ w1.cell? ⟨g, 2, none⟩ = some (.int .i64 t.a.reg) ∧ w1.cell? ⟨g, 3, none⟩ = some (.int .i64 t.a.num) ∧ w1.cell? ⟨g, 4, none⟩ = some (.int .i64 t.b.reg) ∧ w1.cell? ⟨g, 5, none⟩ = some (.int .i64 t.b.num) ∧ w1.cell? ⟨g, 6, none⟩ = some (.int .i64 t.to_) ∧ w1.cell? ⟨g, 7, none⟩ = some (.int .i64 t.els)) ∧ Below w0.heap.size w0 w1) : (w2.cell? ⟨g, 0, none⟩ = some (.int .i64 t.kind) ∧ w2.cell? ⟨g, 1, none⟩ = some (.int .i64 t.op) ∧ w2.cell? ⟨g, 2, none⟩ = some (.int .i64 t.a.reg) ∧ w2.cell? ⟨g, 3, none⟩ = some (.int .i64 t.a.num) ∧ w2.cell? ⟨g, 4, none⟩ = some (.int .i64 t.b.reg) ∧ w2.cell? ⟨g, 5, none⟩ = some (.int .i64 t.b.num) ∧ w2.cell? ⟨g, 6, none⟩ = some (.int .i64 t.to_) ∧ w2.cell? ⟨g, 7, none⟩ = some (.int .i64 t.els)) ∧ Below w0.heap.size w0 w2 := by
  obtain ⟨⟨h0, h1, h2, h3, h4, h5, h6, h7⟩, h12⟩ := h
  exact ⟨⟨later h0 hb, later h1 hb, later h2 hb, later h3 hb, later h4 hb, later h5 hb, later h6 hb, later h7 hb⟩, h12.bt hb⟩
theorem xn_step {g b4 o4 : Nat} {w0 w1 w2 : World} {t : TermD} (hb : Below w1.heap.size w1 w2) (h : (w1.cell? ⟨g, 0, none⟩ = some (.int .i64 t.kind) ∧ w1.cell? ⟨g, 1, none⟩ = some (.int .i64 t.op) ∧ w1.cell? ⟨g, 2, none⟩ = some (.int .i64 t.a.reg) ∧ w1.cell? ⟨g, 3, none⟩ = some (.int .i64 t.a.num) ∧ w1.cell? ⟨g, 4, none⟩ = some (.int .i64 t.b.reg) ∧ w1.cell? ⟨g, 5, none⟩ = some (.int .i64 t.b.num) ∧ w1.cell? ⟨g, 6, none⟩ = some (.int .i64 t.to_) ∧ w1.cell? ⟨g, 7, none⟩ = some (.int .i64 t.els) ∧ w1.cell? ⟨b4, o4, none⟩ = some (.int .i64 t.to_) ∧ w1.cell? ⟨b4, o4 + 1, none⟩ = some (.int .i64 t.els)) ∧ Below w0.heap.size w0 w1) : (w2.cell? ⟨g, 0, none⟩ = some (.int .i64 t.kind) ∧ w2.cell? ⟨g, 1, none⟩ = some (.int .i64 t.op) ∧ w2.cell? ⟨g, 2, none⟩ = some (.int .i64 t.a.reg) ∧ w2.cell? ⟨g, 3, none⟩ = some (.int .i64 t.a.num) ∧ w2.cell? ⟨g, 4, none⟩ = some (.int .i64 t.b.reg) ∧ w2.cell? ⟨g, 5, none⟩ = some (.int .i64 t.b.num) ∧ w2.cell? ⟨g, 6, none⟩ = some (.int .i64 t.to_) ∧ w2.cell? ⟨g, 7, none⟩ = some (.int .i64 t.els) ∧ w2.cell? ⟨b4, o4, none⟩ = some (.int .i64 t.to_) ∧ w2.cell? ⟨b4, o4 + 1, none⟩ = some (.int .i64 t.els)) ∧ Below w0.heap.size w0 w2 := by
  obtain ⟨⟨h0, h1, h2, h3, h4, h5, h6, h7, h8, h9⟩, h12⟩ := h
  exact ⟨⟨later h0 hb, later h1 hb, later h2 hb, later h3 hb, later h4 hb, later h5 hb, later h6 hb, later h7 hb, later h8 hb, later h9 hb⟩, h12.bt hb⟩
theorem slr_drew {α : Type} {w : World} {C : Nat} {R : List Value → α → Prop} {v : Value} {xs : List α} (h : SlR w C R v xs) : SlR w.drew C R v xs := h
theorem ar_below {w w2 : World} (h : w = w2) : Below w.heap.size w w2 := by subst h; exact Below.refl _ _
theorem drew_below (w : World) : Below w.heap.size w w.drew := below_drewN (Below.refl _ _) 1
set_option maxRecDepth 100000 in
theorem reads_law (w : World) (p : ProgD) (vf vg : Value) (hin : In w p vf vg) :
    Calls Try.prog 6 #[.agg #[vf, vg, .int .i64 p.data, .int .i64 p.main]] w fun e w' => e = .returned (.bool true) ∧ Below w.heap.size w w' := by
  have HIN := Lib.hid hin
  have HF0 := Lib.hid hin.funcs
  have HL := Lib.hid (fun w1 h => light_any w w1 h p vf vg hin)
  have HRW := Lib.hid (fun w1 h pb hbx hs => right_whole w w1 h p vf vg hin pb hbx hs)
  obtain ⟨A, cap, rfl, _, m3, hi⟩ := hin.funcs
  obtain ⟨A2, cap2, rfl, _, m4, _⟩ := hin.globs
  have hfl := hin.flen
  have hgl := hin.glen
  have HF := Lib.hid hi
  clear hi hin m3 m4
  go_enter Try.func6, Try.ntmps6
  go_wp2_with fail
  have HB1 := Lib.hid (below_alloc (.cells #[.slice A p.funcs.length cap, .slice A2 p.globals.length cap2, .int .i64 p.data, .int .i64 p.main] 29) (Below.refl w.heap.size w))
  have HBX := Lib.hid (block_box w #[.slice A p.funcs.length cap, .slice A2 p.globals.length cap2, .int .i64 p.data, .int .i64 p.main] 29)
  obtain ⟨g1, hg1⟩ : ∃ g1, g1 = w.heap.size := ⟨_, rfl⟩
  obtain ⟨w1, hw1⟩ : ∃ w1, w1 = w.alloc (.cells #[.slice A p.funcs.length cap, .slice A2 p.globals.length cap2, .int .i64 p.data, .int .i64 p.main] 29) := ⟨_, rfl⟩
  rw [← hw1] at HBX HB1 ⊢
  rw [← hg1] at HBX ⊢
  clear hw1 hg1
  have HBP := Lib.hid (show BoxP w w1 g1 p (.slice A p.funcs.length cap) (.slice A2 p.globals.length cap2) from ⟨HBX.out 0 _ rfl, HBX.out 1 _ rfl, HBX.out 2 _ rfl, HBX.out 3 _ rfl⟩)
  refine (fit_vm _).mono ?_
  rintro e w2 ⟨rfl, hb2⟩
  have HB2 := Lib.hid (HB1.out.bt hb2)
  have HP2 := Lib.hid (HBP.out.later hb2)
  clear hb2
  obtain ⟨c0, c1, c2, c3⟩ := HP2.out
  go_wp2_with fail
  clear c0 c1 c2 c3
  refine (HL.out _ HB2.out).mono ?_
  rintro e w3 ⟨bl, rfl, hl, hb3⟩
  have HB3 := Lib.hid (HB2.out.bt hb3)
  have HP3 := Lib.hid (HP2.out.later hb3)
  have HLT := Lib.hid hl
  clear hb3 hl
  cases bl
  · go_wp2_with fail
    go_returns
    exact ⟨rfl, HB3.out⟩
  have HSL := Lib.hid ((HLT.out rfl).slim)
  go_wp2_with fail
  refine (HRW.out _ HB3.out _ HP3.out HSL.out).mono ?_
  rintro e w4 ⟨c, rfl, hc, hb4⟩
  have HB4 := Lib.hid (HB3.out.bt hb4)
  have HP4 := Lib.hid (HP3.out.later hb4)
  have HC := Lib.hid hc
  clear hb4 hc
  by_cases hc0 : c = 0
  rotate_left
  · have hcb : (c != 0) = true := by simpa using hc0
    clear hc0
    go_wp2_with fail
    go_returns
    exact ⟨rfl, HB4.out⟩
  subst hc0
  have HOK := Lib.hid (HC.out rfl)
  obtain ⟨c0, c1, c2, c3⟩ := HP4.out
  have hl0 := World.block_lt_of_cell? _ _ c0
  go_wp2_with fail
  clear c0 c1 c2 c3 hl0
  go_loopw [24] (fun i wr => ∃ k : Nat, k ≤ p.funcs.length ∧ i = .int .i64 k ∧ Below w.heap.size w wr) (fun i _ => p.funcs.length - (intOf i).toNat)
  case atStart => exact ⟨0, by omega, rfl, HB4.out⟩
  case round =>
    obtain ⟨k, hk, rfl, hb⟩ := hrel
    have HB5 := Lib.hid hb
    clear hb
    by_cases hlt : k < p.funcs.length
    · obtain ⟨f, hfk⟩ : ∃ f, p.funcs[k]? = some f := ⟨_, List.getElem?_eq_getElem hlt⟩
      obtain ⟨fb, fo, cs, rfl, e1, e2, hfr⟩ := HF.out k f hfk
      have HFO := Lib.hid (HOK.out f (List.mem_of_getElem? hfk))
      have HFM := Lib.hid (List.mem_of_getElem? hfk)
      obtain ⟨vs, vl, vb, rfl, z1, z2, z3, z4, z5, z6, z7, z8, z9⟩ := hfr
      obtain ⟨A7, cap7, rfl, _, m7, _⟩ := z3
      obtain ⟨A6, cap6, rfl, _, m6, _⟩ := z6
      obtain ⟨A8, cap8, rfl, _, m8, h8⟩ := z8
      have H8 := Lib.hid h8
      have r0 := later (e2 0 (by omega)) HB5.out
      have r1 := later (e2 1 (by omega)) HB5.out
      have r2 := later (e2 2 (by omega)) HB5.out
      have r3 := later (e2 3 (by omega)) HB5.out
      have r4 := later (e2 4 (by omega)) HB5.out
      have r5 := later (e2 5 (by omega)) HB5.out
      rw [Nat.add_zero] at r0
      clear e1 e2 h8 hfk m6 m7 m8
      go_wp2_with fail
      have HB6 := Lib.hid (below_alloc (.cells #[.string f.name, .int .i64 f.params, .slice A7 f.secret.length cap7, .int .i64 f.regs, .slice A6 f.slots.length cap6, .slice A8 f.blocks.length cap8] 44) HB5.out)
      clear r0 r1 r2 r3 r4 r5 HB5
      obtain ⟨w6, hw6⟩ : ∃ w6, w6 = wr.alloc (.cells #[.string f.name, .int .i64 f.params, .slice A7 f.secret.length cap7, .int .i64 f.regs, .slice A6 f.slots.length cap6, .slice A8 f.blocks.length cap8] 44) := ⟨_, rfl⟩
      rw [← hw6] at HB6 ⊢
      clear hw6
      go_loopw [31] (fun i wr => ∃ j : Nat, j ≤ f.blocks.length ∧ i = .int .i64 j ∧ Below w.heap.size w wr) (fun i _ => f.blocks.length - (intOf i).toNat)
      case atStart => exact ⟨0, by omega, rfl, HB6.out⟩
      case round =>
        obtain ⟨j, hj, rfl, hb⟩ := hrel
        have HB7 := Lib.hid hb
        clear hb HB6
        by_cases hltj : j < f.blocks.length
        · obtain ⟨k1, hk1⟩ : ∃ b, f.blocks[j]? = some b := ⟨_, List.getElem?_eq_getElem hltj⟩
          have HBO := Lib.hid (HFO.out.2 k1 (List.mem_of_getElem? hk1))
          have HBM := Lib.hid (List.mem_of_getElem? hk1)
          obtain ⟨bb, bo, cs, rfl, e1, e2, vi, e3, y1, y2, t1, t2, t3, t4, t5, t6, t7, t8⟩ := H8.out j k1 hk1
          subst e3
          obtain ⟨A9, cap9, rfl, _, m9, h9⟩ := y1
          have H9 := Lib.hid h9
          have HT := Lib.hid (And.intro t1 (And.intro t3 (And.intro t4 (And.intro t5 (And.intro t6 (And.intro t7 t8))))))
          have r0 := later (e2 0 (by omega)) HB7.out
          have r1 := later (e2 1 (by omega)) HB7.out
          have r2 := later (e2 2 (by omega)) HB7.out
          have r3 := later (e2 3 (by omega)) HB7.out
          have r4 := later (e2 4 (by omega)) HB7.out
          have r5 := later (e2 5 (by omega)) HB7.out
          have r6 := later (e2 6 (by omega)) HB7.out
          have r7 := later (e2 7 (by omega)) HB7.out
          have r8 := later (e2 8 (by omega)) HB7.out
          rw [Nat.add_zero] at r0
          clear e1 e2 h9 hk1 m9 t1 t2 t3 t4 t5 t6 t7 t8
          go_wp2_with fail
          have HB8 := Lib.hid (below_alloc (.cells #[.slice A9 k1.ins.length cap9, .int .i64 k1.term.kind, .int .i64 k1.term.op, .int .i64 k1.term.a.reg, .int .i64 k1.term.a.num, .int .i64 k1.term.b.reg, .int .i64 k1.term.b.num, .int .i64 k1.term.to_, .int .i64 k1.term.els] 51) HB7.out)
          have HBB := Lib.hid (block_box wr #[.slice A9 k1.ins.length cap9, .int .i64 k1.term.kind, .int .i64 k1.term.op, .int .i64 k1.term.a.reg, .int .i64 k1.term.a.num, .int .i64 k1.term.b.reg, .int .i64 k1.term.b.num, .int .i64 k1.term.to_, .int .i64 k1.term.els] 51)
          clear HB7 r0 r1 r2 r3 r4 r5 r6 r7 r8
          generalize wr.heap.size = g8 at *
          obtain ⟨w8, hw8⟩ : ∃ w8, w8 = wr.alloc (.cells #[.slice A9 k1.ins.length cap9, .int .i64 k1.term.kind, .int .i64 k1.term.op, .int .i64 k1.term.a.reg, .int .i64 k1.term.a.num, .int .i64 k1.term.b.reg, .int .i64 k1.term.b.num, .int .i64 k1.term.to_, .int .i64 k1.term.els] 51) := ⟨_, rfl⟩
          rw [← hw8] at HB8 HBB ⊢
          clear hw8
          go_loopw [38] (fun i wr => ∃ q : Nat, q ≤ k1.ins.length ∧ i = .int .i64 q ∧ Below w8.heap.size w8 wr) (fun i _ => k1.ins.length - (intOf i).toNat)
          case atStart => exact ⟨0, by omega, rfl, Below.refl _ _⟩
          case round =>
            obtain ⟨q, hq, rfl, hb⟩ := hrel
            have HB9 := Lib.hid (HB8.out.bt hb)
            have HB89 := Lib.hid hb
            clear hb
            by_cases hltq : q < k1.ins.length
            · obtain ⟨x, hx⟩ : ∃ x, k1.ins[q]? = some x := ⟨_, List.getElem?_eq_getElem hltq⟩
              have hok := HBO.out.1 x (List.mem_of_getElem? hx)
              have hsl := HSL.out f HFM.out k1 HBM.out x (List.mem_of_getElem? hx)
              obtain ⟨ib, io, cs, rfl, e1, e2, va, e3, u1, u2, u3, u4, u5, u6, u7, u8, u9, u10, u11⟩ := H9.out q x hx
              subst e3
              have r0 := later (e2 0 (by omega)) HB9.out
              have r1 := later (e2 1 (by omega)) HB9.out
              have r2 := later (e2 2 (by omega)) HB9.out
              have r3 := later (e2 3 (by omega)) HB9.out
              have r4 := later (e2 4 (by omega)) HB9.out
              have r5 := later (e2 5 (by omega)) HB9.out
              have r6 := later (e2 6 (by omega)) HB9.out
              have r7 := later (e2 7 (by omega)) HB9.out
              have r8 := later (e2 8 (by omega)) HB9.out
              have r9 := later (e2 9 (by omega)) HB9.out
              have r10 := later (e2 10 (by omega)) HB9.out
              have r11 := later (e2 11 (by omega)) HB9.out
              rw [Nat.add_zero] at r0
              obtain ⟨o1, o2, _⟩ := hok
              obtain ⟨A5, cap5, rfl, _, _, _⟩ := id u10
              clear e1 e2 hx
              go_wp2_with fail
              have HBA := Lib.hid (below_alloc (.cells #[.int .i64 x.op, .int .i64 x.dst, .int .i64 x.a.reg, .int .i64 x.a.num, .int .i64 x.b.reg, .int .i64 x.b.num, .int .i64 x.size, .bool x.signed, .bool x.secret, .int .i64 x.ref, .int .i64 x.off, .slice A5 x.args.length cap5] 54) HB9.out)
              have HBA8 := Lib.hid (below_alloc (.cells #[.int .i64 x.op, .int .i64 x.dst, .int .i64 x.a.reg, .int .i64 x.a.num, .int .i64 x.b.reg, .int .i64 x.b.num, .int .i64 x.size, .bool x.signed, .bool x.secret, .int .i64 x.ref, .int .i64 x.off, .slice A5 x.args.length cap5] 54) HB89.out)
              have HBI := Lib.hid (block_box wr #[.int .i64 x.op, .int .i64 x.dst, .int .i64 x.a.reg, .int .i64 x.a.num, .int .i64 x.b.reg, .int .i64 x.b.num, .int .i64 x.size, .bool x.signed, .bool x.secret, .int .i64 x.ref, .int .i64 x.off, .slice A5 x.args.length cap5] 54)
              have HSA := Lib.hid (fun w' (hb : Below w.heap.size w w') => u10.later (by decide) hb)
              have HI := Lib.hid (fun w' (hb : Below w.heap.size w w') => ireads_any w' x _ u1 ⟨u3, u4⟩ ⟨u5, u6⟩ (HSA.out w' hb) hsl)
              have HO := Lib.hid (fun w' (hb : Below w.heap.size w w') => old_any w' x _ (HSA.out w' hb) hsl)
              have H8R := Lib.hid (fun w' v (hs : SlR w' 2 ArgR v x.args) => reads8_any w' x v ⟨o1, o2⟩ ⟨u3, u4⟩ ⟨u5, u6⟩ hs hsl)
              have HPU := Lib.hid (fun w' => pure_any w' x.op u1)
              have HTW := Lib.hid (fun w' => two_any w' x.op u1)
              have HTR := Lib.hid (fun w' => traps_any w' x.op u1)
              clear r0 r1 r2 r3 r4 r5 r6 r7 r8 r9 r10 r11 u1 u2 u3 u4 u5 u6 u7 u8 u9 u10 u11 HB9 HB89
              obtain ⟨g9, hg9⟩ : ∃ g9, g9 = wr.heap.size := ⟨_, rfl⟩
              obtain ⟨w9, hw9⟩ : ∃ w9, w9 = wr.alloc (.cells #[.int .i64 x.op, .int .i64 x.dst, .int .i64 x.a.reg, .int .i64 x.a.num, .int .i64 x.b.reg, .int .i64 x.b.num, .int .i64 x.size, .bool x.signed, .bool x.secret, .int .i64 x.ref, .int .i64 x.off, .slice A5 x.args.length cap5] 54) := ⟨_, rfl⟩
              rw [← hw9] at HBA HBA8 HBI ⊢
              rw [← hg9] at HBI ⊢
              clear hw9 hg9
              have HS0 := Lib.hid (show (w9.cell? ⟨g9, 0, none⟩ = some (.int .i64 x.op) ∧ w9.cell? ⟨g9, 1, none⟩ = some (.int .i64 x.dst) ∧ w9.cell? ⟨g9, 2, none⟩ = some (.int .i64 x.a.reg) ∧ w9.cell? ⟨g9, 3, none⟩ = some (.int .i64 x.a.num) ∧ w9.cell? ⟨g9, 4, none⟩ = some (.int .i64 x.b.reg) ∧ w9.cell? ⟨g9, 5, none⟩ = some (.int .i64 x.b.num) ∧ w9.cell? ⟨g9, 6, none⟩ = some (.int .i64 x.size) ∧ w9.cell? ⟨g9, 7, none⟩ = some (.bool x.signed) ∧ w9.cell? ⟨g9, 8, none⟩ = some (.bool x.secret) ∧ w9.cell? ⟨g9, 9, none⟩ = some (.int .i64 x.ref) ∧ w9.cell? ⟨g9, 10, none⟩ = some (.int .i64 x.off) ∧ w9.cell? ⟨g9, 11, none⟩ = some (.slice A5 x.args.length cap5)) ∧ Below w9.heap.size w9 w9 from ⟨⟨HBI.out 0 _ rfl, HBI.out 1 _ rfl, HBI.out 2 _ rfl, HBI.out 3 _ rfl, HBI.out 4 _ rfl, HBI.out 5 _ rfl, HBI.out 6 _ rfl, HBI.out 7 _ rfl, HBI.out 8 _ rfl, HBI.out 9 _ rfl, HBI.out 10 _ rfl, HBI.out 11 _ rfl⟩, Below.refl _ _⟩)
              have hcl : x.op < 3 ∨ (3 ≤ x.op ∧ x.op < 6) ∨ 6 ≤ x.op := by omega
              rcases hcl with n1 | ⟨n1, n2⟩ | n1
              · obtain ⟨p25, d25⟩ : ∃ b, decide (x.op ≤ 25) = b := ⟨_, rfl⟩
                obtain ⟨p21, d21⟩ : ∃ b, decide (x.op ≤ 21) = b := ⟨_, rfl⟩
                obtain ⟨p9, d9⟩ : ∃ b, decide (x.op ≤ 9) = b := ⟨_, rfl⟩
                have d1 : decide ((1 : Int) ≤ x.op) = true := decide_eq_true (by omega)
                rw [show decide (1 ≤ x.op ∧ x.op ≤ 25) = p25 by rw [← d25]; exact decide_eq_decide.2 ⟨fun h => h.2, fun h => ⟨by omega, h⟩⟩] at HPU
                rw [decide_eq_false (show ¬ (3 ≤ x.op ∧ x.op ≤ 21) by omega)] at HTW
                have d3 : decide ((3 : Int) ≤ x.op) = false := decide_eq_false (by omega)
                rw [decide_eq_false (show ¬ (6 ≤ x.op ∧ x.op ≤ 9) by omega)] at HTR
                have d6 : decide ((6 : Int) ≤ x.op) = false := decide_eq_false (by omega)
                clear n1 o1 o2 hsl
                refine wp_region_held_drew (S := (fun w' => (w'.cell? ⟨g9, 0, none⟩ = some (.int .i64 x.op) ∧ w'.cell? ⟨g9, 1, none⟩ = some (.int .i64 x.dst) ∧ w'.cell? ⟨g9, 2, none⟩ = some (.int .i64 x.a.reg) ∧ w'.cell? ⟨g9, 3, none⟩ = some (.int .i64 x.a.num) ∧ w'.cell? ⟨g9, 4, none⟩ = some (.int .i64 x.b.reg) ∧ w'.cell? ⟨g9, 5, none⟩ = some (.int .i64 x.b.num) ∧ w'.cell? ⟨g9, 6, none⟩ = some (.int .i64 x.size) ∧ w'.cell? ⟨g9, 7, none⟩ = some (.bool x.signed) ∧ w'.cell? ⟨g9, 8, none⟩ = some (.bool x.secret) ∧ w'.cell? ⟨g9, 9, none⟩ = some (.int .i64 x.ref) ∧ w'.cell? ⟨g9, 10, none⟩ = some (.int .i64 x.off) ∧ w'.cell? ⟨g9, 11, none⟩ = some (.slice A5 x.args.length cap5)) ∧ Below w9.heap.size w9 w')) (by kernel_rfl) ?_ (fun hHeld => ?_)
                · first | (first | exact xi_step (hb := drew_below _) (h := HS0.out) | exact xi_step (hb := hbc) (h := by first | assumption | (refine ⟨⟨?_, ?_, ?_, ?_, ?_, ?_, ?_, ?_, ?_, ?_, ?_, ?_⟩, ?_⟩ <;> assumption))) | fail
                first | refine held_run 0 (v := ?_) hHeld rfl (by kernel_rfl) (by kernel_rfl) (by kernel_rfl) (fun _ _ _ h => h) (Or.inl ⟨by rfl, ?_⟩) ?_ | fail
                rotate_left
                · first | (intro w hSw; (try dsimp only at hSw); go_simp; with_reducible rfl) | fail
                try simp only [Act.put, List.setIfInBounds_toArray, List.set_cons_zero, List.set_cons_succ]
                first | refine held_run 2 (v := ?_) hHeld rfl (by kernel_rfl) (by kernel_rfl) (by kernel_rfl) (fun _ _ _ h => h) (Or.inl ⟨by rfl, ?_⟩) ?_ | fail
                rotate_left
                · first | (intro w hSw; (try dsimp only at hSw); go_simp; with_reducible rfl) | fail
                try simp only [Act.put, List.setIfInBounds_toArray, List.set_cons_zero, List.set_cons_succ]
                first | refine held_next 1 rfl (by kernel_rfl) (fun K hK => ?_) | fail
                go_simp
                try (go_split_ands; first
                      | (go_at_call 18; refine (HI.out _ (HBA.out.bt (by assumption))).mono ?_; rintro e w2 ⟨v2, rfl, hs2, hbc⟩)
                      | (go_at_call 20; refine (HO.out _ (HBA.out.bt (by assumption))).mono ?_; rintro e w2 ⟨v3, rfl, hs3, hbc⟩; replace hs2 := hs2.later (by decide) hbc)
                      | (go_at_call 19; refine (H8R.out _ _ hs3).mono ?_; rintro e w2 ⟨v4, rfl, hs4, hbc⟩; replace hs2 := hs2.later (by decide) hbc)
                      | (go_at_call 17; refine (like_any _ _ _ _ hs2 hs4).mono ?_; rintro e w2 ⟨rfl, hbc⟩)
                      | (go_at_call 21; refine (HPU.out _).mono ?_; rintro e w2 ⟨rfl, hbe⟩; have hbc := ar_below hbe; clear hbe)
                      | (go_at_call 22; refine (HTW.out _).mono ?_; rintro e w2 ⟨rfl, hbe⟩; have hbc := ar_below hbe; clear hbe)
                      | (go_at_call 23; refine (HTR.out _).mono ?_; rintro e w2 ⟨rfl, hbe⟩; have hbc := ar_below hbe; clear hbe))
                first | refine hK.out _ _ ?_ (fun hHeld1 => ?_) | (go_wp2_with fail; refine hK.out _ _ ?_ (fun hHeld1 => ?_)) | fail
                · first | (first | exact xi_step (hb := drew_below _) (h := HS0.out) | exact xi_step (hb := hbc) (h := by first | assumption | (refine ⟨⟨?_, ?_, ?_, ?_, ?_, ?_, ?_, ?_, ?_, ?_, ?_, ?_⟩, ?_⟩ <;> assumption))) | fail
                clear hK K
                try clear hHeld
                try simp only [Act.put, List.setIfInBounds_toArray, List.set_cons_zero, List.set_cons_succ]
                first | refine held_next 3 rfl (by kernel_rfl) (fun K hK => ?_) | fail
                go_simp
                try (go_split_ands; first
                      | (go_at_call 18; refine (HI.out _ (HBA.out.bt (by assumption))).mono ?_; rintro e w2 ⟨v2, rfl, hs2, hbc⟩)
                      | (go_at_call 20; refine (HO.out _ (HBA.out.bt (by assumption))).mono ?_; rintro e w2 ⟨v3, rfl, hs3, hbc⟩; replace hs2 := hs2.later (by decide) hbc)
                      | (go_at_call 19; refine (H8R.out _ _ hs3).mono ?_; rintro e w2 ⟨v4, rfl, hs4, hbc⟩; replace hs2 := hs2.later (by decide) hbc)
                      | (go_at_call 17; refine (like_any _ _ _ _ hs2 hs4).mono ?_; rintro e w2 ⟨rfl, hbc⟩)
                      | (go_at_call 21; refine (HPU.out _).mono ?_; rintro e w2 ⟨rfl, hbe⟩; have hbc := ar_below hbe; clear hbe)
                      | (go_at_call 22; refine (HTW.out _).mono ?_; rintro e w2 ⟨rfl, hbe⟩; have hbc := ar_below hbe; clear hbe)
                      | (go_at_call 23; refine (HTR.out _).mono ?_; rintro e w2 ⟨rfl, hbe⟩; have hbc := ar_below hbe; clear hbe))
                first | refine hK.out _ _ ?_ (fun hHeld2 => ?_) | (go_wp2_with fail; refine hK.out _ _ ?_ (fun hHeld2 => ?_)) | fail
                · first | (first | exact xi_step (hb := drew_below _) (h := HS0.out) | exact xi_step (hb := hbc) (h := by first | assumption | (refine ⟨⟨?_, ?_, ?_, ?_, ?_, ?_, ?_, ?_, ?_, ?_, ?_, ?_⟩, ?_⟩ <;> assumption))) | fail
                clear hK K
                try clear hHeld1
                try simp only [Act.put, List.setIfInBounds_toArray, List.set_cons_zero, List.set_cons_succ]
                first | refine held_next 4 rfl (by kernel_rfl) (fun K hK => ?_) | fail
                go_simp
                try (go_split_ands; first
                      | (go_at_call 18; refine (HI.out _ (HBA.out.bt (by assumption))).mono ?_; rintro e w2 ⟨v2, rfl, hs2, hbc⟩)
                      | (go_at_call 20; refine (HO.out _ (HBA.out.bt (by assumption))).mono ?_; rintro e w2 ⟨v3, rfl, hs3, hbc⟩; replace hs2 := hs2.later (by decide) hbc)
                      | (go_at_call 19; refine (H8R.out _ _ hs3).mono ?_; rintro e w2 ⟨v4, rfl, hs4, hbc⟩; replace hs2 := hs2.later (by decide) hbc)
                      | (go_at_call 17; refine (like_any _ _ _ _ hs2 hs4).mono ?_; rintro e w2 ⟨rfl, hbc⟩)
                      | (go_at_call 21; refine (HPU.out _).mono ?_; rintro e w2 ⟨rfl, hbe⟩; have hbc := ar_below hbe; clear hbe)
                      | (go_at_call 22; refine (HTW.out _).mono ?_; rintro e w2 ⟨rfl, hbe⟩; have hbc := ar_below hbe; clear hbe)
                      | (go_at_call 23; refine (HTR.out _).mono ?_; rintro e w2 ⟨rfl, hbe⟩; have hbc := ar_below hbe; clear hbe))
                first | refine hK.out _ _ ?_ (fun hHeld3 => ?_) | (go_wp2_with fail; refine hK.out _ _ ?_ (fun hHeld3 => ?_)) | fail
                · first | (first | exact xi_step (hb := drew_below _) (h := HS0.out) | exact xi_step (hb := hbc) (h := by first | assumption | (refine ⟨⟨?_, ?_, ?_, ?_, ?_, ?_, ?_, ?_, ?_, ?_, ?_, ?_⟩, ?_⟩ <;> assumption))) | fail
                clear hK K
                try clear hHeld2
                try simp only [Act.put, List.setIfInBounds_toArray, List.set_cons_zero, List.set_cons_succ]
                first | refine held_next 5 rfl (by kernel_rfl) (fun K hK => ?_) | fail
                go_simp
                try (go_split_ands; first
                      | (go_at_call 18; refine (HI.out _ (HBA.out.bt (by assumption))).mono ?_; rintro e w2 ⟨v2, rfl, hs2, hbc⟩)
                      | (go_at_call 20; refine (HO.out _ (HBA.out.bt (by assumption))).mono ?_; rintro e w2 ⟨v3, rfl, hs3, hbc⟩; replace hs2 := hs2.later (by decide) hbc)
                      | (go_at_call 19; refine (H8R.out _ _ hs3).mono ?_; rintro e w2 ⟨v4, rfl, hs4, hbc⟩; replace hs2 := hs2.later (by decide) hbc)
                      | (go_at_call 17; refine (like_any _ _ _ _ hs2 hs4).mono ?_; rintro e w2 ⟨rfl, hbc⟩)
                      | (go_at_call 21; refine (HPU.out _).mono ?_; rintro e w2 ⟨rfl, hbe⟩; have hbc := ar_below hbe; clear hbe)
                      | (go_at_call 22; refine (HTW.out _).mono ?_; rintro e w2 ⟨rfl, hbe⟩; have hbc := ar_below hbe; clear hbe)
                      | (go_at_call 23; refine (HTR.out _).mono ?_; rintro e w2 ⟨rfl, hbe⟩; have hbc := ar_below hbe; clear hbe))
                first | refine hK.out _ _ ?_ (fun hHeld4 => ?_) | (go_wp2_with fail; refine hK.out _ _ ?_ (fun hHeld4 => ?_)) | fail
                · first | (first | exact xi_step (hb := drew_below _) (h := HS0.out) | exact xi_step (hb := hbc) (h := by first | assumption | (refine ⟨⟨?_, ?_, ?_, ?_, ?_, ?_, ?_, ?_, ?_, ?_, ?_, ?_⟩, ?_⟩ <;> assumption))) | fail
                clear hK K
                try clear hHeld3
                try simp only [Act.put, List.setIfInBounds_toArray, List.set_cons_zero, List.set_cons_succ]
                first | refine held_run 6 (v := ?_) hHeld4 rfl (by kernel_rfl) (by kernel_rfl) (by kernel_rfl) (fun _ _ _ h => h) (Or.inl ⟨by rfl, ?_⟩) ?_ | fail
                rotate_left
                · first | (intro w hSw; (try dsimp only at hSw); go_simp; with_reducible rfl) | fail
                try simp only [Act.put, List.setIfInBounds_toArray, List.set_cons_zero, List.set_cons_succ]
                first | refine held_run 7 (v := ?_) hHeld4 rfl (by kernel_rfl) (by kernel_rfl) (by kernel_rfl) (fun _ _ _ h => h) (Or.inl ⟨by rfl, ?_⟩) ?_ | fail
                rotate_left
                · first | (intro w hSw; (try dsimp only at hSw); go_simp; with_reducible rfl) | fail
                try simp only [Act.put, List.setIfInBounds_toArray, List.set_cons_zero, List.set_cons_succ]
                first | refine held_run 8 (v := ?_) hHeld4 rfl (by kernel_rfl) (by kernel_rfl) (by kernel_rfl) (fun _ _ _ h => h) (Or.inl ⟨by rfl, ?_⟩) ?_ | fail
                rotate_left
                · first | (intro w hSw; (try dsimp only at hSw); go_simp; with_reducible rfl) | fail
                try simp only [Act.put, List.setIfInBounds_toArray, List.set_cons_zero, List.set_cons_succ]
                first | refine held_run 9 (v := ?_) hHeld4 rfl (by kernel_rfl) (by kernel_rfl) (by kernel_rfl) (fun _ _ _ h => h) (Or.inl ⟨by rfl, ?_⟩) ?_ | fail
                rotate_left
                · first | (intro w hSw; (try dsimp only at hSw); go_simp; with_reducible rfl) | fail
                try simp only [Act.put, List.setIfInBounds_toArray, List.set_cons_zero, List.set_cons_succ]
                first | refine held_run 11 (v := ?_) hHeld4 rfl (by kernel_rfl) (by kernel_rfl) (by kernel_rfl) (fun _ _ _ h => h) (Or.inl ⟨by rfl, ?_⟩) ?_ | fail
                rotate_left
                · first | (intro w hSw; (try dsimp only at hSw); go_simp; with_reducible rfl) | fail
                try simp only [Act.put, List.setIfInBounds_toArray, List.set_cons_zero, List.set_cons_succ]
                first | refine held_run 12 (v := ?_) hHeld4 rfl (by kernel_rfl) (by kernel_rfl) (by kernel_rfl) (fun _ _ _ h => h) (Or.inl ⟨by rfl, ?_⟩) ?_ | fail
                rotate_left
                · first | (intro w hSw; (try dsimp only at hSw); go_simp; with_reducible rfl) | fail
                try simp only [Act.put, List.setIfInBounds_toArray, List.set_cons_zero, List.set_cons_succ]
                first | refine held_run 13 (v := ?_) hHeld4 rfl (by kernel_rfl) (by kernel_rfl) (by kernel_rfl) (fun _ _ _ h => h) (Or.inl ⟨by rfl, ?_⟩) ?_ | fail
                rotate_left
                · first | (intro w hSw; (try dsimp only at hSw); go_simp; with_reducible rfl) | fail
                try simp only [Act.put, List.setIfInBounds_toArray, List.set_cons_zero, List.set_cons_succ]
                first | refine held_next 10 rfl (by kernel_rfl) (fun K hK => ?_) | fail
                go_simp
                try (go_split_ands; first
                      | (go_at_call 18; refine (HI.out _ (HBA.out.bt (by assumption))).mono ?_; rintro e w2 ⟨v2, rfl, hs2, hbc⟩)
                      | (go_at_call 20; refine (HO.out _ (HBA.out.bt (by assumption))).mono ?_; rintro e w2 ⟨v3, rfl, hs3, hbc⟩; replace hs2 := hs2.later (by decide) hbc)
                      | (go_at_call 19; refine (H8R.out _ _ hs3).mono ?_; rintro e w2 ⟨v4, rfl, hs4, hbc⟩; replace hs2 := hs2.later (by decide) hbc)
                      | (go_at_call 17; refine (like_any _ _ _ _ hs2 hs4).mono ?_; rintro e w2 ⟨rfl, hbc⟩)
                      | (go_at_call 21; refine (HPU.out _).mono ?_; rintro e w2 ⟨rfl, hbe⟩; have hbc := ar_below hbe; clear hbe)
                      | (go_at_call 22; refine (HTW.out _).mono ?_; rintro e w2 ⟨rfl, hbe⟩; have hbc := ar_below hbe; clear hbe)
                      | (go_at_call 23; refine (HTR.out _).mono ?_; rintro e w2 ⟨rfl, hbe⟩; have hbc := ar_below hbe; clear hbe))
                first | refine hK.out _ _ ?_ (fun hHeld5 => ?_) | (go_wp2_with fail; refine hK.out _ _ ?_ (fun hHeld5 => ?_)) | fail
                · first | (first | exact xi_step (hb := drew_below _) (h := HS0.out) | exact xi_step (hb := hbc) (h := by first | assumption | (refine ⟨⟨?_, ?_, ?_, ?_, ?_, ?_, ?_, ?_, ?_, ?_, ?_, ?_⟩, ?_⟩ <;> assumption))) | fail
                clear hK K
                try clear hHeld4
                try simp only [Act.put, List.setIfInBounds_toArray, List.set_cons_zero, List.set_cons_succ]
                first | refine held_run 14 (v := ?_) hHeld5 rfl (by kernel_rfl) (by kernel_rfl) (by kernel_rfl) (fun _ _ _ h => h) (Or.inl ⟨by rfl, ?_⟩) ?_ | fail
                rotate_left
                · first | (intro w hSw; (try dsimp only at hSw); go_simp; with_reducible rfl) | fail
                try simp only [Act.put, List.setIfInBounds_toArray, List.set_cons_zero, List.set_cons_succ]
                first | refine held_run 15 (v := ?_) hHeld5 rfl (by kernel_rfl) (by kernel_rfl) (by kernel_rfl) (fun _ _ _ h => h) (Or.inl ⟨by rfl, ?_⟩) ?_ | fail
                rotate_left
                · first | (intro w hSw; (try dsimp only at hSw); go_simp; with_reducible rfl) | fail
                try simp only [Act.put, List.setIfInBounds_toArray, List.set_cons_zero, List.set_cons_succ]
                first | refine held_run 16 (v := ?_) hHeld5 rfl (by kernel_rfl) (by kernel_rfl) (by kernel_rfl) (fun _ _ _ h => h) (Or.inl ⟨by rfl, ?_⟩) ?_ | fail
                rotate_left
                · first | (intro w hSw; (try dsimp only at hSw); go_simp; with_reducible rfl) | fail
                try simp only [Act.put, List.setIfInBounds_toArray, List.set_cons_zero, List.set_cons_succ]
                first | refine held_run 17 (v := ?_) hHeld5 rfl (by kernel_rfl) (by kernel_rfl) (by kernel_rfl) (fun _ _ _ h => h) (Or.inl ⟨by rfl, ?_⟩) ?_ | fail
                rotate_left
                · first | (intro w hSw; (try dsimp only at hSw); go_simp; with_reducible rfl) | fail
                try simp only [Act.put, List.setIfInBounds_toArray, List.set_cons_zero, List.set_cons_succ]
                first | refine held_run 18 (v := ?_) hHeld5 rfl (by kernel_rfl) (by kernel_rfl) (by kernel_rfl) (fun _ _ _ h => h) (Or.inl ⟨by rfl, ?_⟩) ?_ | fail
                rotate_left
                · first | (intro w hSw; (try dsimp only at hSw); go_simp; with_reducible rfl) | fail
                try simp only [Act.put, List.setIfInBounds_toArray, List.set_cons_zero, List.set_cons_succ]
                first | refine held_run 19 (v := ?_) hHeld5 rfl (by kernel_rfl) (by kernel_rfl) (by kernel_rfl) (fun _ _ _ h => h) (Or.inl ⟨by rfl, ?_⟩) ?_ | fail
                rotate_left
                · first | (intro w hSw; (try dsimp only at hSw); go_simp; with_reducible rfl) | fail
                try simp only [Act.put, List.setIfInBounds_toArray, List.set_cons_zero, List.set_cons_succ]
                first | refine held_run 20 (v := ?_) hHeld5 rfl (by kernel_rfl) (by kernel_rfl) (by kernel_rfl) (fun _ _ _ h => h) (Or.inl ⟨by rfl, ?_⟩) ?_ | fail
                rotate_left
                · first | (intro w hSw; (try dsimp only at hSw); go_simp; with_reducible rfl) | fail
                try simp only [Act.put, List.setIfInBounds_toArray, List.set_cons_zero, List.set_cons_succ]
                first | refine held_run 21 (v := ?_) hHeld5 rfl (by kernel_rfl) (by kernel_rfl) (by kernel_rfl) (fun _ _ _ h => h) (Or.inl ⟨by rfl, ?_⟩) ?_ | fail
                rotate_left
                · first | (intro w hSw; (try dsimp only at hSw); go_simp; with_reducible rfl) | fail
                try simp only [Act.put, List.setIfInBounds_toArray, List.set_cons_zero, List.set_cons_succ]
                first | refine held_run 22 (v := ?_) hHeld5 rfl (by kernel_rfl) (by kernel_rfl) (by kernel_rfl) (fun _ _ _ h => h) (Or.inl ⟨by rfl, ?_⟩) ?_ | fail
                rotate_left
                · first | (intro w hSw; (try dsimp only at hSw); go_simp; with_reducible rfl) | fail
                try simp only [Act.put, List.setIfInBounds_toArray, List.set_cons_zero, List.set_cons_succ]
                first | refine held_run 23 (v := ?_) hHeld5 rfl (by kernel_rfl) (by kernel_rfl) (by kernel_rfl) (fun _ _ _ h => h) (Or.inl ⟨by rfl, ?_⟩) ?_ | fail
                rotate_left
                · first | (intro w hSw; (try dsimp only at hSw); go_simp; with_reducible rfl) | fail
                try simp only [Act.put, List.setIfInBounds_toArray, List.set_cons_zero, List.set_cons_succ]
                first | refine held_run 25 (v := ?_) hHeld5 rfl (by kernel_rfl) (by kernel_rfl) (by kernel_rfl) (fun _ _ _ h => h) (Or.inl ⟨by rfl, ?_⟩) ?_ | fail
                rotate_left
                · first | (intro w hSw; (try dsimp only at hSw); go_simp; with_reducible rfl) | fail
                try simp only [Act.put, List.setIfInBounds_toArray, List.set_cons_zero, List.set_cons_succ]
                first | refine held_run 26 (v := ?_) hHeld5 rfl (by kernel_rfl) (by kernel_rfl) (by kernel_rfl) (fun _ _ _ h => h) (Or.inl ⟨by rfl, ?_⟩) ?_ | fail
                rotate_left
                · first | (intro w hSw; (try dsimp only at hSw); go_simp; with_reducible rfl) | fail
                try simp only [Act.put, List.setIfInBounds_toArray, List.set_cons_zero, List.set_cons_succ]
                first | refine held_run 27 (v := ?_) hHeld5 rfl (by kernel_rfl) (by kernel_rfl) (by kernel_rfl) (fun _ _ _ h => h) (Or.inl ⟨by rfl, ?_⟩) ?_ | fail
                rotate_left
                · first | (intro w hSw; (try dsimp only at hSw); go_simp; with_reducible rfl) | fail
                try simp only [Act.put, List.setIfInBounds_toArray, List.set_cons_zero, List.set_cons_succ]
                first | refine held_next 24 rfl (by kernel_rfl) (fun K hK => ?_) | fail
                go_simp
                try (go_split_ands; first
                      | (go_at_call 18; refine (HI.out _ (HBA.out.bt (by assumption))).mono ?_; rintro e w2 ⟨v2, rfl, hs2, hbc⟩)
                      | (go_at_call 20; refine (HO.out _ (HBA.out.bt (by assumption))).mono ?_; rintro e w2 ⟨v3, rfl, hs3, hbc⟩; replace hs2 := hs2.later (by decide) hbc)
                      | (go_at_call 19; refine (H8R.out _ _ hs3).mono ?_; rintro e w2 ⟨v4, rfl, hs4, hbc⟩; replace hs2 := hs2.later (by decide) hbc)
                      | (go_at_call 17; refine (like_any _ _ _ _ hs2 hs4).mono ?_; rintro e w2 ⟨rfl, hbc⟩)
                      | (go_at_call 21; refine (HPU.out _).mono ?_; rintro e w2 ⟨rfl, hbe⟩; have hbc := ar_below hbe; clear hbe)
                      | (go_at_call 22; refine (HTW.out _).mono ?_; rintro e w2 ⟨rfl, hbe⟩; have hbc := ar_below hbe; clear hbe)
                      | (go_at_call 23; refine (HTR.out _).mono ?_; rintro e w2 ⟨rfl, hbe⟩; have hbc := ar_below hbe; clear hbe))
                first | refine hK.out _ _ ?_ (fun hHeld6 => ?_) | (go_wp2_with fail; refine hK.out _ _ ?_ (fun hHeld6 => ?_)) | fail
                · first | (first | exact xi_step (hb := drew_below _) (h := HS0.out) | exact xi_step (hb := hbc) (h := by first | assumption | (refine ⟨⟨?_, ?_, ?_, ?_, ?_, ?_, ?_, ?_, ?_, ?_, ?_, ?_⟩, ?_⟩ <;> assumption))) | fail
                clear hK K
                try clear hHeld5
                try simp only [Act.put, List.setIfInBounds_toArray, List.set_cons_zero, List.set_cons_succ]
                first | refine held_run 28 (v := ?_) hHeld6 rfl (by kernel_rfl) (by kernel_rfl) (by kernel_rfl) (fun _ _ _ h => h) (Or.inl ⟨by rfl, ?_⟩) ?_ | fail
                rotate_left
                · first | (intro w hSw; (try dsimp only at hSw); go_simp; with_reducible rfl) | fail
                try simp only [Act.put, List.setIfInBounds_toArray, List.set_cons_zero, List.set_cons_succ]
                refine held_run 29 (v := undef) hHeld6 rfl (by kernel_rfl) (by kernel_rfl) (by kernel_rfl) (fun _ _ _ h => h) (Or.inr ⟨by rfl, rfl⟩) ?_
                try simp only [Act.put, List.setIfInBounds_toArray, List.set_cons_zero, List.set_cons_succ]
                refine held_run 30 (v := undef) hHeld6 rfl (by kernel_rfl) (by kernel_rfl) (by kernel_rfl) (fun _ _ _ h => h) (Or.inr ⟨by rfl, rfl⟩) ?_
                try simp only [Act.put, List.setIfInBounds_toArray, List.set_cons_zero, List.set_cons_succ]
                refine held_run 31 (v := undef) hHeld6 rfl (by kernel_rfl) (by kernel_rfl) (by kernel_rfl) (fun _ _ _ h => h) (Or.inr ⟨by rfl, rfl⟩) ?_
                try simp only [Act.put, List.setIfInBounds_toArray, List.set_cons_zero, List.set_cons_succ]
                first | refine held_run 32 (v := ?_) hHeld6 rfl (by kernel_rfl) (by kernel_rfl) (by kernel_rfl) (fun _ _ _ h => h) (Or.inl ⟨by rfl, ?_⟩) ?_ | fail
                rotate_left
                · first | (intro w hSw; (try dsimp only at hSw); go_simp; with_reducible rfl) | fail
                try simp only [Act.put, List.setIfInBounds_toArray, List.set_cons_zero, List.set_cons_succ]
                first | refine held_run 33 (v := ?_) hHeld6 rfl (by kernel_rfl) (by kernel_rfl) (by kernel_rfl) (fun _ _ _ h => h) (Or.inl ⟨by rfl, ?_⟩) ?_ | fail
                rotate_left
                · first | (intro w hSw; (try dsimp only at hSw); go_simp; with_reducible rfl) | fail
                try simp only [Act.put, List.setIfInBounds_toArray, List.set_cons_zero, List.set_cons_succ]
                first | refine held_run 34 (v := ?_) hHeld6 rfl (by kernel_rfl) (by kernel_rfl) (by kernel_rfl) (fun _ _ _ h => h) (Or.inl ⟨by rfl, ?_⟩) ?_ | fail
                rotate_left
                · first | (intro w hSw; (try dsimp only at hSw); go_simp; with_reducible rfl) | fail
                try simp only [Act.put, List.setIfInBounds_toArray, List.set_cons_zero, List.set_cons_succ]
                first | refine held_run 35 (v := ?_) hHeld6 rfl (by kernel_rfl) (by kernel_rfl) (by kernel_rfl) (fun _ _ _ h => h) (Or.inl ⟨by rfl, ?_⟩) ?_ | fail
                rotate_left
                · first | (intro w hSw; (try dsimp only at hSw); go_simp; with_reducible rfl) | fail
                try simp only [Act.put, List.setIfInBounds_toArray, List.set_cons_zero, List.set_cons_succ]
                first | refine held_run 36 (v := ?_) hHeld6 rfl (by kernel_rfl) (by kernel_rfl) (by kernel_rfl) (fun _ _ _ h => h) (Or.inl ⟨by rfl, ?_⟩) ?_ | fail
                rotate_left
                · first | (intro w hSw; (try dsimp only at hSw); go_simp; with_reducible rfl) | fail
                try simp only [Act.put, List.setIfInBounds_toArray, List.set_cons_zero, List.set_cons_succ]
                first | refine held_run 37 (v := ?_) hHeld6 rfl (by kernel_rfl) (by kernel_rfl) (by kernel_rfl) (fun _ _ _ h => h) (Or.inl ⟨by rfl, ?_⟩) ?_ | fail
                rotate_left
                · first | (intro w hSw; (try dsimp only at hSw); go_simp; with_reducible rfl) | fail
                try simp only [Act.put, List.setIfInBounds_toArray, List.set_cons_zero, List.set_cons_succ]
                first | refine held_run 39 (v := ?_) hHeld6 rfl (by kernel_rfl) (by kernel_rfl) (by kernel_rfl) (fun _ _ _ h => h) (Or.inl ⟨by rfl, ?_⟩) ?_ | fail
                rotate_left
                · first | (intro w hSw; (try dsimp only at hSw); go_simp; with_reducible rfl) | fail
                try simp only [Act.put, List.setIfInBounds_toArray, List.set_cons_zero, List.set_cons_succ]
                first | refine held_run 40 (v := ?_) hHeld6 rfl (by kernel_rfl) (by kernel_rfl) (by kernel_rfl) (fun _ _ _ h => h) (Or.inl ⟨by rfl, ?_⟩) ?_ | fail
                rotate_left
                · first | (intro w hSw; (try dsimp only at hSw); go_simp; with_reducible rfl) | fail
                try simp only [Act.put, List.setIfInBounds_toArray, List.set_cons_zero, List.set_cons_succ]
                first | refine held_run 41 (v := ?_) hHeld6 rfl (by kernel_rfl) (by kernel_rfl) (by kernel_rfl) (fun _ _ _ h => h) (Or.inl ⟨by rfl, ?_⟩) ?_ | fail
                rotate_left
                · first | (intro w hSw; (try dsimp only at hSw); go_simp; with_reducible rfl) | fail
                try simp only [Act.put, List.setIfInBounds_toArray, List.set_cons_zero, List.set_cons_succ]
                first | refine held_next 38 rfl (by kernel_rfl) (fun K hK => ?_) | fail
                go_simp
                try (go_split_ands; first
                      | (go_at_call 18; refine (HI.out _ (HBA.out.bt (by assumption))).mono ?_; rintro e w2 ⟨v2, rfl, hs2, hbc⟩)
                      | (go_at_call 20; refine (HO.out _ (HBA.out.bt (by assumption))).mono ?_; rintro e w2 ⟨v3, rfl, hs3, hbc⟩; replace hs2 := hs2.later (by decide) hbc)
                      | (go_at_call 19; refine (H8R.out _ _ hs3).mono ?_; rintro e w2 ⟨v4, rfl, hs4, hbc⟩; replace hs2 := hs2.later (by decide) hbc)
                      | (go_at_call 17; refine (like_any _ _ _ _ hs2 hs4).mono ?_; rintro e w2 ⟨rfl, hbc⟩)
                      | (go_at_call 21; refine (HPU.out _).mono ?_; rintro e w2 ⟨rfl, hbe⟩; have hbc := ar_below hbe; clear hbe)
                      | (go_at_call 22; refine (HTW.out _).mono ?_; rintro e w2 ⟨rfl, hbe⟩; have hbc := ar_below hbe; clear hbe)
                      | (go_at_call 23; refine (HTR.out _).mono ?_; rintro e w2 ⟨rfl, hbe⟩; have hbc := ar_below hbe; clear hbe))
                first | refine hK.out _ _ ?_ (fun hHeld7 => ?_) | (go_wp2_with fail; refine hK.out _ _ ?_ (fun hHeld7 => ?_)) | fail
                · first | (first | exact xi_step (hb := drew_below _) (h := HS0.out) | exact xi_step (hb := hbc) (h := by first | assumption | (refine ⟨⟨?_, ?_, ?_, ?_, ?_, ?_, ?_, ?_, ?_, ?_, ?_, ?_⟩, ?_⟩ <;> assumption))) | fail
                clear hK K
                try clear hHeld6
                try simp only [Act.put, List.setIfInBounds_toArray, List.set_cons_zero, List.set_cons_succ]
                first | refine held_run 42 (v := ?_) hHeld7 rfl (by kernel_rfl) (by kernel_rfl) (by kernel_rfl) (fun _ _ _ h => h) (Or.inl ⟨by rfl, ?_⟩) ?_ | fail
                rotate_left
                · first | (intro w hSw; (try dsimp only at hSw); go_simp; with_reducible rfl) | fail
                try simp only [Act.put, List.setIfInBounds_toArray, List.set_cons_zero, List.set_cons_succ]
                refine held_run 43 (v := undef) hHeld7 rfl (by kernel_rfl) (by kernel_rfl) (by kernel_rfl) (fun _ _ _ h => h) (Or.inr ⟨by rfl, rfl⟩) ?_
                try simp only [Act.put, List.setIfInBounds_toArray, List.set_cons_zero, List.set_cons_succ]
                refine held_run 44 (v := undef) hHeld7 rfl (by kernel_rfl) (by kernel_rfl) (by kernel_rfl) (fun _ _ _ h => h) (Or.inr ⟨by rfl, rfl⟩) ?_
                try simp only [Act.put, List.setIfInBounds_toArray, List.set_cons_zero, List.set_cons_succ]
                refine held_run 45 (v := undef) hHeld7 rfl (by kernel_rfl) (by kernel_rfl) (by kernel_rfl) (fun _ _ _ h => h) (Or.inr ⟨by rfl, rfl⟩) ?_
                try simp only [Act.put, List.setIfInBounds_toArray, List.set_cons_zero, List.set_cons_succ]
                first | refine held_run 46 (v := ?_) hHeld7 rfl (by kernel_rfl) (by kernel_rfl) (by kernel_rfl) (fun _ _ _ h => h) (Or.inl ⟨by rfl, ?_⟩) ?_ | fail
                rotate_left
                · first | (intro w hSw; (try dsimp only at hSw); go_simp; with_reducible rfl) | fail
                try simp only [Act.put, List.setIfInBounds_toArray, List.set_cons_zero, List.set_cons_succ]
                first | refine held_run 47 (v := ?_) hHeld7 rfl (by kernel_rfl) (by kernel_rfl) (by kernel_rfl) (fun _ _ _ h => h) (Or.inl ⟨by rfl, ?_⟩) ?_ | fail
                rotate_left
                · first | (intro w hSw; (try dsimp only at hSw); go_simp; with_reducible rfl) | fail
                try simp only [Act.put, List.setIfInBounds_toArray, List.set_cons_zero, List.set_cons_succ]
                first | refine held_run 48 (v := ?_) hHeld7 rfl (by kernel_rfl) (by kernel_rfl) (by kernel_rfl) (fun _ _ _ h => h) (Or.inl ⟨by rfl, ?_⟩) ?_ | fail
                rotate_left
                · first | (intro w hSw; (try dsimp only at hSw); go_simp; with_reducible rfl) | fail
                try simp only [Act.put, List.setIfInBounds_toArray, List.set_cons_zero, List.set_cons_succ]
                refine wpAnyH_done (by kernel_rfl) ?_ _
                go_split_ands
                go_wp2_with fail
                go_roundw
                case rel => exact ⟨q + 1, by omega, by go_num, HBA8.out.bt (by assumption)⟩
                case measure => simp [intOf]; omega
              · obtain ⟨p25, d25⟩ : ∃ b, decide (x.op ≤ 25) = b := ⟨_, rfl⟩
                obtain ⟨p21, d21⟩ : ∃ b, decide (x.op ≤ 21) = b := ⟨_, rfl⟩
                obtain ⟨p9, d9⟩ : ∃ b, decide (x.op ≤ 9) = b := ⟨_, rfl⟩
                have d1 : decide ((1 : Int) ≤ x.op) = true := decide_eq_true (by omega)
                rw [show decide (1 ≤ x.op ∧ x.op ≤ 25) = p25 by rw [← d25]; exact decide_eq_decide.2 ⟨fun h => h.2, fun h => ⟨by omega, h⟩⟩] at HPU
                rw [show decide (3 ≤ x.op ∧ x.op ≤ 21) = p21 by rw [← d21]; exact decide_eq_decide.2 ⟨fun h => h.2, fun h => ⟨by omega, h⟩⟩] at HTW
                have d3 : decide ((3 : Int) ≤ x.op) = true := decide_eq_true (by omega)
                rw [decide_eq_false (show ¬ (6 ≤ x.op ∧ x.op ≤ 9) by omega)] at HTR
                have d6 : decide ((6 : Int) ≤ x.op) = false := decide_eq_false (by omega)
                clear n1 n2 o1 o2 hsl
                refine wp_region_held_drew (S := (fun w' => (w'.cell? ⟨g9, 0, none⟩ = some (.int .i64 x.op) ∧ w'.cell? ⟨g9, 1, none⟩ = some (.int .i64 x.dst) ∧ w'.cell? ⟨g9, 2, none⟩ = some (.int .i64 x.a.reg) ∧ w'.cell? ⟨g9, 3, none⟩ = some (.int .i64 x.a.num) ∧ w'.cell? ⟨g9, 4, none⟩ = some (.int .i64 x.b.reg) ∧ w'.cell? ⟨g9, 5, none⟩ = some (.int .i64 x.b.num) ∧ w'.cell? ⟨g9, 6, none⟩ = some (.int .i64 x.size) ∧ w'.cell? ⟨g9, 7, none⟩ = some (.bool x.signed) ∧ w'.cell? ⟨g9, 8, none⟩ = some (.bool x.secret) ∧ w'.cell? ⟨g9, 9, none⟩ = some (.int .i64 x.ref) ∧ w'.cell? ⟨g9, 10, none⟩ = some (.int .i64 x.off) ∧ w'.cell? ⟨g9, 11, none⟩ = some (.slice A5 x.args.length cap5)) ∧ Below w9.heap.size w9 w')) (by kernel_rfl) ?_ (fun hHeld => ?_)
                · first | (first | exact xi_step (hb := drew_below _) (h := HS0.out) | exact xi_step (hb := hbc) (h := by first | assumption | (refine ⟨⟨?_, ?_, ?_, ?_, ?_, ?_, ?_, ?_, ?_, ?_, ?_, ?_⟩, ?_⟩ <;> assumption))) | fail
                first | refine held_run 0 (v := ?_) hHeld rfl (by kernel_rfl) (by kernel_rfl) (by kernel_rfl) (fun _ _ _ h => h) (Or.inl ⟨by rfl, ?_⟩) ?_ | fail
                rotate_left
                · first | (intro w hSw; (try dsimp only at hSw); go_simp; with_reducible rfl) | fail
                try simp only [Act.put, List.setIfInBounds_toArray, List.set_cons_zero, List.set_cons_succ]
                first | refine held_run 2 (v := ?_) hHeld rfl (by kernel_rfl) (by kernel_rfl) (by kernel_rfl) (fun _ _ _ h => h) (Or.inl ⟨by rfl, ?_⟩) ?_ | fail
                rotate_left
                · first | (intro w hSw; (try dsimp only at hSw); go_simp; with_reducible rfl) | fail
                try simp only [Act.put, List.setIfInBounds_toArray, List.set_cons_zero, List.set_cons_succ]
                first | refine held_next 1 rfl (by kernel_rfl) (fun K hK => ?_) | fail
                go_simp
                try (go_split_ands; first
                      | (go_at_call 18; refine (HI.out _ (HBA.out.bt (by assumption))).mono ?_; rintro e w2 ⟨v2, rfl, hs2, hbc⟩)
                      | (go_at_call 20; refine (HO.out _ (HBA.out.bt (by assumption))).mono ?_; rintro e w2 ⟨v3, rfl, hs3, hbc⟩; replace hs2 := hs2.later (by decide) hbc)
                      | (go_at_call 19; refine (H8R.out _ _ hs3).mono ?_; rintro e w2 ⟨v4, rfl, hs4, hbc⟩; replace hs2 := hs2.later (by decide) hbc)
                      | (go_at_call 17; refine (like_any _ _ _ _ hs2 hs4).mono ?_; rintro e w2 ⟨rfl, hbc⟩)
                      | (go_at_call 21; refine (HPU.out _).mono ?_; rintro e w2 ⟨rfl, hbe⟩; have hbc := ar_below hbe; clear hbe)
                      | (go_at_call 22; refine (HTW.out _).mono ?_; rintro e w2 ⟨rfl, hbe⟩; have hbc := ar_below hbe; clear hbe)
                      | (go_at_call 23; refine (HTR.out _).mono ?_; rintro e w2 ⟨rfl, hbe⟩; have hbc := ar_below hbe; clear hbe))
                first | refine hK.out _ _ ?_ (fun hHeld1 => ?_) | (go_wp2_with fail; refine hK.out _ _ ?_ (fun hHeld1 => ?_)) | fail
                · first | (first | exact xi_step (hb := drew_below _) (h := HS0.out) | exact xi_step (hb := hbc) (h := by first | assumption | (refine ⟨⟨?_, ?_, ?_, ?_, ?_, ?_, ?_, ?_, ?_, ?_, ?_, ?_⟩, ?_⟩ <;> assumption))) | fail
                clear hK K
                try clear hHeld
                try simp only [Act.put, List.setIfInBounds_toArray, List.set_cons_zero, List.set_cons_succ]
                first | refine held_next 3 rfl (by kernel_rfl) (fun K hK => ?_) | fail
                go_simp
                try (go_split_ands; first
                      | (go_at_call 18; refine (HI.out _ (HBA.out.bt (by assumption))).mono ?_; rintro e w2 ⟨v2, rfl, hs2, hbc⟩)
                      | (go_at_call 20; refine (HO.out _ (HBA.out.bt (by assumption))).mono ?_; rintro e w2 ⟨v3, rfl, hs3, hbc⟩; replace hs2 := hs2.later (by decide) hbc)
                      | (go_at_call 19; refine (H8R.out _ _ hs3).mono ?_; rintro e w2 ⟨v4, rfl, hs4, hbc⟩; replace hs2 := hs2.later (by decide) hbc)
                      | (go_at_call 17; refine (like_any _ _ _ _ hs2 hs4).mono ?_; rintro e w2 ⟨rfl, hbc⟩)
                      | (go_at_call 21; refine (HPU.out _).mono ?_; rintro e w2 ⟨rfl, hbe⟩; have hbc := ar_below hbe; clear hbe)
                      | (go_at_call 22; refine (HTW.out _).mono ?_; rintro e w2 ⟨rfl, hbe⟩; have hbc := ar_below hbe; clear hbe)
                      | (go_at_call 23; refine (HTR.out _).mono ?_; rintro e w2 ⟨rfl, hbe⟩; have hbc := ar_below hbe; clear hbe))
                first | refine hK.out _ _ ?_ (fun hHeld2 => ?_) | (go_wp2_with fail; refine hK.out _ _ ?_ (fun hHeld2 => ?_)) | fail
                · first | (first | exact xi_step (hb := drew_below _) (h := HS0.out) | exact xi_step (hb := hbc) (h := by first | assumption | (refine ⟨⟨?_, ?_, ?_, ?_, ?_, ?_, ?_, ?_, ?_, ?_, ?_, ?_⟩, ?_⟩ <;> assumption))) | fail
                clear hK K
                try clear hHeld1
                try simp only [Act.put, List.setIfInBounds_toArray, List.set_cons_zero, List.set_cons_succ]
                first | refine held_next 4 rfl (by kernel_rfl) (fun K hK => ?_) | fail
                go_simp
                try (go_split_ands; first
                      | (go_at_call 18; refine (HI.out _ (HBA.out.bt (by assumption))).mono ?_; rintro e w2 ⟨v2, rfl, hs2, hbc⟩)
                      | (go_at_call 20; refine (HO.out _ (HBA.out.bt (by assumption))).mono ?_; rintro e w2 ⟨v3, rfl, hs3, hbc⟩; replace hs2 := hs2.later (by decide) hbc)
                      | (go_at_call 19; refine (H8R.out _ _ hs3).mono ?_; rintro e w2 ⟨v4, rfl, hs4, hbc⟩; replace hs2 := hs2.later (by decide) hbc)
                      | (go_at_call 17; refine (like_any _ _ _ _ hs2 hs4).mono ?_; rintro e w2 ⟨rfl, hbc⟩)
                      | (go_at_call 21; refine (HPU.out _).mono ?_; rintro e w2 ⟨rfl, hbe⟩; have hbc := ar_below hbe; clear hbe)
                      | (go_at_call 22; refine (HTW.out _).mono ?_; rintro e w2 ⟨rfl, hbe⟩; have hbc := ar_below hbe; clear hbe)
                      | (go_at_call 23; refine (HTR.out _).mono ?_; rintro e w2 ⟨rfl, hbe⟩; have hbc := ar_below hbe; clear hbe))
                first | refine hK.out _ _ ?_ (fun hHeld3 => ?_) | (go_wp2_with fail; refine hK.out _ _ ?_ (fun hHeld3 => ?_)) | fail
                · first | (first | exact xi_step (hb := drew_below _) (h := HS0.out) | exact xi_step (hb := hbc) (h := by first | assumption | (refine ⟨⟨?_, ?_, ?_, ?_, ?_, ?_, ?_, ?_, ?_, ?_, ?_, ?_⟩, ?_⟩ <;> assumption))) | fail
                clear hK K
                try clear hHeld2
                try simp only [Act.put, List.setIfInBounds_toArray, List.set_cons_zero, List.set_cons_succ]
                first | refine held_next 5 rfl (by kernel_rfl) (fun K hK => ?_) | fail
                go_simp
                try (go_split_ands; first
                      | (go_at_call 18; refine (HI.out _ (HBA.out.bt (by assumption))).mono ?_; rintro e w2 ⟨v2, rfl, hs2, hbc⟩)
                      | (go_at_call 20; refine (HO.out _ (HBA.out.bt (by assumption))).mono ?_; rintro e w2 ⟨v3, rfl, hs3, hbc⟩; replace hs2 := hs2.later (by decide) hbc)
                      | (go_at_call 19; refine (H8R.out _ _ hs3).mono ?_; rintro e w2 ⟨v4, rfl, hs4, hbc⟩; replace hs2 := hs2.later (by decide) hbc)
                      | (go_at_call 17; refine (like_any _ _ _ _ hs2 hs4).mono ?_; rintro e w2 ⟨rfl, hbc⟩)
                      | (go_at_call 21; refine (HPU.out _).mono ?_; rintro e w2 ⟨rfl, hbe⟩; have hbc := ar_below hbe; clear hbe)
                      | (go_at_call 22; refine (HTW.out _).mono ?_; rintro e w2 ⟨rfl, hbe⟩; have hbc := ar_below hbe; clear hbe)
                      | (go_at_call 23; refine (HTR.out _).mono ?_; rintro e w2 ⟨rfl, hbe⟩; have hbc := ar_below hbe; clear hbe))
                first | refine hK.out _ _ ?_ (fun hHeld4 => ?_) | (go_wp2_with fail; refine hK.out _ _ ?_ (fun hHeld4 => ?_)) | fail
                · first | (first | exact xi_step (hb := drew_below _) (h := HS0.out) | exact xi_step (hb := hbc) (h := by first | assumption | (refine ⟨⟨?_, ?_, ?_, ?_, ?_, ?_, ?_, ?_, ?_, ?_, ?_, ?_⟩, ?_⟩ <;> assumption))) | fail
                clear hK K
                try clear hHeld3
                try simp only [Act.put, List.setIfInBounds_toArray, List.set_cons_zero, List.set_cons_succ]
                first | refine held_run 6 (v := ?_) hHeld4 rfl (by kernel_rfl) (by kernel_rfl) (by kernel_rfl) (fun _ _ _ h => h) (Or.inl ⟨by rfl, ?_⟩) ?_ | fail
                rotate_left
                · first | (intro w hSw; (try dsimp only at hSw); go_simp; with_reducible rfl) | fail
                try simp only [Act.put, List.setIfInBounds_toArray, List.set_cons_zero, List.set_cons_succ]
                first | refine held_run 7 (v := ?_) hHeld4 rfl (by kernel_rfl) (by kernel_rfl) (by kernel_rfl) (fun _ _ _ h => h) (Or.inl ⟨by rfl, ?_⟩) ?_ | fail
                rotate_left
                · first | (intro w hSw; (try dsimp only at hSw); go_simp; with_reducible rfl) | fail
                try simp only [Act.put, List.setIfInBounds_toArray, List.set_cons_zero, List.set_cons_succ]
                first | refine held_run 8 (v := ?_) hHeld4 rfl (by kernel_rfl) (by kernel_rfl) (by kernel_rfl) (fun _ _ _ h => h) (Or.inl ⟨by rfl, ?_⟩) ?_ | fail
                rotate_left
                · first | (intro w hSw; (try dsimp only at hSw); go_simp; with_reducible rfl) | fail
                try simp only [Act.put, List.setIfInBounds_toArray, List.set_cons_zero, List.set_cons_succ]
                first | refine held_run 9 (v := ?_) hHeld4 rfl (by kernel_rfl) (by kernel_rfl) (by kernel_rfl) (fun _ _ _ h => h) (Or.inl ⟨by rfl, ?_⟩) ?_ | fail
                rotate_left
                · first | (intro w hSw; (try dsimp only at hSw); go_simp; with_reducible rfl) | fail
                try simp only [Act.put, List.setIfInBounds_toArray, List.set_cons_zero, List.set_cons_succ]
                first | refine held_run 11 (v := ?_) hHeld4 rfl (by kernel_rfl) (by kernel_rfl) (by kernel_rfl) (fun _ _ _ h => h) (Or.inl ⟨by rfl, ?_⟩) ?_ | fail
                rotate_left
                · first | (intro w hSw; (try dsimp only at hSw); go_simp; with_reducible rfl) | fail
                try simp only [Act.put, List.setIfInBounds_toArray, List.set_cons_zero, List.set_cons_succ]
                first | refine held_run 12 (v := ?_) hHeld4 rfl (by kernel_rfl) (by kernel_rfl) (by kernel_rfl) (fun _ _ _ h => h) (Or.inl ⟨by rfl, ?_⟩) ?_ | fail
                rotate_left
                · first | (intro w hSw; (try dsimp only at hSw); go_simp; with_reducible rfl) | fail
                try simp only [Act.put, List.setIfInBounds_toArray, List.set_cons_zero, List.set_cons_succ]
                first | refine held_run 13 (v := ?_) hHeld4 rfl (by kernel_rfl) (by kernel_rfl) (by kernel_rfl) (fun _ _ _ h => h) (Or.inl ⟨by rfl, ?_⟩) ?_ | fail
                rotate_left
                · first | (intro w hSw; (try dsimp only at hSw); go_simp; with_reducible rfl) | fail
                try simp only [Act.put, List.setIfInBounds_toArray, List.set_cons_zero, List.set_cons_succ]
                first | refine held_next 10 rfl (by kernel_rfl) (fun K hK => ?_) | fail
                go_simp
                try (go_split_ands; first
                      | (go_at_call 18; refine (HI.out _ (HBA.out.bt (by assumption))).mono ?_; rintro e w2 ⟨v2, rfl, hs2, hbc⟩)
                      | (go_at_call 20; refine (HO.out _ (HBA.out.bt (by assumption))).mono ?_; rintro e w2 ⟨v3, rfl, hs3, hbc⟩; replace hs2 := hs2.later (by decide) hbc)
                      | (go_at_call 19; refine (H8R.out _ _ hs3).mono ?_; rintro e w2 ⟨v4, rfl, hs4, hbc⟩; replace hs2 := hs2.later (by decide) hbc)
                      | (go_at_call 17; refine (like_any _ _ _ _ hs2 hs4).mono ?_; rintro e w2 ⟨rfl, hbc⟩)
                      | (go_at_call 21; refine (HPU.out _).mono ?_; rintro e w2 ⟨rfl, hbe⟩; have hbc := ar_below hbe; clear hbe)
                      | (go_at_call 22; refine (HTW.out _).mono ?_; rintro e w2 ⟨rfl, hbe⟩; have hbc := ar_below hbe; clear hbe)
                      | (go_at_call 23; refine (HTR.out _).mono ?_; rintro e w2 ⟨rfl, hbe⟩; have hbc := ar_below hbe; clear hbe))
                first | refine hK.out _ _ ?_ (fun hHeld5 => ?_) | (go_wp2_with fail; refine hK.out _ _ ?_ (fun hHeld5 => ?_)) | fail
                · first | (first | exact xi_step (hb := drew_below _) (h := HS0.out) | exact xi_step (hb := hbc) (h := by first | assumption | (refine ⟨⟨?_, ?_, ?_, ?_, ?_, ?_, ?_, ?_, ?_, ?_, ?_, ?_⟩, ?_⟩ <;> assumption))) | fail
                clear hK K
                try clear hHeld4
                try simp only [Act.put, List.setIfInBounds_toArray, List.set_cons_zero, List.set_cons_succ]
                first | refine held_run 14 (v := ?_) hHeld5 rfl (by kernel_rfl) (by kernel_rfl) (by kernel_rfl) (fun _ _ _ h => h) (Or.inl ⟨by rfl, ?_⟩) ?_ | fail
                rotate_left
                · first | (intro w hSw; (try dsimp only at hSw); go_simp; with_reducible rfl) | fail
                try simp only [Act.put, List.setIfInBounds_toArray, List.set_cons_zero, List.set_cons_succ]
                first | refine held_run 15 (v := ?_) hHeld5 rfl (by kernel_rfl) (by kernel_rfl) (by kernel_rfl) (fun _ _ _ h => h) (Or.inl ⟨by rfl, ?_⟩) ?_ | fail
                rotate_left
                · first | (intro w hSw; (try dsimp only at hSw); go_simp; with_reducible rfl) | fail
                try simp only [Act.put, List.setIfInBounds_toArray, List.set_cons_zero, List.set_cons_succ]
                first | refine held_run 16 (v := ?_) hHeld5 rfl (by kernel_rfl) (by kernel_rfl) (by kernel_rfl) (fun _ _ _ h => h) (Or.inl ⟨by rfl, ?_⟩) ?_ | fail
                rotate_left
                · first | (intro w hSw; (try dsimp only at hSw); go_simp; with_reducible rfl) | fail
                try simp only [Act.put, List.setIfInBounds_toArray, List.set_cons_zero, List.set_cons_succ]
                first | refine held_run 17 (v := ?_) hHeld5 rfl (by kernel_rfl) (by kernel_rfl) (by kernel_rfl) (fun _ _ _ h => h) (Or.inl ⟨by rfl, ?_⟩) ?_ | fail
                rotate_left
                · first | (intro w hSw; (try dsimp only at hSw); go_simp; with_reducible rfl) | fail
                try simp only [Act.put, List.setIfInBounds_toArray, List.set_cons_zero, List.set_cons_succ]
                first | refine held_run 18 (v := ?_) hHeld5 rfl (by kernel_rfl) (by kernel_rfl) (by kernel_rfl) (fun _ _ _ h => h) (Or.inl ⟨by rfl, ?_⟩) ?_ | fail
                rotate_left
                · first | (intro w hSw; (try dsimp only at hSw); go_simp; with_reducible rfl) | fail
                try simp only [Act.put, List.setIfInBounds_toArray, List.set_cons_zero, List.set_cons_succ]
                first | refine held_run 19 (v := ?_) hHeld5 rfl (by kernel_rfl) (by kernel_rfl) (by kernel_rfl) (fun _ _ _ h => h) (Or.inl ⟨by rfl, ?_⟩) ?_ | fail
                rotate_left
                · first | (intro w hSw; (try dsimp only at hSw); go_simp; with_reducible rfl) | fail
                try simp only [Act.put, List.setIfInBounds_toArray, List.set_cons_zero, List.set_cons_succ]
                first | refine held_run 20 (v := ?_) hHeld5 rfl (by kernel_rfl) (by kernel_rfl) (by kernel_rfl) (fun _ _ _ h => h) (Or.inl ⟨by rfl, ?_⟩) ?_ | fail
                rotate_left
                · first | (intro w hSw; (try dsimp only at hSw); go_simp; with_reducible rfl) | fail
                try simp only [Act.put, List.setIfInBounds_toArray, List.set_cons_zero, List.set_cons_succ]
                first | refine held_run 21 (v := ?_) hHeld5 rfl (by kernel_rfl) (by kernel_rfl) (by kernel_rfl) (fun _ _ _ h => h) (Or.inl ⟨by rfl, ?_⟩) ?_ | fail
                rotate_left
                · first | (intro w hSw; (try dsimp only at hSw); go_simp; with_reducible rfl) | fail
                try simp only [Act.put, List.setIfInBounds_toArray, List.set_cons_zero, List.set_cons_succ]
                first | refine held_run 22 (v := ?_) hHeld5 rfl (by kernel_rfl) (by kernel_rfl) (by kernel_rfl) (fun _ _ _ h => h) (Or.inl ⟨by rfl, ?_⟩) ?_ | fail
                rotate_left
                · first | (intro w hSw; (try dsimp only at hSw); go_simp; with_reducible rfl) | fail
                try simp only [Act.put, List.setIfInBounds_toArray, List.set_cons_zero, List.set_cons_succ]
                first | refine held_run 23 (v := ?_) hHeld5 rfl (by kernel_rfl) (by kernel_rfl) (by kernel_rfl) (fun _ _ _ h => h) (Or.inl ⟨by rfl, ?_⟩) ?_ | fail
                rotate_left
                · first | (intro w hSw; (try dsimp only at hSw); go_simp; with_reducible rfl) | fail
                try simp only [Act.put, List.setIfInBounds_toArray, List.set_cons_zero, List.set_cons_succ]
                first | refine held_run 25 (v := ?_) hHeld5 rfl (by kernel_rfl) (by kernel_rfl) (by kernel_rfl) (fun _ _ _ h => h) (Or.inl ⟨by rfl, ?_⟩) ?_ | fail
                rotate_left
                · first | (intro w hSw; (try dsimp only at hSw); go_simp; with_reducible rfl) | fail
                try simp only [Act.put, List.setIfInBounds_toArray, List.set_cons_zero, List.set_cons_succ]
                first | refine held_run 26 (v := ?_) hHeld5 rfl (by kernel_rfl) (by kernel_rfl) (by kernel_rfl) (fun _ _ _ h => h) (Or.inl ⟨by rfl, ?_⟩) ?_ | fail
                rotate_left
                · first | (intro w hSw; (try dsimp only at hSw); go_simp; with_reducible rfl) | fail
                try simp only [Act.put, List.setIfInBounds_toArray, List.set_cons_zero, List.set_cons_succ]
                first | refine held_run 27 (v := ?_) hHeld5 rfl (by kernel_rfl) (by kernel_rfl) (by kernel_rfl) (fun _ _ _ h => h) (Or.inl ⟨by rfl, ?_⟩) ?_ | fail
                rotate_left
                · first | (intro w hSw; (try dsimp only at hSw); go_simp; with_reducible rfl) | fail
                try simp only [Act.put, List.setIfInBounds_toArray, List.set_cons_zero, List.set_cons_succ]
                first | refine held_next 24 rfl (by kernel_rfl) (fun K hK => ?_) | fail
                go_simp
                try (go_split_ands; first
                      | (go_at_call 18; refine (HI.out _ (HBA.out.bt (by assumption))).mono ?_; rintro e w2 ⟨v2, rfl, hs2, hbc⟩)
                      | (go_at_call 20; refine (HO.out _ (HBA.out.bt (by assumption))).mono ?_; rintro e w2 ⟨v3, rfl, hs3, hbc⟩; replace hs2 := hs2.later (by decide) hbc)
                      | (go_at_call 19; refine (H8R.out _ _ hs3).mono ?_; rintro e w2 ⟨v4, rfl, hs4, hbc⟩; replace hs2 := hs2.later (by decide) hbc)
                      | (go_at_call 17; refine (like_any _ _ _ _ hs2 hs4).mono ?_; rintro e w2 ⟨rfl, hbc⟩)
                      | (go_at_call 21; refine (HPU.out _).mono ?_; rintro e w2 ⟨rfl, hbe⟩; have hbc := ar_below hbe; clear hbe)
                      | (go_at_call 22; refine (HTW.out _).mono ?_; rintro e w2 ⟨rfl, hbe⟩; have hbc := ar_below hbe; clear hbe)
                      | (go_at_call 23; refine (HTR.out _).mono ?_; rintro e w2 ⟨rfl, hbe⟩; have hbc := ar_below hbe; clear hbe))
                first | refine hK.out _ _ ?_ (fun hHeld6 => ?_) | (go_wp2_with fail; refine hK.out _ _ ?_ (fun hHeld6 => ?_)) | fail
                · first | (first | exact xi_step (hb := drew_below _) (h := HS0.out) | exact xi_step (hb := hbc) (h := by first | assumption | (refine ⟨⟨?_, ?_, ?_, ?_, ?_, ?_, ?_, ?_, ?_, ?_, ?_, ?_⟩, ?_⟩ <;> assumption))) | fail
                clear hK K
                try clear hHeld5
                try simp only [Act.put, List.setIfInBounds_toArray, List.set_cons_zero, List.set_cons_succ]
                first | refine held_run 28 (v := ?_) hHeld6 rfl (by kernel_rfl) (by kernel_rfl) (by kernel_rfl) (fun _ _ _ h => h) (Or.inl ⟨by rfl, ?_⟩) ?_ | fail
                rotate_left
                · first | (intro w hSw; (try dsimp only at hSw); go_simp; with_reducible rfl) | fail
                try simp only [Act.put, List.setIfInBounds_toArray, List.set_cons_zero, List.set_cons_succ]
                first | refine held_run 29 (v := ?_) hHeld6 rfl (by kernel_rfl) (by kernel_rfl) (by kernel_rfl) (fun _ _ _ h => h) (Or.inl ⟨by rfl, ?_⟩) ?_ | fail
                rotate_left
                · first | (intro w hSw; (try dsimp only at hSw); go_simp; with_reducible rfl) | fail
                try simp only [Act.put, List.setIfInBounds_toArray, List.set_cons_zero, List.set_cons_succ]
                first | refine held_run 30 (v := ?_) hHeld6 rfl (by kernel_rfl) (by kernel_rfl) (by kernel_rfl) (fun _ _ _ h => h) (Or.inl ⟨by rfl, ?_⟩) ?_ | fail
                rotate_left
                · first | (intro w hSw; (try dsimp only at hSw); go_simp; with_reducible rfl) | fail
                try simp only [Act.put, List.setIfInBounds_toArray, List.set_cons_zero, List.set_cons_succ]
                first | refine held_run 31 (v := ?_) hHeld6 rfl (by kernel_rfl) (by kernel_rfl) (by kernel_rfl) (fun _ _ _ h => h) (Or.inl ⟨by rfl, ?_⟩) ?_ | fail
                rotate_left
                · first | (intro w hSw; (try dsimp only at hSw); go_simp; with_reducible rfl) | fail
                try simp only [Act.put, List.setIfInBounds_toArray, List.set_cons_zero, List.set_cons_succ]
                first | refine held_run 32 (v := ?_) hHeld6 rfl (by kernel_rfl) (by kernel_rfl) (by kernel_rfl) (fun _ _ _ h => h) (Or.inl ⟨by rfl, ?_⟩) ?_ | fail
                rotate_left
                · first | (intro w hSw; (try dsimp only at hSw); go_simp; with_reducible rfl) | fail
                try simp only [Act.put, List.setIfInBounds_toArray, List.set_cons_zero, List.set_cons_succ]
                first | refine held_run 33 (v := ?_) hHeld6 rfl (by kernel_rfl) (by kernel_rfl) (by kernel_rfl) (fun _ _ _ h => h) (Or.inl ⟨by rfl, ?_⟩) ?_ | fail
                rotate_left
                · first | (intro w hSw; (try dsimp only at hSw); go_simp; with_reducible rfl) | fail
                try simp only [Act.put, List.setIfInBounds_toArray, List.set_cons_zero, List.set_cons_succ]
                first | refine held_run 34 (v := ?_) hHeld6 rfl (by kernel_rfl) (by kernel_rfl) (by kernel_rfl) (fun _ _ _ h => h) (Or.inl ⟨by rfl, ?_⟩) ?_ | fail
                rotate_left
                · first | (intro w hSw; (try dsimp only at hSw); go_simp; with_reducible rfl) | fail
                try simp only [Act.put, List.setIfInBounds_toArray, List.set_cons_zero, List.set_cons_succ]
                first | refine held_run 35 (v := ?_) hHeld6 rfl (by kernel_rfl) (by kernel_rfl) (by kernel_rfl) (fun _ _ _ h => h) (Or.inl ⟨by rfl, ?_⟩) ?_ | fail
                rotate_left
                · first | (intro w hSw; (try dsimp only at hSw); go_simp; with_reducible rfl) | fail
                try simp only [Act.put, List.setIfInBounds_toArray, List.set_cons_zero, List.set_cons_succ]
                first | refine held_run 36 (v := ?_) hHeld6 rfl (by kernel_rfl) (by kernel_rfl) (by kernel_rfl) (fun _ _ _ h => h) (Or.inl ⟨by rfl, ?_⟩) ?_ | fail
                rotate_left
                · first | (intro w hSw; (try dsimp only at hSw); go_simp; with_reducible rfl) | fail
                try simp only [Act.put, List.setIfInBounds_toArray, List.set_cons_zero, List.set_cons_succ]
                first | refine held_run 37 (v := ?_) hHeld6 rfl (by kernel_rfl) (by kernel_rfl) (by kernel_rfl) (fun _ _ _ h => h) (Or.inl ⟨by rfl, ?_⟩) ?_ | fail
                rotate_left
                · first | (intro w hSw; (try dsimp only at hSw); go_simp; with_reducible rfl) | fail
                try simp only [Act.put, List.setIfInBounds_toArray, List.set_cons_zero, List.set_cons_succ]
                first | refine held_run 39 (v := ?_) hHeld6 rfl (by kernel_rfl) (by kernel_rfl) (by kernel_rfl) (fun _ _ _ h => h) (Or.inl ⟨by rfl, ?_⟩) ?_ | fail
                rotate_left
                · first | (intro w hSw; (try dsimp only at hSw); go_simp; with_reducible rfl) | fail
                try simp only [Act.put, List.setIfInBounds_toArray, List.set_cons_zero, List.set_cons_succ]
                first | refine held_run 40 (v := ?_) hHeld6 rfl (by kernel_rfl) (by kernel_rfl) (by kernel_rfl) (fun _ _ _ h => h) (Or.inl ⟨by rfl, ?_⟩) ?_ | fail
                rotate_left
                · first | (intro w hSw; (try dsimp only at hSw); go_simp; with_reducible rfl) | fail
                try simp only [Act.put, List.setIfInBounds_toArray, List.set_cons_zero, List.set_cons_succ]
                first | refine held_run 41 (v := ?_) hHeld6 rfl (by kernel_rfl) (by kernel_rfl) (by kernel_rfl) (fun _ _ _ h => h) (Or.inl ⟨by rfl, ?_⟩) ?_ | fail
                rotate_left
                · first | (intro w hSw; (try dsimp only at hSw); go_simp; with_reducible rfl) | fail
                try simp only [Act.put, List.setIfInBounds_toArray, List.set_cons_zero, List.set_cons_succ]
                first | refine held_next 38 rfl (by kernel_rfl) (fun K hK => ?_) | fail
                go_simp
                try (go_split_ands; first
                      | (go_at_call 18; refine (HI.out _ (HBA.out.bt (by assumption))).mono ?_; rintro e w2 ⟨v2, rfl, hs2, hbc⟩)
                      | (go_at_call 20; refine (HO.out _ (HBA.out.bt (by assumption))).mono ?_; rintro e w2 ⟨v3, rfl, hs3, hbc⟩; replace hs2 := hs2.later (by decide) hbc)
                      | (go_at_call 19; refine (H8R.out _ _ hs3).mono ?_; rintro e w2 ⟨v4, rfl, hs4, hbc⟩; replace hs2 := hs2.later (by decide) hbc)
                      | (go_at_call 17; refine (like_any _ _ _ _ hs2 hs4).mono ?_; rintro e w2 ⟨rfl, hbc⟩)
                      | (go_at_call 21; refine (HPU.out _).mono ?_; rintro e w2 ⟨rfl, hbe⟩; have hbc := ar_below hbe; clear hbe)
                      | (go_at_call 22; refine (HTW.out _).mono ?_; rintro e w2 ⟨rfl, hbe⟩; have hbc := ar_below hbe; clear hbe)
                      | (go_at_call 23; refine (HTR.out _).mono ?_; rintro e w2 ⟨rfl, hbe⟩; have hbc := ar_below hbe; clear hbe))
                first | refine hK.out _ _ ?_ (fun hHeld7 => ?_) | (go_wp2_with fail; refine hK.out _ _ ?_ (fun hHeld7 => ?_)) | fail
                · first | (first | exact xi_step (hb := drew_below _) (h := HS0.out) | exact xi_step (hb := hbc) (h := by first | assumption | (refine ⟨⟨?_, ?_, ?_, ?_, ?_, ?_, ?_, ?_, ?_, ?_, ?_, ?_⟩, ?_⟩ <;> assumption))) | fail
                clear hK K
                try clear hHeld6
                try simp only [Act.put, List.setIfInBounds_toArray, List.set_cons_zero, List.set_cons_succ]
                first | refine held_run 42 (v := ?_) hHeld7 rfl (by kernel_rfl) (by kernel_rfl) (by kernel_rfl) (fun _ _ _ h => h) (Or.inl ⟨by rfl, ?_⟩) ?_ | fail
                rotate_left
                · first | (intro w hSw; (try dsimp only at hSw); go_simp; with_reducible rfl) | fail
                try simp only [Act.put, List.setIfInBounds_toArray, List.set_cons_zero, List.set_cons_succ]
                refine held_run 43 (v := undef) hHeld7 rfl (by kernel_rfl) (by kernel_rfl) (by kernel_rfl) (fun _ _ _ h => h) (Or.inr ⟨by rfl, rfl⟩) ?_
                try simp only [Act.put, List.setIfInBounds_toArray, List.set_cons_zero, List.set_cons_succ]
                refine held_run 44 (v := undef) hHeld7 rfl (by kernel_rfl) (by kernel_rfl) (by kernel_rfl) (fun _ _ _ h => h) (Or.inr ⟨by rfl, rfl⟩) ?_
                try simp only [Act.put, List.setIfInBounds_toArray, List.set_cons_zero, List.set_cons_succ]
                refine held_run 45 (v := undef) hHeld7 rfl (by kernel_rfl) (by kernel_rfl) (by kernel_rfl) (fun _ _ _ h => h) (Or.inr ⟨by rfl, rfl⟩) ?_
                try simp only [Act.put, List.setIfInBounds_toArray, List.set_cons_zero, List.set_cons_succ]
                first | refine held_run 46 (v := ?_) hHeld7 rfl (by kernel_rfl) (by kernel_rfl) (by kernel_rfl) (fun _ _ _ h => h) (Or.inl ⟨by rfl, ?_⟩) ?_ | fail
                rotate_left
                · first | (intro w hSw; (try dsimp only at hSw); go_simp; with_reducible rfl) | fail
                try simp only [Act.put, List.setIfInBounds_toArray, List.set_cons_zero, List.set_cons_succ]
                first | refine held_run 47 (v := ?_) hHeld7 rfl (by kernel_rfl) (by kernel_rfl) (by kernel_rfl) (fun _ _ _ h => h) (Or.inl ⟨by rfl, ?_⟩) ?_ | fail
                rotate_left
                · first | (intro w hSw; (try dsimp only at hSw); go_simp; with_reducible rfl) | fail
                try simp only [Act.put, List.setIfInBounds_toArray, List.set_cons_zero, List.set_cons_succ]
                first | refine held_run 48 (v := ?_) hHeld7 rfl (by kernel_rfl) (by kernel_rfl) (by kernel_rfl) (fun _ _ _ h => h) (Or.inl ⟨by rfl, ?_⟩) ?_ | fail
                rotate_left
                · first | (intro w hSw; (try dsimp only at hSw); go_simp; with_reducible rfl) | fail
                try simp only [Act.put, List.setIfInBounds_toArray, List.set_cons_zero, List.set_cons_succ]
                refine wpAnyH_done (by kernel_rfl) ?_ _
                go_split_ands
                go_wp2_with fail
                go_roundw
                case rel => exact ⟨q + 1, by omega, by go_num, HBA8.out.bt (by assumption)⟩
                case measure => simp [intOf]; omega
              · obtain ⟨p25, d25⟩ : ∃ b, decide (x.op ≤ 25) = b := ⟨_, rfl⟩
                obtain ⟨p21, d21⟩ : ∃ b, decide (x.op ≤ 21) = b := ⟨_, rfl⟩
                obtain ⟨p9, d9⟩ : ∃ b, decide (x.op ≤ 9) = b := ⟨_, rfl⟩
                have d1 : decide ((1 : Int) ≤ x.op) = true := decide_eq_true (by omega)
                rw [show decide (1 ≤ x.op ∧ x.op ≤ 25) = p25 by rw [← d25]; exact decide_eq_decide.2 ⟨fun h => h.2, fun h => ⟨by omega, h⟩⟩] at HPU
                rw [show decide (3 ≤ x.op ∧ x.op ≤ 21) = p21 by rw [← d21]; exact decide_eq_decide.2 ⟨fun h => h.2, fun h => ⟨by omega, h⟩⟩] at HTW
                have d3 : decide ((3 : Int) ≤ x.op) = true := decide_eq_true (by omega)
                rw [show decide (6 ≤ x.op ∧ x.op ≤ 9) = p9 by rw [← d9]; exact decide_eq_decide.2 ⟨fun h => h.2, fun h => ⟨by omega, h⟩⟩] at HTR
                have d6 : decide ((6 : Int) ≤ x.op) = true := decide_eq_true (by omega)
                clear n1 o1 o2 hsl
                refine wp_region_held_drew (S := (fun w' => (w'.cell? ⟨g9, 0, none⟩ = some (.int .i64 x.op) ∧ w'.cell? ⟨g9, 1, none⟩ = some (.int .i64 x.dst) ∧ w'.cell? ⟨g9, 2, none⟩ = some (.int .i64 x.a.reg) ∧ w'.cell? ⟨g9, 3, none⟩ = some (.int .i64 x.a.num) ∧ w'.cell? ⟨g9, 4, none⟩ = some (.int .i64 x.b.reg) ∧ w'.cell? ⟨g9, 5, none⟩ = some (.int .i64 x.b.num) ∧ w'.cell? ⟨g9, 6, none⟩ = some (.int .i64 x.size) ∧ w'.cell? ⟨g9, 7, none⟩ = some (.bool x.signed) ∧ w'.cell? ⟨g9, 8, none⟩ = some (.bool x.secret) ∧ w'.cell? ⟨g9, 9, none⟩ = some (.int .i64 x.ref) ∧ w'.cell? ⟨g9, 10, none⟩ = some (.int .i64 x.off) ∧ w'.cell? ⟨g9, 11, none⟩ = some (.slice A5 x.args.length cap5)) ∧ Below w9.heap.size w9 w')) (by kernel_rfl) ?_ (fun hHeld => ?_)
                · first | (first | exact xi_step (hb := drew_below _) (h := HS0.out) | exact xi_step (hb := hbc) (h := by first | assumption | (refine ⟨⟨?_, ?_, ?_, ?_, ?_, ?_, ?_, ?_, ?_, ?_, ?_, ?_⟩, ?_⟩ <;> assumption))) | fail
                first | refine held_run 0 (v := ?_) hHeld rfl (by kernel_rfl) (by kernel_rfl) (by kernel_rfl) (fun _ _ _ h => h) (Or.inl ⟨by rfl, ?_⟩) ?_ | fail
                rotate_left
                · first | (intro w hSw; (try dsimp only at hSw); go_simp; with_reducible rfl) | fail
                try simp only [Act.put, List.setIfInBounds_toArray, List.set_cons_zero, List.set_cons_succ]
                first | refine held_run 2 (v := ?_) hHeld rfl (by kernel_rfl) (by kernel_rfl) (by kernel_rfl) (fun _ _ _ h => h) (Or.inl ⟨by rfl, ?_⟩) ?_ | fail
                rotate_left
                · first | (intro w hSw; (try dsimp only at hSw); go_simp; with_reducible rfl) | fail
                try simp only [Act.put, List.setIfInBounds_toArray, List.set_cons_zero, List.set_cons_succ]
                first | refine held_next 1 rfl (by kernel_rfl) (fun K hK => ?_) | fail
                go_simp
                try (go_split_ands; first
                      | (go_at_call 18; refine (HI.out _ (HBA.out.bt (by assumption))).mono ?_; rintro e w2 ⟨v2, rfl, hs2, hbc⟩)
                      | (go_at_call 20; refine (HO.out _ (HBA.out.bt (by assumption))).mono ?_; rintro e w2 ⟨v3, rfl, hs3, hbc⟩; replace hs2 := hs2.later (by decide) hbc)
                      | (go_at_call 19; refine (H8R.out _ _ hs3).mono ?_; rintro e w2 ⟨v4, rfl, hs4, hbc⟩; replace hs2 := hs2.later (by decide) hbc)
                      | (go_at_call 17; refine (like_any _ _ _ _ hs2 hs4).mono ?_; rintro e w2 ⟨rfl, hbc⟩)
                      | (go_at_call 21; refine (HPU.out _).mono ?_; rintro e w2 ⟨rfl, hbe⟩; have hbc := ar_below hbe; clear hbe)
                      | (go_at_call 22; refine (HTW.out _).mono ?_; rintro e w2 ⟨rfl, hbe⟩; have hbc := ar_below hbe; clear hbe)
                      | (go_at_call 23; refine (HTR.out _).mono ?_; rintro e w2 ⟨rfl, hbe⟩; have hbc := ar_below hbe; clear hbe))
                first | refine hK.out _ _ ?_ (fun hHeld1 => ?_) | (go_wp2_with fail; refine hK.out _ _ ?_ (fun hHeld1 => ?_)) | fail
                · first | (first | exact xi_step (hb := drew_below _) (h := HS0.out) | exact xi_step (hb := hbc) (h := by first | assumption | (refine ⟨⟨?_, ?_, ?_, ?_, ?_, ?_, ?_, ?_, ?_, ?_, ?_, ?_⟩, ?_⟩ <;> assumption))) | fail
                clear hK K
                try clear hHeld
                try simp only [Act.put, List.setIfInBounds_toArray, List.set_cons_zero, List.set_cons_succ]
                first | refine held_next 3 rfl (by kernel_rfl) (fun K hK => ?_) | fail
                go_simp
                try (go_split_ands; first
                      | (go_at_call 18; refine (HI.out _ (HBA.out.bt (by assumption))).mono ?_; rintro e w2 ⟨v2, rfl, hs2, hbc⟩)
                      | (go_at_call 20; refine (HO.out _ (HBA.out.bt (by assumption))).mono ?_; rintro e w2 ⟨v3, rfl, hs3, hbc⟩; replace hs2 := hs2.later (by decide) hbc)
                      | (go_at_call 19; refine (H8R.out _ _ hs3).mono ?_; rintro e w2 ⟨v4, rfl, hs4, hbc⟩; replace hs2 := hs2.later (by decide) hbc)
                      | (go_at_call 17; refine (like_any _ _ _ _ hs2 hs4).mono ?_; rintro e w2 ⟨rfl, hbc⟩)
                      | (go_at_call 21; refine (HPU.out _).mono ?_; rintro e w2 ⟨rfl, hbe⟩; have hbc := ar_below hbe; clear hbe)
                      | (go_at_call 22; refine (HTW.out _).mono ?_; rintro e w2 ⟨rfl, hbe⟩; have hbc := ar_below hbe; clear hbe)
                      | (go_at_call 23; refine (HTR.out _).mono ?_; rintro e w2 ⟨rfl, hbe⟩; have hbc := ar_below hbe; clear hbe))
                first | refine hK.out _ _ ?_ (fun hHeld2 => ?_) | (go_wp2_with fail; refine hK.out _ _ ?_ (fun hHeld2 => ?_)) | fail
                · first | (first | exact xi_step (hb := drew_below _) (h := HS0.out) | exact xi_step (hb := hbc) (h := by first | assumption | (refine ⟨⟨?_, ?_, ?_, ?_, ?_, ?_, ?_, ?_, ?_, ?_, ?_, ?_⟩, ?_⟩ <;> assumption))) | fail
                clear hK K
                try clear hHeld1
                try simp only [Act.put, List.setIfInBounds_toArray, List.set_cons_zero, List.set_cons_succ]
                first | refine held_next 4 rfl (by kernel_rfl) (fun K hK => ?_) | fail
                go_simp
                try (go_split_ands; first
                      | (go_at_call 18; refine (HI.out _ (HBA.out.bt (by assumption))).mono ?_; rintro e w2 ⟨v2, rfl, hs2, hbc⟩)
                      | (go_at_call 20; refine (HO.out _ (HBA.out.bt (by assumption))).mono ?_; rintro e w2 ⟨v3, rfl, hs3, hbc⟩; replace hs2 := hs2.later (by decide) hbc)
                      | (go_at_call 19; refine (H8R.out _ _ hs3).mono ?_; rintro e w2 ⟨v4, rfl, hs4, hbc⟩; replace hs2 := hs2.later (by decide) hbc)
                      | (go_at_call 17; refine (like_any _ _ _ _ hs2 hs4).mono ?_; rintro e w2 ⟨rfl, hbc⟩)
                      | (go_at_call 21; refine (HPU.out _).mono ?_; rintro e w2 ⟨rfl, hbe⟩; have hbc := ar_below hbe; clear hbe)
                      | (go_at_call 22; refine (HTW.out _).mono ?_; rintro e w2 ⟨rfl, hbe⟩; have hbc := ar_below hbe; clear hbe)
                      | (go_at_call 23; refine (HTR.out _).mono ?_; rintro e w2 ⟨rfl, hbe⟩; have hbc := ar_below hbe; clear hbe))
                first | refine hK.out _ _ ?_ (fun hHeld3 => ?_) | (go_wp2_with fail; refine hK.out _ _ ?_ (fun hHeld3 => ?_)) | fail
                · first | (first | exact xi_step (hb := drew_below _) (h := HS0.out) | exact xi_step (hb := hbc) (h := by first | assumption | (refine ⟨⟨?_, ?_, ?_, ?_, ?_, ?_, ?_, ?_, ?_, ?_, ?_, ?_⟩, ?_⟩ <;> assumption))) | fail
                clear hK K
                try clear hHeld2
                try simp only [Act.put, List.setIfInBounds_toArray, List.set_cons_zero, List.set_cons_succ]
                first | refine held_next 5 rfl (by kernel_rfl) (fun K hK => ?_) | fail
                go_simp
                try (go_split_ands; first
                      | (go_at_call 18; refine (HI.out _ (HBA.out.bt (by assumption))).mono ?_; rintro e w2 ⟨v2, rfl, hs2, hbc⟩)
                      | (go_at_call 20; refine (HO.out _ (HBA.out.bt (by assumption))).mono ?_; rintro e w2 ⟨v3, rfl, hs3, hbc⟩; replace hs2 := hs2.later (by decide) hbc)
                      | (go_at_call 19; refine (H8R.out _ _ hs3).mono ?_; rintro e w2 ⟨v4, rfl, hs4, hbc⟩; replace hs2 := hs2.later (by decide) hbc)
                      | (go_at_call 17; refine (like_any _ _ _ _ hs2 hs4).mono ?_; rintro e w2 ⟨rfl, hbc⟩)
                      | (go_at_call 21; refine (HPU.out _).mono ?_; rintro e w2 ⟨rfl, hbe⟩; have hbc := ar_below hbe; clear hbe)
                      | (go_at_call 22; refine (HTW.out _).mono ?_; rintro e w2 ⟨rfl, hbe⟩; have hbc := ar_below hbe; clear hbe)
                      | (go_at_call 23; refine (HTR.out _).mono ?_; rintro e w2 ⟨rfl, hbe⟩; have hbc := ar_below hbe; clear hbe))
                first | refine hK.out _ _ ?_ (fun hHeld4 => ?_) | (go_wp2_with fail; refine hK.out _ _ ?_ (fun hHeld4 => ?_)) | fail
                · first | (first | exact xi_step (hb := drew_below _) (h := HS0.out) | exact xi_step (hb := hbc) (h := by first | assumption | (refine ⟨⟨?_, ?_, ?_, ?_, ?_, ?_, ?_, ?_, ?_, ?_, ?_, ?_⟩, ?_⟩ <;> assumption))) | fail
                clear hK K
                try clear hHeld3
                try simp only [Act.put, List.setIfInBounds_toArray, List.set_cons_zero, List.set_cons_succ]
                first | refine held_run 6 (v := ?_) hHeld4 rfl (by kernel_rfl) (by kernel_rfl) (by kernel_rfl) (fun _ _ _ h => h) (Or.inl ⟨by rfl, ?_⟩) ?_ | fail
                rotate_left
                · first | (intro w hSw; (try dsimp only at hSw); go_simp; with_reducible rfl) | fail
                try simp only [Act.put, List.setIfInBounds_toArray, List.set_cons_zero, List.set_cons_succ]
                first | refine held_run 7 (v := ?_) hHeld4 rfl (by kernel_rfl) (by kernel_rfl) (by kernel_rfl) (fun _ _ _ h => h) (Or.inl ⟨by rfl, ?_⟩) ?_ | fail
                rotate_left
                · first | (intro w hSw; (try dsimp only at hSw); go_simp; with_reducible rfl) | fail
                try simp only [Act.put, List.setIfInBounds_toArray, List.set_cons_zero, List.set_cons_succ]
                first | refine held_run 8 (v := ?_) hHeld4 rfl (by kernel_rfl) (by kernel_rfl) (by kernel_rfl) (fun _ _ _ h => h) (Or.inl ⟨by rfl, ?_⟩) ?_ | fail
                rotate_left
                · first | (intro w hSw; (try dsimp only at hSw); go_simp; with_reducible rfl) | fail
                try simp only [Act.put, List.setIfInBounds_toArray, List.set_cons_zero, List.set_cons_succ]
                first | refine held_run 9 (v := ?_) hHeld4 rfl (by kernel_rfl) (by kernel_rfl) (by kernel_rfl) (fun _ _ _ h => h) (Or.inl ⟨by rfl, ?_⟩) ?_ | fail
                rotate_left
                · first | (intro w hSw; (try dsimp only at hSw); go_simp; with_reducible rfl) | fail
                try simp only [Act.put, List.setIfInBounds_toArray, List.set_cons_zero, List.set_cons_succ]
                first | refine held_run 11 (v := ?_) hHeld4 rfl (by kernel_rfl) (by kernel_rfl) (by kernel_rfl) (fun _ _ _ h => h) (Or.inl ⟨by rfl, ?_⟩) ?_ | fail
                rotate_left
                · first | (intro w hSw; (try dsimp only at hSw); go_simp; with_reducible rfl) | fail
                try simp only [Act.put, List.setIfInBounds_toArray, List.set_cons_zero, List.set_cons_succ]
                first | refine held_run 12 (v := ?_) hHeld4 rfl (by kernel_rfl) (by kernel_rfl) (by kernel_rfl) (fun _ _ _ h => h) (Or.inl ⟨by rfl, ?_⟩) ?_ | fail
                rotate_left
                · first | (intro w hSw; (try dsimp only at hSw); go_simp; with_reducible rfl) | fail
                try simp only [Act.put, List.setIfInBounds_toArray, List.set_cons_zero, List.set_cons_succ]
                first | refine held_run 13 (v := ?_) hHeld4 rfl (by kernel_rfl) (by kernel_rfl) (by kernel_rfl) (fun _ _ _ h => h) (Or.inl ⟨by rfl, ?_⟩) ?_ | fail
                rotate_left
                · first | (intro w hSw; (try dsimp only at hSw); go_simp; with_reducible rfl) | fail
                try simp only [Act.put, List.setIfInBounds_toArray, List.set_cons_zero, List.set_cons_succ]
                first | refine held_next 10 rfl (by kernel_rfl) (fun K hK => ?_) | fail
                go_simp
                try (go_split_ands; first
                      | (go_at_call 18; refine (HI.out _ (HBA.out.bt (by assumption))).mono ?_; rintro e w2 ⟨v2, rfl, hs2, hbc⟩)
                      | (go_at_call 20; refine (HO.out _ (HBA.out.bt (by assumption))).mono ?_; rintro e w2 ⟨v3, rfl, hs3, hbc⟩; replace hs2 := hs2.later (by decide) hbc)
                      | (go_at_call 19; refine (H8R.out _ _ hs3).mono ?_; rintro e w2 ⟨v4, rfl, hs4, hbc⟩; replace hs2 := hs2.later (by decide) hbc)
                      | (go_at_call 17; refine (like_any _ _ _ _ hs2 hs4).mono ?_; rintro e w2 ⟨rfl, hbc⟩)
                      | (go_at_call 21; refine (HPU.out _).mono ?_; rintro e w2 ⟨rfl, hbe⟩; have hbc := ar_below hbe; clear hbe)
                      | (go_at_call 22; refine (HTW.out _).mono ?_; rintro e w2 ⟨rfl, hbe⟩; have hbc := ar_below hbe; clear hbe)
                      | (go_at_call 23; refine (HTR.out _).mono ?_; rintro e w2 ⟨rfl, hbe⟩; have hbc := ar_below hbe; clear hbe))
                first | refine hK.out _ _ ?_ (fun hHeld5 => ?_) | (go_wp2_with fail; refine hK.out _ _ ?_ (fun hHeld5 => ?_)) | fail
                · first | (first | exact xi_step (hb := drew_below _) (h := HS0.out) | exact xi_step (hb := hbc) (h := by first | assumption | (refine ⟨⟨?_, ?_, ?_, ?_, ?_, ?_, ?_, ?_, ?_, ?_, ?_, ?_⟩, ?_⟩ <;> assumption))) | fail
                clear hK K
                try clear hHeld4
                try simp only [Act.put, List.setIfInBounds_toArray, List.set_cons_zero, List.set_cons_succ]
                first | refine held_run 14 (v := ?_) hHeld5 rfl (by kernel_rfl) (by kernel_rfl) (by kernel_rfl) (fun _ _ _ h => h) (Or.inl ⟨by rfl, ?_⟩) ?_ | fail
                rotate_left
                · first | (intro w hSw; (try dsimp only at hSw); go_simp; with_reducible rfl) | fail
                try simp only [Act.put, List.setIfInBounds_toArray, List.set_cons_zero, List.set_cons_succ]
                first | refine held_run 15 (v := ?_) hHeld5 rfl (by kernel_rfl) (by kernel_rfl) (by kernel_rfl) (fun _ _ _ h => h) (Or.inl ⟨by rfl, ?_⟩) ?_ | fail
                rotate_left
                · first | (intro w hSw; (try dsimp only at hSw); go_simp; with_reducible rfl) | fail
                try simp only [Act.put, List.setIfInBounds_toArray, List.set_cons_zero, List.set_cons_succ]
                first | refine held_run 16 (v := ?_) hHeld5 rfl (by kernel_rfl) (by kernel_rfl) (by kernel_rfl) (fun _ _ _ h => h) (Or.inl ⟨by rfl, ?_⟩) ?_ | fail
                rotate_left
                · first | (intro w hSw; (try dsimp only at hSw); go_simp; with_reducible rfl) | fail
                try simp only [Act.put, List.setIfInBounds_toArray, List.set_cons_zero, List.set_cons_succ]
                first | refine held_run 17 (v := ?_) hHeld5 rfl (by kernel_rfl) (by kernel_rfl) (by kernel_rfl) (fun _ _ _ h => h) (Or.inl ⟨by rfl, ?_⟩) ?_ | fail
                rotate_left
                · first | (intro w hSw; (try dsimp only at hSw); go_simp; with_reducible rfl) | fail
                try simp only [Act.put, List.setIfInBounds_toArray, List.set_cons_zero, List.set_cons_succ]
                first | refine held_run 18 (v := ?_) hHeld5 rfl (by kernel_rfl) (by kernel_rfl) (by kernel_rfl) (fun _ _ _ h => h) (Or.inl ⟨by rfl, ?_⟩) ?_ | fail
                rotate_left
                · first | (intro w hSw; (try dsimp only at hSw); go_simp; with_reducible rfl) | fail
                try simp only [Act.put, List.setIfInBounds_toArray, List.set_cons_zero, List.set_cons_succ]
                first | refine held_run 19 (v := ?_) hHeld5 rfl (by kernel_rfl) (by kernel_rfl) (by kernel_rfl) (fun _ _ _ h => h) (Or.inl ⟨by rfl, ?_⟩) ?_ | fail
                rotate_left
                · first | (intro w hSw; (try dsimp only at hSw); go_simp; with_reducible rfl) | fail
                try simp only [Act.put, List.setIfInBounds_toArray, List.set_cons_zero, List.set_cons_succ]
                first | refine held_run 20 (v := ?_) hHeld5 rfl (by kernel_rfl) (by kernel_rfl) (by kernel_rfl) (fun _ _ _ h => h) (Or.inl ⟨by rfl, ?_⟩) ?_ | fail
                rotate_left
                · first | (intro w hSw; (try dsimp only at hSw); go_simp; with_reducible rfl) | fail
                try simp only [Act.put, List.setIfInBounds_toArray, List.set_cons_zero, List.set_cons_succ]
                first | refine held_run 21 (v := ?_) hHeld5 rfl (by kernel_rfl) (by kernel_rfl) (by kernel_rfl) (fun _ _ _ h => h) (Or.inl ⟨by rfl, ?_⟩) ?_ | fail
                rotate_left
                · first | (intro w hSw; (try dsimp only at hSw); go_simp; with_reducible rfl) | fail
                try simp only [Act.put, List.setIfInBounds_toArray, List.set_cons_zero, List.set_cons_succ]
                first | refine held_run 22 (v := ?_) hHeld5 rfl (by kernel_rfl) (by kernel_rfl) (by kernel_rfl) (fun _ _ _ h => h) (Or.inl ⟨by rfl, ?_⟩) ?_ | fail
                rotate_left
                · first | (intro w hSw; (try dsimp only at hSw); go_simp; with_reducible rfl) | fail
                try simp only [Act.put, List.setIfInBounds_toArray, List.set_cons_zero, List.set_cons_succ]
                first | refine held_run 23 (v := ?_) hHeld5 rfl (by kernel_rfl) (by kernel_rfl) (by kernel_rfl) (fun _ _ _ h => h) (Or.inl ⟨by rfl, ?_⟩) ?_ | fail
                rotate_left
                · first | (intro w hSw; (try dsimp only at hSw); go_simp; with_reducible rfl) | fail
                try simp only [Act.put, List.setIfInBounds_toArray, List.set_cons_zero, List.set_cons_succ]
                first | refine held_run 25 (v := ?_) hHeld5 rfl (by kernel_rfl) (by kernel_rfl) (by kernel_rfl) (fun _ _ _ h => h) (Or.inl ⟨by rfl, ?_⟩) ?_ | fail
                rotate_left
                · first | (intro w hSw; (try dsimp only at hSw); go_simp; with_reducible rfl) | fail
                try simp only [Act.put, List.setIfInBounds_toArray, List.set_cons_zero, List.set_cons_succ]
                first | refine held_run 26 (v := ?_) hHeld5 rfl (by kernel_rfl) (by kernel_rfl) (by kernel_rfl) (fun _ _ _ h => h) (Or.inl ⟨by rfl, ?_⟩) ?_ | fail
                rotate_left
                · first | (intro w hSw; (try dsimp only at hSw); go_simp; with_reducible rfl) | fail
                try simp only [Act.put, List.setIfInBounds_toArray, List.set_cons_zero, List.set_cons_succ]
                first | refine held_run 27 (v := ?_) hHeld5 rfl (by kernel_rfl) (by kernel_rfl) (by kernel_rfl) (fun _ _ _ h => h) (Or.inl ⟨by rfl, ?_⟩) ?_ | fail
                rotate_left
                · first | (intro w hSw; (try dsimp only at hSw); go_simp; with_reducible rfl) | fail
                try simp only [Act.put, List.setIfInBounds_toArray, List.set_cons_zero, List.set_cons_succ]
                first | refine held_next 24 rfl (by kernel_rfl) (fun K hK => ?_) | fail
                go_simp
                try (go_split_ands; first
                      | (go_at_call 18; refine (HI.out _ (HBA.out.bt (by assumption))).mono ?_; rintro e w2 ⟨v2, rfl, hs2, hbc⟩)
                      | (go_at_call 20; refine (HO.out _ (HBA.out.bt (by assumption))).mono ?_; rintro e w2 ⟨v3, rfl, hs3, hbc⟩; replace hs2 := hs2.later (by decide) hbc)
                      | (go_at_call 19; refine (H8R.out _ _ hs3).mono ?_; rintro e w2 ⟨v4, rfl, hs4, hbc⟩; replace hs2 := hs2.later (by decide) hbc)
                      | (go_at_call 17; refine (like_any _ _ _ _ hs2 hs4).mono ?_; rintro e w2 ⟨rfl, hbc⟩)
                      | (go_at_call 21; refine (HPU.out _).mono ?_; rintro e w2 ⟨rfl, hbe⟩; have hbc := ar_below hbe; clear hbe)
                      | (go_at_call 22; refine (HTW.out _).mono ?_; rintro e w2 ⟨rfl, hbe⟩; have hbc := ar_below hbe; clear hbe)
                      | (go_at_call 23; refine (HTR.out _).mono ?_; rintro e w2 ⟨rfl, hbe⟩; have hbc := ar_below hbe; clear hbe))
                first | refine hK.out _ _ ?_ (fun hHeld6 => ?_) | (go_wp2_with fail; refine hK.out _ _ ?_ (fun hHeld6 => ?_)) | fail
                · first | (first | exact xi_step (hb := drew_below _) (h := HS0.out) | exact xi_step (hb := hbc) (h := by first | assumption | (refine ⟨⟨?_, ?_, ?_, ?_, ?_, ?_, ?_, ?_, ?_, ?_, ?_, ?_⟩, ?_⟩ <;> assumption))) | fail
                clear hK K
                try clear hHeld5
                try simp only [Act.put, List.setIfInBounds_toArray, List.set_cons_zero, List.set_cons_succ]
                first | refine held_run 28 (v := ?_) hHeld6 rfl (by kernel_rfl) (by kernel_rfl) (by kernel_rfl) (fun _ _ _ h => h) (Or.inl ⟨by rfl, ?_⟩) ?_ | fail
                rotate_left
                · first | (intro w hSw; (try dsimp only at hSw); go_simp; with_reducible rfl) | fail
                try simp only [Act.put, List.setIfInBounds_toArray, List.set_cons_zero, List.set_cons_succ]
                first | refine held_run 29 (v := ?_) hHeld6 rfl (by kernel_rfl) (by kernel_rfl) (by kernel_rfl) (fun _ _ _ h => h) (Or.inl ⟨by rfl, ?_⟩) ?_ | fail
                rotate_left
                · first | (intro w hSw; (try dsimp only at hSw); go_simp; with_reducible rfl) | fail
                try simp only [Act.put, List.setIfInBounds_toArray, List.set_cons_zero, List.set_cons_succ]
                first | refine held_run 30 (v := ?_) hHeld6 rfl (by kernel_rfl) (by kernel_rfl) (by kernel_rfl) (fun _ _ _ h => h) (Or.inl ⟨by rfl, ?_⟩) ?_ | fail
                rotate_left
                · first | (intro w hSw; (try dsimp only at hSw); go_simp; with_reducible rfl) | fail
                try simp only [Act.put, List.setIfInBounds_toArray, List.set_cons_zero, List.set_cons_succ]
                first | refine held_run 31 (v := ?_) hHeld6 rfl (by kernel_rfl) (by kernel_rfl) (by kernel_rfl) (fun _ _ _ h => h) (Or.inl ⟨by rfl, ?_⟩) ?_ | fail
                rotate_left
                · first | (intro w hSw; (try dsimp only at hSw); go_simp; with_reducible rfl) | fail
                try simp only [Act.put, List.setIfInBounds_toArray, List.set_cons_zero, List.set_cons_succ]
                first | refine held_run 32 (v := ?_) hHeld6 rfl (by kernel_rfl) (by kernel_rfl) (by kernel_rfl) (fun _ _ _ h => h) (Or.inl ⟨by rfl, ?_⟩) ?_ | fail
                rotate_left
                · first | (intro w hSw; (try dsimp only at hSw); go_simp; with_reducible rfl) | fail
                try simp only [Act.put, List.setIfInBounds_toArray, List.set_cons_zero, List.set_cons_succ]
                first | refine held_run 33 (v := ?_) hHeld6 rfl (by kernel_rfl) (by kernel_rfl) (by kernel_rfl) (fun _ _ _ h => h) (Or.inl ⟨by rfl, ?_⟩) ?_ | fail
                rotate_left
                · first | (intro w hSw; (try dsimp only at hSw); go_simp; with_reducible rfl) | fail
                try simp only [Act.put, List.setIfInBounds_toArray, List.set_cons_zero, List.set_cons_succ]
                first | refine held_run 34 (v := ?_) hHeld6 rfl (by kernel_rfl) (by kernel_rfl) (by kernel_rfl) (fun _ _ _ h => h) (Or.inl ⟨by rfl, ?_⟩) ?_ | fail
                rotate_left
                · first | (intro w hSw; (try dsimp only at hSw); go_simp; with_reducible rfl) | fail
                try simp only [Act.put, List.setIfInBounds_toArray, List.set_cons_zero, List.set_cons_succ]
                first | refine held_run 35 (v := ?_) hHeld6 rfl (by kernel_rfl) (by kernel_rfl) (by kernel_rfl) (fun _ _ _ h => h) (Or.inl ⟨by rfl, ?_⟩) ?_ | fail
                rotate_left
                · first | (intro w hSw; (try dsimp only at hSw); go_simp; with_reducible rfl) | fail
                try simp only [Act.put, List.setIfInBounds_toArray, List.set_cons_zero, List.set_cons_succ]
                first | refine held_run 36 (v := ?_) hHeld6 rfl (by kernel_rfl) (by kernel_rfl) (by kernel_rfl) (fun _ _ _ h => h) (Or.inl ⟨by rfl, ?_⟩) ?_ | fail
                rotate_left
                · first | (intro w hSw; (try dsimp only at hSw); go_simp; with_reducible rfl) | fail
                try simp only [Act.put, List.setIfInBounds_toArray, List.set_cons_zero, List.set_cons_succ]
                first | refine held_run 37 (v := ?_) hHeld6 rfl (by kernel_rfl) (by kernel_rfl) (by kernel_rfl) (fun _ _ _ h => h) (Or.inl ⟨by rfl, ?_⟩) ?_ | fail
                rotate_left
                · first | (intro w hSw; (try dsimp only at hSw); go_simp; with_reducible rfl) | fail
                try simp only [Act.put, List.setIfInBounds_toArray, List.set_cons_zero, List.set_cons_succ]
                first | refine held_run 39 (v := ?_) hHeld6 rfl (by kernel_rfl) (by kernel_rfl) (by kernel_rfl) (fun _ _ _ h => h) (Or.inl ⟨by rfl, ?_⟩) ?_ | fail
                rotate_left
                · first | (intro w hSw; (try dsimp only at hSw); go_simp; with_reducible rfl) | fail
                try simp only [Act.put, List.setIfInBounds_toArray, List.set_cons_zero, List.set_cons_succ]
                first | refine held_run 40 (v := ?_) hHeld6 rfl (by kernel_rfl) (by kernel_rfl) (by kernel_rfl) (fun _ _ _ h => h) (Or.inl ⟨by rfl, ?_⟩) ?_ | fail
                rotate_left
                · first | (intro w hSw; (try dsimp only at hSw); go_simp; with_reducible rfl) | fail
                try simp only [Act.put, List.setIfInBounds_toArray, List.set_cons_zero, List.set_cons_succ]
                first | refine held_run 41 (v := ?_) hHeld6 rfl (by kernel_rfl) (by kernel_rfl) (by kernel_rfl) (fun _ _ _ h => h) (Or.inl ⟨by rfl, ?_⟩) ?_ | fail
                rotate_left
                · first | (intro w hSw; (try dsimp only at hSw); go_simp; with_reducible rfl) | fail
                try simp only [Act.put, List.setIfInBounds_toArray, List.set_cons_zero, List.set_cons_succ]
                first | refine held_next 38 rfl (by kernel_rfl) (fun K hK => ?_) | fail
                go_simp
                try (go_split_ands; first
                      | (go_at_call 18; refine (HI.out _ (HBA.out.bt (by assumption))).mono ?_; rintro e w2 ⟨v2, rfl, hs2, hbc⟩)
                      | (go_at_call 20; refine (HO.out _ (HBA.out.bt (by assumption))).mono ?_; rintro e w2 ⟨v3, rfl, hs3, hbc⟩; replace hs2 := hs2.later (by decide) hbc)
                      | (go_at_call 19; refine (H8R.out _ _ hs3).mono ?_; rintro e w2 ⟨v4, rfl, hs4, hbc⟩; replace hs2 := hs2.later (by decide) hbc)
                      | (go_at_call 17; refine (like_any _ _ _ _ hs2 hs4).mono ?_; rintro e w2 ⟨rfl, hbc⟩)
                      | (go_at_call 21; refine (HPU.out _).mono ?_; rintro e w2 ⟨rfl, hbe⟩; have hbc := ar_below hbe; clear hbe)
                      | (go_at_call 22; refine (HTW.out _).mono ?_; rintro e w2 ⟨rfl, hbe⟩; have hbc := ar_below hbe; clear hbe)
                      | (go_at_call 23; refine (HTR.out _).mono ?_; rintro e w2 ⟨rfl, hbe⟩; have hbc := ar_below hbe; clear hbe))
                first | refine hK.out _ _ ?_ (fun hHeld7 => ?_) | (go_wp2_with fail; refine hK.out _ _ ?_ (fun hHeld7 => ?_)) | fail
                · first | (first | exact xi_step (hb := drew_below _) (h := HS0.out) | exact xi_step (hb := hbc) (h := by first | assumption | (refine ⟨⟨?_, ?_, ?_, ?_, ?_, ?_, ?_, ?_, ?_, ?_, ?_, ?_⟩, ?_⟩ <;> assumption))) | fail
                clear hK K
                try clear hHeld6
                try simp only [Act.put, List.setIfInBounds_toArray, List.set_cons_zero, List.set_cons_succ]
                first | refine held_run 42 (v := ?_) hHeld7 rfl (by kernel_rfl) (by kernel_rfl) (by kernel_rfl) (fun _ _ _ h => h) (Or.inl ⟨by rfl, ?_⟩) ?_ | fail
                rotate_left
                · first | (intro w hSw; (try dsimp only at hSw); go_simp; with_reducible rfl) | fail
                try simp only [Act.put, List.setIfInBounds_toArray, List.set_cons_zero, List.set_cons_succ]
                first | refine held_run 43 (v := ?_) hHeld7 rfl (by kernel_rfl) (by kernel_rfl) (by kernel_rfl) (fun _ _ _ h => h) (Or.inl ⟨by rfl, ?_⟩) ?_ | fail
                rotate_left
                · first | (intro w hSw; (try dsimp only at hSw); go_simp; with_reducible rfl) | fail
                try simp only [Act.put, List.setIfInBounds_toArray, List.set_cons_zero, List.set_cons_succ]
                first | refine held_run 44 (v := ?_) hHeld7 rfl (by kernel_rfl) (by kernel_rfl) (by kernel_rfl) (fun _ _ _ h => h) (Or.inl ⟨by rfl, ?_⟩) ?_ | fail
                rotate_left
                · first | (intro w hSw; (try dsimp only at hSw); go_simp; with_reducible rfl) | fail
                try simp only [Act.put, List.setIfInBounds_toArray, List.set_cons_zero, List.set_cons_succ]
                first | refine held_run 45 (v := ?_) hHeld7 rfl (by kernel_rfl) (by kernel_rfl) (by kernel_rfl) (fun _ _ _ h => h) (Or.inl ⟨by rfl, ?_⟩) ?_ | fail
                rotate_left
                · first | (intro w hSw; (try dsimp only at hSw); go_simp; with_reducible rfl) | fail
                try simp only [Act.put, List.setIfInBounds_toArray, List.set_cons_zero, List.set_cons_succ]
                first | refine held_run 46 (v := ?_) hHeld7 rfl (by kernel_rfl) (by kernel_rfl) (by kernel_rfl) (fun _ _ _ h => h) (Or.inl ⟨by rfl, ?_⟩) ?_ | fail
                rotate_left
                · first | (intro w hSw; (try dsimp only at hSw); go_simp; with_reducible rfl) | fail
                try simp only [Act.put, List.setIfInBounds_toArray, List.set_cons_zero, List.set_cons_succ]
                first | refine held_run 47 (v := ?_) hHeld7 rfl (by kernel_rfl) (by kernel_rfl) (by kernel_rfl) (fun _ _ _ h => h) (Or.inl ⟨by rfl, ?_⟩) ?_ | fail
                rotate_left
                · first | (intro w hSw; (try dsimp only at hSw); go_simp; with_reducible rfl) | fail
                try simp only [Act.put, List.setIfInBounds_toArray, List.set_cons_zero, List.set_cons_succ]
                first | refine held_run 48 (v := ?_) hHeld7 rfl (by kernel_rfl) (by kernel_rfl) (by kernel_rfl) (fun _ _ _ h => h) (Or.inl ⟨by rfl, ?_⟩) ?_ | fail
                rotate_left
                · first | (intro w hSw; (try dsimp only at hSw); go_simp; with_reducible rfl) | fail
                try simp only [Act.put, List.setIfInBounds_toArray, List.set_cons_zero, List.set_cons_succ]
                refine wpAnyH_done (by kernel_rfl) ?_ _
                go_split_ands
                go_wp2_with fail
                go_roundw
                case rel => exact ⟨q + 1, by omega, by go_num, HBA8.out.bt (by assumption)⟩
                case measure => simp [intOf]; omega
            · have e : q = k1.ins.length := by omega
              subst e
              have r1 := later (HBB.out 1 _ rfl) HB89.out
              have r2 := later (HBB.out 2 _ rfl) HB89.out
              have r3 := later (HBB.out 3 _ rfl) HB89.out
              have r4 := later (HBB.out 4 _ rfl) HB89.out
              have r5 := later (HBB.out 5 _ rfl) HB89.out
              have r6 := later (HBB.out 6 _ rfl) HB89.out
              have r7 := later (HBB.out 7 _ rfl) HB89.out
              have r8 := later (HBB.out 8 _ rfl) HB89.out
              obtain ⟨tk1, tk2, _⟩ := HBO.out.2
              have hlb := World.block_lt_of_cell? _ _ r1
              go_wp2_with fail
              have HBA := Lib.hid (below_alloc (.cells #[.int .i64 k1.term.kind, .int .i64 k1.term.op, .int .i64 k1.term.a.reg, .int .i64 k1.term.a.num, .int .i64 k1.term.b.reg, .int .i64 k1.term.b.num, .int .i64 k1.term.to_, .int .i64 k1.term.els] 49) HB9.out)
              have HBI := Lib.hid (block_box wr #[.int .i64 k1.term.kind, .int .i64 k1.term.op, .int .i64 k1.term.a.reg, .int .i64 k1.term.a.num, .int .i64 k1.term.b.reg, .int .i64 k1.term.b.num, .int .i64 k1.term.to_, .int .i64 k1.term.els] 49)
              clear r1 r2 r3 r4 r5 r6 r7 r8 hlb HB9 HB89
              have htt := HT.out
              obtain ⟨g9, hg9⟩ : ∃ g9, g9 = wr.heap.size := ⟨_, rfl⟩
              obtain ⟨w9, hw9⟩ : ∃ w9, w9 = wr.alloc (.cells #[.int .i64 k1.term.kind, .int .i64 k1.term.op, .int .i64 k1.term.a.reg, .int .i64 k1.term.a.num, .int .i64 k1.term.b.reg, .int .i64 k1.term.b.num, .int .i64 k1.term.to_, .int .i64 k1.term.els] 49) := ⟨_, rfl⟩
              rw [← hw9] at HBA HBI ⊢
              rw [← hg9] at HBI ⊢
              clear hw9 hg9
              have HS0 := Lib.hid (show (w9.cell? ⟨g9, 0, none⟩ = some (.int .i64 k1.term.kind) ∧ w9.cell? ⟨g9, 1, none⟩ = some (.int .i64 k1.term.op) ∧ w9.cell? ⟨g9, 2, none⟩ = some (.int .i64 k1.term.a.reg) ∧ w9.cell? ⟨g9, 3, none⟩ = some (.int .i64 k1.term.a.num) ∧ w9.cell? ⟨g9, 4, none⟩ = some (.int .i64 k1.term.b.reg) ∧ w9.cell? ⟨g9, 5, none⟩ = some (.int .i64 k1.term.b.num) ∧ w9.cell? ⟨g9, 6, none⟩ = some (.int .i64 k1.term.to_) ∧ w9.cell? ⟨g9, 7, none⟩ = some (.int .i64 k1.term.els)) ∧ Below w9.heap.size w9 w9 from ⟨⟨HBI.out 0 _ rfl, HBI.out 1 _ rfl, HBI.out 2 _ rfl, HBI.out 3 _ rfl, HBI.out 4 _ rfl, HBI.out 5 _ rfl, HBI.out 6 _ rfl, HBI.out 7 _ rfl⟩, Below.refl _ _⟩)
              have HTD := Lib.hid (fun w' => treads_any w' k1.term ⟨htt.2.1, htt.2.2.1⟩ ⟨htt.2.2.2.1, htt.2.2.2.2.1⟩)
              have HNX := Lib.hid (fun w' => next_any w' k1.term htt.2.2.2.2.2.1 htt.2.2.2.2.2.2)
              have hkc : k1.term.kind = 1 ∨ k1.term.kind = 2 ∨ k1.term.kind = 3 := by omega
              clear tk1 tk2
              rcases hkc with hk1 | hk1 | hk1
              · rw [show readsT k1.term = [] by simp [readsT, hk1]] at HTD
                rw [show nextT k1.term = [k1.term.to_] by simp [nextT, hk1]] at HNX
                have HK := Lib.hid hk1
                clear hk1 htt
                first | (go_region_held3 (fun w' => (w'.cell? ⟨g9, 0, none⟩ = some (.int .i64 k1.term.kind) ∧ w'.cell? ⟨g9, 1, none⟩ = some (.int .i64 k1.term.op) ∧ w'.cell? ⟨g9, 2, none⟩ = some (.int .i64 k1.term.a.reg) ∧ w'.cell? ⟨g9, 3, none⟩ = some (.int .i64 k1.term.a.num) ∧ w'.cell? ⟨g9, 4, none⟩ = some (.int .i64 k1.term.b.reg) ∧ w'.cell? ⟨g9, 5, none⟩ = some (.int .i64 k1.term.b.num) ∧ w'.cell? ⟨g9, 6, none⟩ = some (.int .i64 k1.term.to_) ∧ w'.cell? ⟨g9, 7, none⟩ = some (.int .i64 k1.term.els)) ∧ Below w9.heap.size w9 w')
                  (first | exact xt_step (hb := drew_below _) (h := HS0.out) | exact xt_step (hb := hbc) (h := by first | assumption | (refine ⟨⟨?_, ?_, ?_, ?_, ?_, ?_, ?_, ?_⟩, ?_⟩ <;> assumption)))
                  ((go_split_ands; first
                    | (go_at_call 24; refine (HTD.out _).mono ?_; rintro e w2 ⟨v2, rfl, hs2, hbc⟩)
                    | (go_at_call 25; refine (HNX.out _).mono ?_; rintro e w2 ⟨v3, rfl, hs3, hbc⟩; replace hs2 := hs2.later (by decide) hbc)))) | fail
                go_split_ands
                obtain ⟨A3, c3, rfl, _, m3, i3⟩ := id hs2
                obtain ⟨A4, c4, rfl, _, m4, i4⟩ := id hs3
                have hk1 := HK.out
                have HW2 := Lib.hid (HBA.out.bt (by assumption))
                have HSS := Lib.hid (fun w' (hb : Below w2.heap.size w2 w') => hs2.later (by decide) hb)
                obtain ⟨b4, o4, cs4, rfl, e1, e2, e3, _⟩ := i4 0 _ rfl
                subst e3
                have n0 := e2 0 (by omega)
                simp only [Nat.zero_mul, Nat.add_zero] at n0
                replace n0 : w2.cell? ⟨b4, o4, none⟩ = some (.int .i64 k1.term.to_) := n0
                clear i3 i4 e1 e2 hs2 hs3
                go_wp2_with fail
                clear hk1
                go_quiet (fail)
                go_wp2_with fail
                go_roundw
                case rel => exact ⟨j + 1, by omega, by go_num, below_drewN HW2.out _⟩
                case measure => simp [intOf]; omega
              · rw [show readsT k1.term = [k1.term.a, k1.term.b] by simp [readsT, hk1]] at HTD
                rw [show nextT k1.term = [k1.term.to_, k1.term.els] by simp [nextT, hk1]] at HNX
                have HK := Lib.hid hk1
                clear hk1 htt
                first | (go_region_held3 (fun w' => (w'.cell? ⟨g9, 0, none⟩ = some (.int .i64 k1.term.kind) ∧ w'.cell? ⟨g9, 1, none⟩ = some (.int .i64 k1.term.op) ∧ w'.cell? ⟨g9, 2, none⟩ = some (.int .i64 k1.term.a.reg) ∧ w'.cell? ⟨g9, 3, none⟩ = some (.int .i64 k1.term.a.num) ∧ w'.cell? ⟨g9, 4, none⟩ = some (.int .i64 k1.term.b.reg) ∧ w'.cell? ⟨g9, 5, none⟩ = some (.int .i64 k1.term.b.num) ∧ w'.cell? ⟨g9, 6, none⟩ = some (.int .i64 k1.term.to_) ∧ w'.cell? ⟨g9, 7, none⟩ = some (.int .i64 k1.term.els)) ∧ Below w9.heap.size w9 w')
                  (first | exact xt_step (hb := drew_below _) (h := HS0.out) | exact xt_step (hb := hbc) (h := by first | assumption | (refine ⟨⟨?_, ?_, ?_, ?_, ?_, ?_, ?_, ?_⟩, ?_⟩ <;> assumption)))
                  ((go_split_ands; first
                    | (go_at_call 24; refine (HTD.out _).mono ?_; rintro e w2 ⟨v2, rfl, hs2, hbc⟩)
                    | (go_at_call 25; refine (HNX.out _).mono ?_; rintro e w2 ⟨v3, rfl, hs3, hbc⟩; replace hs2 := hs2.later (by decide) hbc)))) | fail
                go_split_ands
                obtain ⟨A3, c3, rfl, _, m3, i3⟩ := id hs2
                obtain ⟨A4, c4, rfl, _, m4, i4⟩ := id hs3
                have hk1 := HK.out
                have HW2 := Lib.hid (HBA.out.bt (by assumption))
                have HSS := Lib.hid (fun w' (hb : Below w2.heap.size w2 w') => hs2.later (by decide) hb)
                obtain ⟨b4, o4, cs4, rfl, e1, e2, e3, _⟩ := i4 0 _ rfl
                subst e3
                have n0 := e2 0 (by omega)
                simp only [Nat.zero_mul, Nat.add_zero] at n0
                replace n0 : w2.cell? ⟨b4, o4, none⟩ = some (.int .i64 k1.term.to_) := n0
                obtain ⟨b5, o5, cs5, hA5, f1, f2, f3, _⟩ := i4 1 _ rfl
                simp only [Option.some.injEq, Addr.mk.injEq, and_true] at hA5
                obtain ⟨rfl, rfl⟩ := hA5
                subst f3
                have n1 := f2 0 (by omega)
                simp only [Nat.one_mul, Nat.add_zero] at n1
                replace n1 : w2.cell? ⟨b4, o4 + 1, none⟩ = some (.int .i64 k1.term.els) := n1
                clear i3 i4 e1 e2 f1 f2 hs2 hs3
                have HS4 := Lib.hid (show ((w2.cell? ⟨g9, 0, none⟩ = some (.int .i64 k1.term.kind) ∧ w2.cell? ⟨g9, 1, none⟩ = some (.int .i64 k1.term.op) ∧ w2.cell? ⟨g9, 2, none⟩ = some (.int .i64 k1.term.a.reg) ∧ w2.cell? ⟨g9, 3, none⟩ = some (.int .i64 k1.term.a.num) ∧ w2.cell? ⟨g9, 4, none⟩ = some (.int .i64 k1.term.b.reg) ∧ w2.cell? ⟨g9, 5, none⟩ = some (.int .i64 k1.term.b.num) ∧ w2.cell? ⟨g9, 6, none⟩ = some (.int .i64 k1.term.to_) ∧ w2.cell? ⟨g9, 7, none⟩ = some (.int .i64 k1.term.els) ∧ w2.cell? ⟨b4, o4, none⟩ = some (.int .i64 k1.term.to_) ∧ w2.cell? ⟨b4, o4 + 1, none⟩ = some (.int .i64 k1.term.els)) ∧ Below w2.heap.size w2 w2) by refine ⟨⟨?_, ?_, ?_, ?_, ?_, ?_, ?_, ?_, n0, n1⟩, Below.refl _ _⟩ <;> assumption)
                go_wp2_with fail
                clear hk1
                refine wp_region_held_drew (S := (fun w' => (w'.cell? ⟨g9, 0, none⟩ = some (.int .i64 k1.term.kind) ∧ w'.cell? ⟨g9, 1, none⟩ = some (.int .i64 k1.term.op) ∧ w'.cell? ⟨g9, 2, none⟩ = some (.int .i64 k1.term.a.reg) ∧ w'.cell? ⟨g9, 3, none⟩ = some (.int .i64 k1.term.a.num) ∧ w'.cell? ⟨g9, 4, none⟩ = some (.int .i64 k1.term.b.reg) ∧ w'.cell? ⟨g9, 5, none⟩ = some (.int .i64 k1.term.b.num) ∧ w'.cell? ⟨g9, 6, none⟩ = some (.int .i64 k1.term.to_) ∧ w'.cell? ⟨g9, 7, none⟩ = some (.int .i64 k1.term.els) ∧ w'.cell? ⟨b4, o4, none⟩ = some (.int .i64 k1.term.to_) ∧ w'.cell? ⟨b4, o4 + 1, none⟩ = some (.int .i64 k1.term.els)) ∧ Below w2.heap.size w2 w')) (by kernel_rfl) ?_ (fun hHeld => ?_)
                · first | (first | exact xn_step (hb := drew_below _) (h := HS4.out) | exact xn_step (hb := hbc) (h := by first | assumption | (refine ⟨⟨?_, ?_, ?_, ?_, ?_, ?_, ?_, ?_, ?_, ?_⟩, ?_⟩ <;> assumption)) | exact xn_step (hb := below_alloc _ (Below.refl _ _)) (h := by first | assumption | (refine ⟨⟨?_, ?_, ?_, ?_, ?_, ?_, ?_, ?_, ?_, ?_⟩, ?_⟩ <;> assumption))) | fail
                first | refine held_run 0 (v := ?_) hHeld rfl (by kernel_rfl) (by kernel_rfl) (by kernel_rfl) (fun _ _ _ h => h) (Or.inl ⟨by rfl, ?_⟩) ?_ | fail
                rotate_left
                · first | (intro w hSw; (try dsimp only at hSw); go_simp; with_reducible rfl) | fail
                try simp only [Act.put, List.setIfInBounds_toArray, List.set_cons_zero, List.set_cons_succ]
                first | refine held_run 1 (v := ?_) hHeld rfl (by kernel_rfl) (by kernel_rfl) (by kernel_rfl) (fun _ _ _ h => h) (Or.inl ⟨by rfl, ?_⟩) ?_ | fail
                rotate_left
                · first | (intro w hSw; (try dsimp only at hSw); go_simp; with_reducible rfl) | fail
                try simp only [Act.put, List.setIfInBounds_toArray, List.set_cons_zero, List.set_cons_succ]
                first | refine held_run 2 (v := ?_) hHeld rfl (by kernel_rfl) (by kernel_rfl) (by kernel_rfl) (fun _ _ _ h => h) (Or.inl ⟨by rfl, ?_⟩) ?_ | fail
                rotate_left
                · first | (intro w hSw; (try dsimp only at hSw); go_simp; with_reducible rfl) | fail
                try simp only [Act.put, List.setIfInBounds_toArray, List.set_cons_zero, List.set_cons_succ]
                first | refine held_run 3 (v := ?_) hHeld rfl (by kernel_rfl) (by kernel_rfl) (by kernel_rfl) (fun _ _ _ h => h) (Or.inl ⟨by rfl, ?_⟩) ?_ | fail
                rotate_left
                · first | (intro w hSw; (try dsimp only at hSw); go_simp; with_reducible rfl) | fail
                try simp only [Act.put, List.setIfInBounds_toArray, List.set_cons_zero, List.set_cons_succ]
                first | refine held_run 4 (v := ?_) hHeld rfl (by kernel_rfl) (by kernel_rfl) (by kernel_rfl) (fun _ _ _ h => h) (Or.inl ⟨by rfl, ?_⟩) ?_ | fail
                rotate_left
                · first | (intro w hSw; (try dsimp only at hSw); go_simp; with_reducible rfl) | fail
                try simp only [Act.put, List.setIfInBounds_toArray, List.set_cons_zero, List.set_cons_succ]
                first | refine held_next 5 rfl (by kernel_rfl) (fun K hK => ?_) | fail
                go_simp
                try (go_split_ands; go_at_call 26; refine (same_any _ [k1.term.a, k1.term.b] _ _ (HSS.out _ (by assumption)) (slr_drew (two_lit w2 _ k1.term.a k1.term.b _ rfl ⟨HT.out.2.1, HT.out.2.2.1⟩ ⟨HT.out.2.2.2.1, HT.out.2.2.2.2.1⟩))).mono ?_; rintro e w5 ⟨rfl, hbc⟩)
                first | refine hK.out _ _ ?_ (fun hHeld1 => ?_) | (go_wp2_with fail; refine hK.out _ _ ?_ (fun hHeld1 => ?_)) | fail
                · first | (first | exact xn_step (hb := drew_below _) (h := HS4.out) | exact xn_step (hb := hbc) (h := by first | assumption | (refine ⟨⟨?_, ?_, ?_, ?_, ?_, ?_, ?_, ?_, ?_, ?_⟩, ?_⟩ <;> assumption)) | exact xn_step (hb := below_alloc _ (Below.refl _ _)) (h := by first | assumption | (refine ⟨⟨?_, ?_, ?_, ?_, ?_, ?_, ?_, ?_, ?_, ?_⟩, ?_⟩ <;> assumption))) | fail
                clear hK K
                try clear hHeld
                try simp only [Act.put, List.setIfInBounds_toArray, List.set_cons_zero, List.set_cons_succ]
                first | refine held_next 6 rfl (by kernel_rfl) (fun K hK => ?_) | fail
                go_simp
                try (go_split_ands; go_at_call 26; refine (same_any _ [k1.term.a, k1.term.b] _ _ (HSS.out _ (by assumption)) (slr_drew (two_lit w2 _ k1.term.a k1.term.b _ rfl ⟨HT.out.2.1, HT.out.2.2.1⟩ ⟨HT.out.2.2.2.1, HT.out.2.2.2.2.1⟩))).mono ?_; rintro e w5 ⟨rfl, hbc⟩)
                first | refine hK.out _ _ ?_ (fun hHeld2 => ?_) | (go_wp2_with fail; refine hK.out _ _ ?_ (fun hHeld2 => ?_)) | fail
                · first | (first | exact xn_step (hb := drew_below _) (h := HS4.out) | exact xn_step (hb := hbc) (h := by first | assumption | (refine ⟨⟨?_, ?_, ?_, ?_, ?_, ?_, ?_, ?_, ?_, ?_⟩, ?_⟩ <;> assumption)) | exact xn_step (hb := below_alloc _ (Below.refl _ _)) (h := by first | assumption | (refine ⟨⟨?_, ?_, ?_, ?_, ?_, ?_, ?_, ?_, ?_, ?_⟩, ?_⟩ <;> assumption))) | fail
                clear hK K
                try clear hHeld1
                try simp only [Act.put, List.setIfInBounds_toArray, List.set_cons_zero, List.set_cons_succ]
                first | refine held_run 7 (v := ?_) hHeld2 rfl (by kernel_rfl) (by kernel_rfl) (by kernel_rfl) (fun _ _ _ h => h) (Or.inl ⟨by rfl, ?_⟩) ?_ | fail
                rotate_left
                · first | (intro w hSw; (try dsimp only at hSw); go_simp; with_reducible rfl) | fail
                try simp only [Act.put, List.setIfInBounds_toArray, List.set_cons_zero, List.set_cons_succ]
                first | refine held_run 8 (v := ?_) hHeld2 rfl (by kernel_rfl) (by kernel_rfl) (by kernel_rfl) (fun _ _ _ h => h) (Or.inl ⟨by rfl, ?_⟩) ?_ | fail
                rotate_left
                · first | (intro w hSw; (try dsimp only at hSw); go_simp; with_reducible rfl) | fail
                try simp only [Act.put, List.setIfInBounds_toArray, List.set_cons_zero, List.set_cons_succ]
                first | refine held_run 9 (v := ?_) hHeld2 rfl (by kernel_rfl) (by kernel_rfl) (by kernel_rfl) (fun _ _ _ h => h) (Or.inl ⟨by rfl, ?_⟩) ?_ | fail
                rotate_left
                · first | (intro w hSw; (try dsimp only at hSw); go_simp; with_reducible rfl) | fail
                try simp only [Act.put, List.setIfInBounds_toArray, List.set_cons_zero, List.set_cons_succ]
                first | refine held_run 10 (v := ?_) hHeld2 rfl (by kernel_rfl) (by kernel_rfl) (by kernel_rfl) (fun _ _ _ h => h) (Or.inl ⟨by rfl, ?_⟩) ?_ | fail
                rotate_left
                · first | (intro w hSw; (try dsimp only at hSw); go_simp; with_reducible rfl) | fail
                try simp only [Act.put, List.setIfInBounds_toArray, List.set_cons_zero, List.set_cons_succ]
                first | refine held_run 11 (v := ?_) hHeld2 rfl (by kernel_rfl) (by kernel_rfl) (by kernel_rfl) (fun _ _ _ h => h) (Or.inl ⟨by rfl, ?_⟩) ?_ | fail
                rotate_left
                · first | (intro w hSw; (try dsimp only at hSw); go_simp; with_reducible rfl) | fail
                try simp only [Act.put, List.setIfInBounds_toArray, List.set_cons_zero, List.set_cons_succ]
                first | refine held_run 12 (v := ?_) hHeld2 rfl (by kernel_rfl) (by kernel_rfl) (by kernel_rfl) (fun _ _ _ h => h) (Or.inl ⟨by rfl, ?_⟩) ?_ | fail
                rotate_left
                · first | (intro w hSw; (try dsimp only at hSw); go_simp; with_reducible rfl) | fail
                try simp only [Act.put, List.setIfInBounds_toArray, List.set_cons_zero, List.set_cons_succ]
                first | refine held_run 13 (v := ?_) hHeld2 rfl (by kernel_rfl) (by kernel_rfl) (by kernel_rfl) (fun _ _ _ h => h) (Or.inl ⟨by rfl, ?_⟩) ?_ | fail
                rotate_left
                · first | (intro w hSw; (try dsimp only at hSw); go_simp; with_reducible rfl) | fail
                try simp only [Act.put, List.setIfInBounds_toArray, List.set_cons_zero, List.set_cons_succ]
                first | refine held_run 14 (v := ?_) hHeld2 rfl (by kernel_rfl) (by kernel_rfl) (by kernel_rfl) (fun _ _ _ h => h) (Or.inl ⟨by rfl, ?_⟩) ?_ | fail
                rotate_left
                · first | (intro w hSw; (try dsimp only at hSw); go_simp; with_reducible rfl) | fail
                try simp only [Act.put, List.setIfInBounds_toArray, List.set_cons_zero, List.set_cons_succ]
                first | refine held_run 15 (v := ?_) hHeld2 rfl (by kernel_rfl) (by kernel_rfl) (by kernel_rfl) (fun _ _ _ h => h) (Or.inl ⟨by rfl, ?_⟩) ?_ | fail
                rotate_left
                · first | (intro w hSw; (try dsimp only at hSw); go_simp; with_reducible rfl) | fail
                try simp only [Act.put, List.setIfInBounds_toArray, List.set_cons_zero, List.set_cons_succ]
                first | refine held_run 16 (v := ?_) hHeld2 rfl (by kernel_rfl) (by kernel_rfl) (by kernel_rfl) (fun _ _ _ h => h) (Or.inl ⟨by rfl, ?_⟩) ?_ | fail
                rotate_left
                · first | (intro w hSw; (try dsimp only at hSw); go_simp; with_reducible rfl) | fail
                try simp only [Act.put, List.setIfInBounds_toArray, List.set_cons_zero, List.set_cons_succ]
                first | refine held_run 17 (v := ?_) hHeld2 rfl (by kernel_rfl) (by kernel_rfl) (by kernel_rfl) (fun _ _ _ h => h) (Or.inl ⟨by rfl, ?_⟩) ?_ | fail
                rotate_left
                · first | (intro w hSw; (try dsimp only at hSw); go_simp; with_reducible rfl) | fail
                try simp only [Act.put, List.setIfInBounds_toArray, List.set_cons_zero, List.set_cons_succ]
                first | refine held_run 18 (v := ?_) hHeld2 rfl (by kernel_rfl) (by kernel_rfl) (by kernel_rfl) (fun _ _ _ h => h) (Or.inl ⟨by rfl, ?_⟩) ?_ | fail
                rotate_left
                · first | (intro w hSw; (try dsimp only at hSw); go_simp; with_reducible rfl) | fail
                try simp only [Act.put, List.setIfInBounds_toArray, List.set_cons_zero, List.set_cons_succ]
                first | refine held_run 19 (v := ?_) hHeld2 rfl (by kernel_rfl) (by kernel_rfl) (by kernel_rfl) (fun _ _ _ h => h) (Or.inl ⟨by rfl, ?_⟩) ?_ | fail
                rotate_left
                · first | (intro w hSw; (try dsimp only at hSw); go_simp; with_reducible rfl) | fail
                try simp only [Act.put, List.setIfInBounds_toArray, List.set_cons_zero, List.set_cons_succ]
                first | refine held_run 20 (v := ?_) hHeld2 rfl (by kernel_rfl) (by kernel_rfl) (by kernel_rfl) (fun _ _ _ h => h) (Or.inl ⟨by rfl, ?_⟩) ?_ | fail
                rotate_left
                · first | (intro w hSw; (try dsimp only at hSw); go_simp; with_reducible rfl) | fail
                try simp only [Act.put, List.setIfInBounds_toArray, List.set_cons_zero, List.set_cons_succ]
                first | refine held_run 21 (v := ?_) hHeld2 rfl (by kernel_rfl) (by kernel_rfl) (by kernel_rfl) (fun _ _ _ h => h) (Or.inl ⟨by rfl, ?_⟩) ?_ | fail
                rotate_left
                · first | (intro w hSw; (try dsimp only at hSw); go_simp; with_reducible rfl) | fail
                try simp only [Act.put, List.setIfInBounds_toArray, List.set_cons_zero, List.set_cons_succ]
                first | refine held_run 22 (v := ?_) hHeld2 rfl (by kernel_rfl) (by kernel_rfl) (by kernel_rfl) (fun _ _ _ h => h) (Or.inl ⟨by rfl, ?_⟩) ?_ | fail
                rotate_left
                · first | (intro w hSw; (try dsimp only at hSw); go_simp; with_reducible rfl) | fail
                try simp only [Act.put, List.setIfInBounds_toArray, List.set_cons_zero, List.set_cons_succ]
                first | refine held_run 23 (v := ?_) hHeld2 rfl (by kernel_rfl) (by kernel_rfl) (by kernel_rfl) (fun _ _ _ h => h) (Or.inl ⟨by rfl, ?_⟩) ?_ | fail
                rotate_left
                · first | (intro w hSw; (try dsimp only at hSw); go_simp; with_reducible rfl) | fail
                try simp only [Act.put, List.setIfInBounds_toArray, List.set_cons_zero, List.set_cons_succ]
                first | refine held_run 24 (v := ?_) hHeld2 rfl (by kernel_rfl) (by kernel_rfl) (by kernel_rfl) (fun _ _ _ h => h) (Or.inl ⟨by rfl, ?_⟩) ?_ | fail
                rotate_left
                · first | (intro w hSw; (try dsimp only at hSw); go_simp; with_reducible rfl) | fail
                try simp only [Act.put, List.setIfInBounds_toArray, List.set_cons_zero, List.set_cons_succ]
                first | refine held_run 25 (v := ?_) hHeld2 rfl (by kernel_rfl) (by kernel_rfl) (by kernel_rfl) (fun _ _ _ h => h) (Or.inl ⟨by rfl, ?_⟩) ?_ | fail
                rotate_left
                · first | (intro w hSw; (try dsimp only at hSw); go_simp; with_reducible rfl) | fail
                try simp only [Act.put, List.setIfInBounds_toArray, List.set_cons_zero, List.set_cons_succ]
                first | refine held_run 26 (v := ?_) hHeld2 rfl (by kernel_rfl) (by kernel_rfl) (by kernel_rfl) (fun _ _ _ h => h) (Or.inl ⟨by rfl, ?_⟩) ?_ | fail
                rotate_left
                · first | (intro w hSw; (try dsimp only at hSw); go_simp; with_reducible rfl) | fail
                try simp only [Act.put, List.setIfInBounds_toArray, List.set_cons_zero, List.set_cons_succ]
                first | refine held_run 27 (v := ?_) hHeld2 rfl (by kernel_rfl) (by kernel_rfl) (by kernel_rfl) (fun _ _ _ h => h) (Or.inl ⟨by rfl, ?_⟩) ?_ | fail
                rotate_left
                · first | (intro w hSw; (try dsimp only at hSw); go_simp; with_reducible rfl) | fail
                try simp only [Act.put, List.setIfInBounds_toArray, List.set_cons_zero, List.set_cons_succ]
                first | refine held_run 28 (v := ?_) hHeld2 rfl (by kernel_rfl) (by kernel_rfl) (by kernel_rfl) (fun _ _ _ h => h) (Or.inl ⟨by rfl, ?_⟩) ?_ | fail
                rotate_left
                · first | (intro w hSw; (try dsimp only at hSw); go_simp; with_reducible rfl) | fail
                try simp only [Act.put, List.setIfInBounds_toArray, List.set_cons_zero, List.set_cons_succ]
                refine wpAnyH_done (by kernel_rfl) ?_ _
                go_split_ands
                go_wp2_with fail
                go_roundw
                case rel => exact ⟨j + 1, by omega, by go_num, HW2.out.bt (by assumption)⟩
                case measure => simp [intOf]; omega
              · rw [show readsT k1.term = [k1.term.a] by simp [readsT, hk1]] at HTD
                rw [show nextT k1.term = [] by simp [nextT, hk1]] at HNX
                have HK := Lib.hid hk1
                clear hk1 htt
                first | (go_region_held3 (fun w' => (w'.cell? ⟨g9, 0, none⟩ = some (.int .i64 k1.term.kind) ∧ w'.cell? ⟨g9, 1, none⟩ = some (.int .i64 k1.term.op) ∧ w'.cell? ⟨g9, 2, none⟩ = some (.int .i64 k1.term.a.reg) ∧ w'.cell? ⟨g9, 3, none⟩ = some (.int .i64 k1.term.a.num) ∧ w'.cell? ⟨g9, 4, none⟩ = some (.int .i64 k1.term.b.reg) ∧ w'.cell? ⟨g9, 5, none⟩ = some (.int .i64 k1.term.b.num) ∧ w'.cell? ⟨g9, 6, none⟩ = some (.int .i64 k1.term.to_) ∧ w'.cell? ⟨g9, 7, none⟩ = some (.int .i64 k1.term.els)) ∧ Below w9.heap.size w9 w')
                  (first | exact xt_step (hb := drew_below _) (h := HS0.out) | exact xt_step (hb := hbc) (h := by first | assumption | (refine ⟨⟨?_, ?_, ?_, ?_, ?_, ?_, ?_, ?_⟩, ?_⟩ <;> assumption)))
                  ((go_split_ands; first
                    | (go_at_call 24; refine (HTD.out _).mono ?_; rintro e w2 ⟨v2, rfl, hs2, hbc⟩)
                    | (go_at_call 25; refine (HNX.out _).mono ?_; rintro e w2 ⟨v3, rfl, hs3, hbc⟩; replace hs2 := hs2.later (by decide) hbc)))) | fail
                go_split_ands
                obtain ⟨A3, c3, rfl, _, m3, i3⟩ := id hs2
                obtain ⟨A4, c4, rfl, _, m4, i4⟩ := id hs3
                have hk1 := HK.out
                have HW2 := Lib.hid (HBA.out.bt (by assumption))
                have HSS := Lib.hid (fun w' (hb : Below w2.heap.size w2 w') => hs2.later (by decide) hb)
                clear i3 i4 hs2 hs3
                go_wp2_with fail
                clear hk1
                refine (same_any _ [k1.term.a] _ _ (HSS.out _ (below_alloc _ (Below.refl _ _))) (one_lit _ _ k1.term.a _ rfl ⟨HT.out.2.1, HT.out.2.2.1⟩)).mono ?_
                rintro e w5 ⟨rfl, hb5⟩
                have HW5 := Lib.hid ((below_alloc _ HW2.out).bt hb5)
                clear hb5
                go_wp2_with fail
                go_roundw
                case rel => exact ⟨j + 1, by omega, by go_num, HW5.out⟩
                case measure => simp [intOf]; omega
        · have e : j = f.blocks.length := by omega
          subst e
          go_wp2_with fail
          go_roundw
          case rel => exact ⟨k + 1, by omega, by go_num, HB7.out⟩
          case measure => simp [intOf]; omega
    · have e : k = p.funcs.length := by omega
      subst e
      go_wp2_with fail
      go_returns
      exact ⟨rfl, HB5.out⟩
end Go.Proofs.Yticgaknkonolnaa
