/- The walk of RtlRight. No condition. -/
import Derived.Test.YticgaknkonolnaaRoQ
import Derived.Test.YticgaknkonolnaaRhb
import Derived.Test.YticgaknkonolnaaFit08
namespace Go.Proofs.Yticgaknkonolnaa
open Go.RowKit
set_option linter.unusedVariables false
set_option maxHeartbeats 4000000
theorem refright_any (w : World) (p : ProgD) (vf vg : Value) (hin : In w p vf vg) (pb : Nat) (hbx : BoxP w w pb p vf vg) (hL : LightOk p) (hLG : LightG p) :
    Calls Try.prog 15 #[.pointer (some ⟨pb, 0, none⟩)] w (RQ w p) := by
  by_cases h : 0 ≤ p.main ∧ p.main < p.funcs.length ∧ parOf p p.main = 0
  · exact refright_yes w p vf vg hin pb hbx hL hLG h
  · refine refright_main w p vf vg hin pb hbx ?_
    by_cases h1 : p.main < 0
    · exact Or.inl h1
    · by_cases h2 : (p.funcs.length : Int) ≤ p.main
      · exact Or.inr (Or.inl h2)
      · exact Or.inr (Or.inr ⟨by omega, by omega, fun e => h ⟨by omega, by omega, e⟩⟩)
set_option maxRecDepth 100000 in
theorem right_law (w : World) (p : ProgD) (vf vg : Value) (hin : In w p vf vg) :
    Calls Try.prog 4 #[.agg #[vf, vg, .int .i64 p.data, .int .i64 p.main]] w fun e w' => e = .returned (.bool true) ∧ Below w.heap.size w w' := by
  have HIN := Lib.hid hin
  have HL := Lib.hid (fun w1 h => lightq_any w w1 h p vf vg hin)
  have HRW := Lib.hid (fun w1 h pb hbx hs => rightq_any w w1 h p vf vg hin pb hbx hs)
  obtain ⟨A, cap, rfl, _, m3, hi⟩ := hin.funcs
  obtain ⟨A2, cap2, rfl, _, m4, _⟩ := hin.globs
  clear hi hin m3 m4
  go_enter Try.func4, Try.ntmps4
  go_wp2_with fail
  have HB1 := Lib.hid (below_alloc (.cells #[.slice A p.funcs.length cap, .slice A2 p.globals.length cap2, .int .i64 p.data, .int .i64 p.main] 29) (Below.refl w.heap.size w))
  have HBX := Lib.hid (block_box w #[.slice A p.funcs.length cap, .slice A2 p.globals.length cap2, .int .i64 p.data, .int .i64 p.main] 29)
  obtain ⟨g1, hg1⟩ : ∃ g1, g1 = w.heap.size := ⟨_, rfl⟩
  obtain ⟨w1, hw1⟩ : ∃ w1, w1 = w.alloc (.cells #[.slice A p.funcs.length cap, .slice A2 p.globals.length cap2, .int .i64 p.data, .int .i64 p.main] 29) := ⟨_, rfl⟩
  rw [← hw1] at HBX HB1 ⊢
  rw [← hg1] at HBX ⊢
  clear hw1 hg1
  have HBP := Lib.hid (show BoxP w w1 g1 p (.slice A p.funcs.length cap) (.slice A2 p.globals.length cap2) from ⟨HBX.out 0 _ rfl, HBX.out 1 _ rfl, HBX.out 2 _ rfl, HBX.out 3 _ rfl⟩)
  refine (fit_vm _).mono ?_
  rintro e w2 ⟨rfl, hb2⟩
  have HB2 := Lib.hid (HB1.out.bt hb2)
  have HP2 := Lib.hid (HBP.out.later hb2)
  clear hb2
  obtain ⟨c0, c1, c2, c3⟩ := HP2.out
  go_wp2_with fail
  clear c0 c1 c2 c3
  refine (HL.out _ HB2.out).mono ?_
  rintro e w3 ⟨bl, rfl, hl, hb3⟩
  have HB3 := Lib.hid (HB2.out.bt hb3)
  have HP3 := Lib.hid (HP2.out.later hb3)
  have HLT := Lib.hid hl
  clear hb3 hl
  cases bl
  · go_wp2_with fail
    go_returns
    exact ⟨rfl, HB3.out⟩
  have HLL := Lib.hid (HLT.out rfl)
  have HSL := Lib.hid (HLL.out.1.slim)
  clear HLT
  go_wp2_with fail
  refine (HRW.out _ HB3.out _ HP3.out HSL.out).mono ?_
  rintro e w4 ⟨c, rfl, hc1, hc, hb4⟩
  have HB4 := Lib.hid (HB3.out.bt hb4)
  have HP4 := Lib.hid (HP3.out.later hb4)
  clear hb4
  obtain ⟨c0, c1, c2, c3⟩ := HP4.out
  have hl4 := World.block_lt_of_cell? _ _ c0
  have hcc : (c = 0 ∧ RightOk p) ∨ (c = 50 ∧ ¬ RightOk p) := by
    rcases hc1 with h | h
    · exact Or.inl ⟨h, hc.1 h⟩
    · exact Or.inr ⟨h, fun hr => by have := hc.2 hr; omega⟩
  clear hc hc1
  rcases hcc with ⟨rfl, hok⟩ | ⟨rfl, hok⟩
  · have HOK := Lib.hid hok
    clear hok
    go_wp2_with fail
    refine (oldp_any w w4 HB4.out p (.slice A p.funcs.length cap) (.slice A2 p.globals.length cap2) HIN.out HLL.out.1 (fun g hg => (HLL.out.2.2.2 g hg).2.2.1)).mono ?_
    rintro e w5 ⟨pb, v5, u5, rfl, hob, hin5, hb5⟩
    have HB5 := Lib.hid (HB4.out.bt hb5)
    have HBP5 := Lib.hid (show BoxP w5 w5 pb p v5 u5 from ⟨blk_cell hob rfl, blk_cell hob rfl, blk_cell hob rfl, blk_cell hob rfl⟩)
    have HIN5 := Lib.hid hin5
    clear hob hin5 hb5
    go_wp2_with fail
    refine (refright_any w5 p v5 u5 HIN5.out pb HBP5.out HLL.out.1 HLL.out.2).mono ?_
    rintro e w6 ⟨⟨b6, rfl, hb6⟩, hbw6⟩
    have HB6 := Lib.hid (HB5.out.bt hbw6)
    clear hbw6
    obtain rfl : b6 = true := hb6.2 HOK.out
    clear hb6
    go_wp2_with fail
    refine (right_nil w6).mono ?_
    rintro e w7 ⟨rfl, hb7⟩
    have HB7 := Lib.hid (HB6.out.bt hb7)
    clear hb7
    go_wp2_with fail
    go_returns
    exact ⟨rfl, HB7.out⟩
  · have HOK := Lib.hid hok
    clear hok
    go_wp2_with fail
    refine (oldp_any w w4 HB4.out p (.slice A p.funcs.length cap) (.slice A2 p.globals.length cap2) HIN.out HLL.out.1 (fun g hg => (HLL.out.2.2.2 g hg).2.2.1)).mono ?_
    rintro e w5 ⟨pb, v5, u5, rfl, hob, hin5, hb5⟩
    have HB5 := Lib.hid (HB4.out.bt hb5)
    have HBP5 := Lib.hid (show BoxP w5 w5 pb p v5 u5 from ⟨blk_cell hob rfl, blk_cell hob rfl, blk_cell hob rfl, blk_cell hob rfl⟩)
    have HIN5 := Lib.hid hin5
    clear hob hin5 hb5
    go_wp2_with fail
    refine (refright_any w5 p v5 u5 HIN5.out pb HBP5.out HLL.out.1 HLL.out.2).mono ?_
    rintro e w6 ⟨⟨b6, rfl, hb6⟩, hbw6⟩
    have HB6 := Lib.hid (HB5.out.bt hbw6)
    clear hbw6
    obtain rfl : b6 = false := by cases hz : b6 with | false => rfl | true => exact absurd (hb6.1 hz) HOK.out
    clear hb6
    go_wp2_with fail
    refine (right_nil w6).mono ?_
    rintro e w7 ⟨rfl, hb7⟩
    have HB7 := Lib.hid (HB6.out.bt hb7)
    clear hb7
    go_wp2_with fail
    go_returns
    exact ⟨rfl, HB7.out⟩
end Go.Proofs.Yticgaknkonolnaa
