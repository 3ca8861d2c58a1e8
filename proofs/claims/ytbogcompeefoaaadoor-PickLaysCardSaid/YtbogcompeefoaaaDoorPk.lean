/- The walk of the statements' Right: a program is small, and meets the conditions. No condition. -/
import Derived.Test.YtbogcompeefoaaaDoorPi
namespace Go.Proofs.YtbogcompeefoaaaDoor
open Go.RowKit
set_option linter.unusedVariables false
set_option maxHeartbeats 4000000
/-- what is known of a program that was let pass -/
def MayQ (w : World) (p : ProgD) (e : Ending) (w' : World) : Prop := ∃ b : Bool, e = .returned (.bool b) ∧ (b = true → (LightOk p ∧ LightG p) ∧ RightOk p) ∧ Below w.heap.size w w'
set_option maxRecDepth 100000 in
theorem mayq_any (W0 w : World) (h0 : Below W0.heap.size W0 w) (p : ProgD) (vf vg : Value) (hin : In W0 p vf vg) :
    Calls Tryd.prog 5 #[.agg #[vf, vg, .int .i64 p.data, .int .i64 p.main]] w (MayQ w p) := by
  have H0 := Lib.hid h0
  have HIN := Lib.hid hin
  obtain ⟨A, cap, rfl, _, m3, hi⟩ := hin.funcs
  obtain ⟨A2, cap2, rfl, _, m4, hi2⟩ := hin.globs
  have hfl := hin.flen
  have hgl := hin.glen
  have HBX := Lib.hid (block_box w #[.slice A p.funcs.length cap, .slice A2 p.globals.length cap2, .int .i64 p.data, .int .i64 p.main] 25)
  have HBW := Lib.hid (below_alloc (.cells #[.slice A p.funcs.length cap, .slice A2 p.globals.length cap2, .int .i64 p.data, .int .i64 p.main] 25) (Below.refl w.heap.size w))
  clear hin h0 hi hi2 m3 m4
  go_enter Tryd.func5, Tryd.ntmps5
  go_wp2_with fail
  have HL := Lib.hid (lightq_any W0 _ (H0.out.trans (HBW.out.mono H0.out.size)) p _ _ HIN.out)
  refine HL.out.mono ?_
  rintro e w1 ⟨b, rfl, hb, hb1⟩
  have HB1 := Lib.hid (HBW.out.bt hb1)
  have HBo := Lib.hid (show BoxP W0 w1 w.heap.size p (.slice A p.funcs.length cap) (.slice A2 p.globals.length cap2) from ⟨later (HBX.out 0 _ rfl) hb1, later (HBX.out 1 _ rfl) hb1, later (HBX.out 2 _ rfl) hb1, later (HBX.out 3 _ rfl) hb1⟩)
  have HLT := Lib.hid hb
  clear hb hb1 HL HBX HBW
  cases b
  · go_wp2_with fail
    go_returns
    exact ⟨false, rfl, (fun h => by cases h), HB1.out⟩
  · have HLk := Lib.hid (HLT.out rfl)
    clear HLT
    go_wp2_with fail
    refine (rightq_any W0 w1 (H0.out.trans (HB1.out.mono H0.out.size)) p _ _ HIN.out _ HBo.out (HLk.out.1.slim)).mono ?_
    rintro e w2 ⟨c, rfl, _, hc, hb2⟩
    have HB2 := Lib.hid (HB1.out.bt hb2)
    have HC := Lib.hid hc
    clear hc hb2
    by_cases hc0 : c = 0
    · subst hc0
      have HP := Lib.hid (HC.out.1 rfl)
      clear HC
      go_wp2_with fail
      go_returns
      exact ⟨true, rfl, (fun _ => ⟨HLk.out, HP.out⟩), HB2.out⟩
    · have hcb : (c == 0) = false := by simpa using hc0
      clear hc0
      go_wp2_with fail
      go_returns
      exact ⟨false, rfl, (fun h => by cases h), HB2.out⟩
end Go.Proofs.YtbogcompeefoaaaDoor
