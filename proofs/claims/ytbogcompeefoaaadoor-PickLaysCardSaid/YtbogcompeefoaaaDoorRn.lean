/- The walk of the statements' Right: a program is small, and may be. No condition. -/
import Derived.Test.YtbogcompeefoaaaDoorPg
namespace Go.Proofs.YtbogcompeefoaaaDoor
open Go.RowKit
set_option linter.unusedVariables false
set_option maxHeartbeats 4000000
theorem rright_any (W0 w : World) (h0 : Below W0.heap.size W0 w) (p : ProgD) (vf vg : Value) (hin : In W0 p vf vg) (pb : Nat) (hbx : BoxP W0 w pb p vf vg) (hslim : Slim p) :
    Calls Tryd.prog 14 #[.pointer (some ⟨pb, 0, none⟩)] w (RightP w p) := by
  by_cases h : 0 ≤ p.main ∧ p.main < p.funcs.length ∧ parOf p p.main = 0
  · exact right_yes W0 w h0 p vf vg hin pb hbx hslim h
  · refine right_main W0 w h0 p vf vg hin pb hbx ?_
    by_cases h1 : p.main < 0
    · exact Or.inl h1
    · by_cases h2 : (p.funcs.length : Int) ≤ p.main
      · exact Or.inr (Or.inl h2)
      · exact Or.inr (Or.inr ⟨by omega, by omega, fun e => h ⟨by omega, by omega, e⟩⟩)
/-- what is known of a program that was let pass -/
def MayBe (w : World) (p : ProgD) (e : Ending) (w' : World) : Prop := ∃ b : Bool, e = .returned (.bool b) ∧ (b = true → LightOk p ∧ ProgOk p) ∧ Below w.heap.size w w'
set_option maxRecDepth 100000 in
theorem maybe_any (W0 w : World) (h0 : Below W0.heap.size W0 w) (p : ProgD) (vf vg : Value) (hin : In W0 p vf vg) :
    Calls Tryd.prog 5 #[.agg #[vf, vg, .int .i64 p.data, .int .i64 p.main]] w (MayBe w p) := by
  have H0 := Lib.hid h0
  have HIN := Lib.hid hin
  obtain ⟨A, cap, rfl, _, m3, hi⟩ := hin.funcs
  obtain ⟨A2, cap2, rfl, _, m4, hi2⟩ := hin.globs
  have hfl := hin.flen
  have hgl := hin.glen
  have HBX := Lib.hid (block_box w #[.slice A p.funcs.length cap, .slice A2 p.globals.length cap2, .int .i64 p.data, .int .i64 p.main] 25)
  have HBW := Lib.hid (below_alloc (.cells #[.slice A p.funcs.length cap, .slice A2 p.globals.length cap2, .int .i64 p.data, .int .i64 p.main] 25) (Below.refl w.heap.size w))
  clear hin h0 hi hi2 m3 m4
  go_enter Tryd.func5, Tryd.ntmps5
  go_wp2_with fail
  have HL := Lib.hid (light_any W0 _ (H0.out.trans (HBW.out.mono H0.out.size)) p _ _ HIN.out)
  refine HL.out.mono ?_
  rintro e w1 ⟨b, rfl, hb, hb1⟩
  have HB1 := Lib.hid (HBW.out.bt hb1)
  have HBo := Lib.hid (show BoxP W0 w1 w.heap.size p (.slice A p.funcs.length cap) (.slice A2 p.globals.length cap2) from ⟨later (HBX.out 0 _ rfl) hb1, later (HBX.out 1 _ rfl) hb1, later (HBX.out 2 _ rfl) hb1, later (HBX.out 3 _ rfl) hb1⟩)
  have HLT := Lib.hid hb
  clear hb hb1 HL HBX HBW
  cases b
  · go_wp2_with fail
    go_returns
    exact ⟨false, rfl, (fun h => by cases h), HB1.out⟩
  · have HLk := Lib.hid (HLT.out rfl)
    clear HLT
    go_wp2_with fail
    refine (rright_any W0 w1 (H0.out.trans (HB1.out.mono H0.out.size)) p _ _ HIN.out _ HBo.out (HLk.out.slim)).mono ?_
    rintro e w2 ⟨c, rfl, hc, hb2⟩
    have HB2 := Lib.hid (HB1.out.bt hb2)
    have HC := Lib.hid hc
    clear hc hb2
    by_cases hc0 : c = 0
    · subst hc0
      have HP := Lib.hid (HC.out rfl)
      clear HC
      go_wp2_with fail
      go_returns
      exact ⟨true, rfl, (fun _ => ⟨HLk.out, HP.out⟩), HB2.out⟩
    · have hcb : (c == 0) = false := by simpa using hc0
      clear hc0
      go_wp2_with fail
      go_returns
      exact ⟨false, rfl, (fun h => by cases h), HB2.out⟩
end Go.Proofs.YtbogcompeefoaaaDoor
