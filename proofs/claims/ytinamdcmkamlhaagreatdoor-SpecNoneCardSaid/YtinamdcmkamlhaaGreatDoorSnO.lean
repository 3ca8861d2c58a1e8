/- A directive that came in as an argument. No condition. -/
import Derived.Test.YtinamdcmkamlhaaGreatDoorRd
import Derived.Test.YtinamdcmkamlhaaGreatDoorChecked
namespace Go.Proofs.YtinamdcmkamlhaaGreatDoor
open Go.Joins Go.ChangeShapes Go.WideShapes Go.RowKit Go.Deep
set_option linter.unusedVariables false
set_option maxRecDepth 20000
theorem open_dir {H : Type} {enc : TypeId × Value → H} {w : World} {r : Reach} {b0 : Nat} {v : Value} {d : DataW H} {p : List MemPlace} (hv : Value.okWide Tryz.prog w r b0 23 v) (h : DataW.Trod enc Tryz.prog w 0 (fun _ => true) true 23 v d p) :
    ∃ a b : Int, v = .agg #[.int .i64 a, .int .i64 b] := by
  obtain ⟨cs, rfl, hsz⟩ := okWide_struct Tryz.underlying23 hv
  have hr : Rd enc Tryz.prog w 23 cs.toList := Rd.of_trod h
  obtain ⟨hl, hf⟩ := Rd.struct Tryz.underlying23 hr
  have hc : Tryz.prog.cellsOf 23 = 2 := by kernel_rfl
  have hc1 : Tryz.prog.cellsOf 3 = 1 := by kernel_rfl
  rw [hc] at hl
  obtain ⟨l⟩ := cs
  match l, hl with
  | [c0, c1], _ =>
    have h0 := hf 0 _ rfl
    have h1 := hf 1 _ rfl
    simp only [hc1, List.drop_zero, List.drop_succ_cons, List.take_succ_cons, List.take_zero] at h0 h1
    obtain ⟨a, e0, _⟩ := Rd.int Tryz.underlying3 h0
    obtain ⟨b, e1, _⟩ := Rd.int Tryz.underlying3 h1
    cases e0
    cases e1
    exact ⟨a, b, rfl⟩
end Go.Proofs.YtinamdcmkamlhaaGreatDoor
