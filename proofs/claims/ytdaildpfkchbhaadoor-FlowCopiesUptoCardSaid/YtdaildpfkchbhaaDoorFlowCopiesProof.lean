/- Proved here: where what it reads is of bulk at most 1048576 (the second form) the law answers true, and every argument reads afterwards as it read before; the listed variables are tied to the program's text. -/
import Derived.Test.YtdaildpfkchbhaaDoorRows
import Derived.Test.YtdaildpfkchbhaaDoorTie
import Derived.Test.YtdaildpfkchbhaaDoorCards
import Derived.Test.YtdaildpfkchbhaaDoorGl
import Derived.Test.YtdaildpfkchbhaaDoorFcL
import Derived.Test.YtdaildpfkchbhaaDoorOpen
import Derived.Test.YtdaildpfkchbhaaDoorFcO
import Derived.WalkKit
import Derived.ProofKit
import Derived.OpenShut
import Derived.LaidMore
import Derived.LaidLaws
import Derived.SevenTiedAt
import Derived.SizedLaws
import Derived.Deep.DeepHandedRow
namespace Go.Proofs.YtdaildpfkchbhaaDoor.flowCopies
open Go.ChangeShapes Go.WideShapes Go.ChangeAt Go.RowKit
set_option linter.unusedVariables false

theorem own : ownKnob Tryd.prog.godebug = none := by kernel_rfl
theorem laidOut : laidOutB Tryd.prog = true := by kernel_rfl
/-- the witness reads -/
theorem reads (os : Os) {H : Type} (enc : TypeId × Value → H) : DataW.whole enc Tryd.prog ((World.doorLaid Tryd.prog 29 os).forCall (fun _ _ => 0) ⟨#[], #[.agg #[.slice none 0 0, .slice none 0 0, .int .i64 0, .int .i64 0]], []⟩).memory Tryd.f3.params.toList (Rows.OpenSpec.upto Rows.flowCopiesSpec).vars false (#[.agg #[.slice none 0 0, .slice none 0 0, .int .i64 0, .int .i64 0]] : Array Value).toList 8 = some ([.agg [.nil, .nil, .lit (.int .i64 0), .lit (.int .i64 0)]], [], []) := by kernel_rfl

/-! ### The row's step -/
set_option maxRecDepth 100000 in
theorem lifted (os : Os) (started : os.Started) (H : Type) (enc : TypeId × Value → H) (F : Stop.Interp) :
    ReturnsInHanded {} Tryd.checked os 3 .any ((Rows.OpenSpec.upto Rows.flowCopiesSpec).preRow enc Tryd.prog Tryd.f3 Rows.flowCopiesUptoRow.domain false Rows.flowCopiesUptoRow.laid) (((Rows.OpenSpec.upto Rows.flowCopiesSpec).at F).post enc Tryd.prog Tryd.f3 false true false false) := by
  have hok : Input.okWideB Tryd.prog ((World.doorLaid Tryd.prog 29 os).forCall (fun _ _ => 0) ⟨#[], #[.agg #[.slice none 0 0, .slice none 0 0, .int .i64 0, .int .i64 0]], []⟩) 3 ⟨#[], #[.agg #[.slice none 0 0, .slice none 0 0, .int .i64 0, .int .i64 0]], []⟩ = true := by kernel_rfl
  refine returnsInHanded_of_row (C := Tryd.checked) (s := Rows.OpenSpec.upto Rows.flowCopiesSpec) own started (by kernel_rfl) Tryd.func3
    ⟨World.doorLaid Tryd.prog 29 os, fun _ _ => 0, ⟨#[], #[.agg #[.slice none 0 0, .slice none 0 0, .int .i64 0, .int .i64 0]], []⟩, rfl, World.shaped_of_RefB (by kernel_rfl) (by kernel_rfl), (Input.okWide_of_okWideB (base := 0) hok).1, (Input.okWide_of_okWideB hok).2,
      OpenSpec.preRow_of_cond 8 (reads os enc) (by kernel_rfl) (fun k hk => by cases hk; kernel_rfl) (by kernel_rfl) (door_met os _), by
        simp only [Assume.holds]
        exact ⟨by simp, by simp, fun _ => Modest.zero, by simp, by simp⟩⟩ ?_
  intro W base args ds gs' before hval0 hW _ hcond hwt hL0 _ _
  have hval : ∀ (j : Nat) t v, Tryd.f3.params[j]? = some t → args[j]? = some v → Value.okWide Tryd.prog W .any base t v := hval0
  have hL : laidMetH Tryd.prog laidS W := hL0
  have hW' := hW
  obtain ⟨p, q, hA0, hV, rfl, hfz, hnd⟩ := hW
  have hA : DataW.TrodAll enc Tryd.prog W 0 (fun _ => true) true Tryd.f3.params.toList args.toList ds p := hA0
  rw [Tryd.params3] at hA hval
  obtain ⟨v0, vs0, d0, ds0, p0, q0, hargs, rfl, rfl, h0, r0⟩ := trodAll_cons hA
  obtain ⟨rfl, rfl, rfl⟩ := trodAll_nil r0
  obtain rfl : args = #[v0] := by cases args; simp_all
  obtain ⟨rfl, rfl⟩ := trodVars_none hV
  have hts : ∀ t ∈ Tryd.f3.params.toList, Tryd.prog.readableRec t = true ∧ t < Tryd.prog.types.size := by
    rw [Tryd.params3]
    intro t ht
    simp only [List.mem_cons, List.mem_nil_iff, or_false] at ht
    rcases ht with rfl <;> exact ⟨by kernel_rfl, Nat.blt_eq.mp (by kernel_rfl)⟩
  have hw0 : ∀ b ∈ d0.weights Tryd.prog 25, b ≤ reachBytes := fun b hb => of_decide_eq_true (List.all_eq_true.1 hwt b (weightsEach_mem _ _ 0 25 d0 (by rw [Tryd.params3]; rfl) rfl b hb))
  have hk0 : Rows.uptoBulk d0 ≤ 1048576 := by
    have h := of_decide_eq_true (hcond _ rfl)
    simp only [List.append_nil, Rows.uptoBulkAll] at h
    omega
  obtain ⟨x, vf, vg, rfl, hin, hnm⟩ := open_progK (K := 1048576) (hval 0 25 v0 rfl rfl) h0 hw0 hk0
  clear hA0 hval0 hwt hcond hL0
  refine (copieslaw W (pow_ok hL) (nm_ok hL) x vf vg hin hnm).mono fun e W' ⟨he, hg⟩ => ?_
  subst he
  exact ⟨_, rfl, post_of_args laidOut hW' rfl hts (fun _ _ _ => (trodAll_cons_mk (shut_bool Tryd.underlying4 _) trodAll_mk0)) rfl rfl hg⟩

theorem over : Rows.FlowCopiesUptoSaid :=
  OpenClaim.holds_of_cond 3 Tryd.f3 rfl rfl rfl rfl rfl rfl rfl ⟨rfl, rfl, rfl, rfl, rfl⟩ rfl rfl rfl rfl rfl (by kernel_rfl) Tryd.func3 (by kernel_rfl)
    (of_decide_eq_true (by kernel_rfl)) (by unfold Func.isWrapper; first | (rw [if_pos (by decide +kernel)]; kernel_rfl) | (rw [if_neg (by decide +kernel)]; exact ⟨rfl, rfl⟩))
    (fun os started H enc _ F => by rw [OpenClaim.pre_eq_preRow]; exact lifted os started H enc F)

/-- ████ THE TIED CARD OF THE SECOND FORM ████ -/
theorem proved : Rows.FlowCopiesUptoCardSaid :=
  Claim7.holds_tied_plain_at .later [] [.data, .data, .data, .data] true (true, "f291afcbdaee3f9a6a1cc8f166df88d40bed7243b96fe4f2788456dd6e12a833") false
    over (fun _ h => by cases h) (by kernel_rfl) (fun _ h => by cases h) flowCopiesUpto_row_tie rfl ⟨rfl, rfl⟩ (by kernel_rfl) rfl
    (fun f fn hf hfn => by
      obtain rfl : f = 3 := Option.some.inj ((show Tryd.prog.funcNamed "merlon/merlonlaw11.FlowCopies" = some 3 by kernel_rfl).symm.trans hf) |>.symm
      obtain rfl : fn = Tryd.f3 := (Option.some.inj (Tryd.func3.symm.trans hfn)).symm
      exact ⟨by kernel_rfl, fun j t ht => by
        rw [Tryd.params3] at ht
        have hm : t ∈ [25] := by simpa using Array.mem_of_getElem? ht
        have hall : ([25].all fun u => !Tryd.prog.wantsStandIn u) = true := by kernel_rfl
        exact (show Tryd.prog.wantsStandIn t = false by simpa using List.all_eq_true.1 hall t hm)⟩)
    (by kernel_rfl)
#print axioms proved
end Go.Proofs.YtdaildpfkchbhaaDoor.flowCopies
