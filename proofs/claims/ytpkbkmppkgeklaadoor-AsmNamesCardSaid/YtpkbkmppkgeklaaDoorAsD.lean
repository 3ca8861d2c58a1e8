/- asm.Cond beyond its letters; the document's table of registers, run. No condition. -/
import Derived.Test.YtpkbkmppkgeklaaDoorAsC
namespace Go.Proofs.YtpkbkmppkgeklaaDoor
open Go.RowKit
set_option linter.unusedVariables false
def cLow : Value := symNode .lss .i64 (mark .i64 0) (.int .i64 0)
def cHigh : Value := symNode .geq .i64 (mark .i64 0) (.int .i64 10)
theorem clow_ok {c : Int} (h : c < 0) : KnowOk (fun _ => c) [(cLow, .bool true)] := by
  intro p hp
  simp only [List.mem_cons, List.mem_nil_iff, or_false] at hp
  subst hp
  refine ⟨den_cmp rfl (den_mark _ _ _) (den_lit _ _ _) ?_, rfl⟩
  simp [evB2, isShift, evB, h]
theorem chigh_ok {c : Int} (h : ¬ c < 0) (h2 : 10 ≤ c) : KnowOk (fun _ => c) [(cLow, .bool false), (cHigh, .bool true)] := by
  intro p hp
  simp only [List.mem_cons, List.mem_nil_iff, or_false] at hp
  rcases hp with rfl | rfl <;> refine ⟨den_cmp rfl (den_mark _ _ _) (den_lit _ _ _) ?_, rfl⟩ <;> simp [evB2, isShift, evB, h, h2]
theorem cond_low (w : World) (hN : NeedOk gs w ∧ gn ≤ w.heap.size) (c : Int) (h : c < 0) : Calls Tryd.prog 17 #[.int .i64 c] w fun e w' => e = .returned (.string ⟨⟨[]⟩⟩) ∧ Below w.heap.size w w' :=
  vrunG (Sy.ints Tryd.prog (fun _ => c) _ (clow_ok h) (Tab.none _) gn) mixed 100000 60 17 gn gs [mark .i64 0] [.int .i64 c] _ (fun g hg => Nat.blt_eq.mp hg) w hN.2 gs_ok hN.1 (fun β => LR.cons (mark_vr (fun _ => c) β .i64 0) LR.nil) rfl (by kernel_rfl)
theorem cond_high (w : World) (hN : NeedOk gs w ∧ gn ≤ w.heap.size) (c : Int) (h : ¬ c < 0) (h2 : 10 ≤ c) : Calls Tryd.prog 17 #[.int .i64 c] w fun e w' => e = .returned (.string ⟨⟨[]⟩⟩) ∧ Below w.heap.size w w' :=
  vrunG (Sy.ints Tryd.prog (fun _ => c) _ (chigh_ok h h2) (Tab.none _) gn) mixed 100000 60 17 gn gs [mark .i64 0] [.int .i64 c] _ (fun g hg => Nat.blt_eq.mp hg) w hN.2 gs_ok hN.1 (fun β => LR.cons (mark_vr (fun _ => c) β .i64 0) LR.nil) rfl (by kernel_rfl)
end Go.Proofs.YtpkbkmppkgeklaaDoor
