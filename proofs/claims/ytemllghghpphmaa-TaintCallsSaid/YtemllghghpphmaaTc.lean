/- TaintCalls: the law run. No condition. -/
import Derived.Test.YtemllghghpphmaaVmK
import Derived.Test.YtemllghghpphmaaFit15
namespace Go.Proofs.Ytemllghghpphmaa
open Go.RowKit
set_option linter.unusedVariables false
def fitTab : Tab Try.prog := Tab.one Try.prog 5 (.bool true) rfl fit_vm
def knowT (r : Nat) : Know := [(markMod 0 5, .int .i64 r)]
theorem knowT_ok {n : Int} {r : Nat} (h : evB2 .rem .i64 (IntKind.i64.wrap (n.tmod (5 : Nat) + (5 : Nat))) .i64 (5 : Nat) = some (.int .i64 r)) : KnowOk (fun _ => n) (knowT r) := by
  intro p hp
  simp only [knowT, List.mem_cons, List.mem_nil_iff, or_false] at hp
  subst hp
  exact ⟨den_mod (by decide) h, rfl⟩
theorem calls_of (s t : Bool) (n : Int) (w : World) (r : Nat) (h0 : evB2 .rem .i64 (IntKind.i64.wrap (n.tmod (5 : Nat) + (5 : Nat))) .i64 (5 : Nat) = some (.int .i64 r))
    (h : (vcall (Sy.ints Try.prog (fun _ => n) (knowT r) (knowT_ok h0) fitTab) 100000 60 0 3 [.bool s, .bool t, mark .i64 0] VW.empty).map (·.1) = some (.bool true)) :
    Calls Try.prog 3 #[.bool s, .bool t, .int .i64 n] w fun e w' => e = .returned (.bool true) ∧ Below w.heap.size w w' :=
  vrunS _ mixed 100000 60 3 _ [.bool s, .bool t, .int .i64 n] (.bool true) (fun β => LR.cons (.bool s) (LR.cons (.bool t) (LR.cons (mark_vr (fun _ => n) β .i64 0) LR.nil))) rfl h w
theorem calls_0ff (n : Int) (w : World) (h : evB2 .rem .i64 (IntKind.i64.wrap (n.tmod (5 : Nat) + (5 : Nat))) .i64 (5 : Nat) = some (.int .i64 (0 : Nat))) :
    Calls Try.prog 3 #[.bool false, .bool false, .int .i64 n] w fun e w' => e = .returned (.bool true) ∧ Below w.heap.size w w' :=
  calls_of false false n w 0 h (by kernel_rfl)
theorem calls_0ft (n : Int) (w : World) (h : evB2 .rem .i64 (IntKind.i64.wrap (n.tmod (5 : Nat) + (5 : Nat))) .i64 (5 : Nat) = some (.int .i64 (0 : Nat))) :
    Calls Try.prog 3 #[.bool false, .bool true, .int .i64 n] w fun e w' => e = .returned (.bool true) ∧ Below w.heap.size w w' :=
  calls_of false true n w 0 h (by kernel_rfl)
theorem calls_0tf (n : Int) (w : World) (h : evB2 .rem .i64 (IntKind.i64.wrap (n.tmod (5 : Nat) + (5 : Nat))) .i64 (5 : Nat) = some (.int .i64 (0 : Nat))) :
    Calls Try.prog 3 #[.bool true, .bool false, .int .i64 n] w fun e w' => e = .returned (.bool true) ∧ Below w.heap.size w w' :=
  calls_of true false n w 0 h (by kernel_rfl)
theorem calls_0tt (n : Int) (w : World) (h : evB2 .rem .i64 (IntKind.i64.wrap (n.tmod (5 : Nat) + (5 : Nat))) .i64 (5 : Nat) = some (.int .i64 (0 : Nat))) :
    Calls Try.prog 3 #[.bool true, .bool true, .int .i64 n] w fun e w' => e = .returned (.bool true) ∧ Below w.heap.size w w' :=
  calls_of true true n w 0 h (by kernel_rfl)
theorem calls_1ff (n : Int) (w : World) (h : evB2 .rem .i64 (IntKind.i64.wrap (n.tmod (5 : Nat) + (5 : Nat))) .i64 (5 : Nat) = some (.int .i64 (1 : Nat))) :
    Calls Try.prog 3 #[.bool false, .bool false, .int .i64 n] w fun e w' => e = .returned (.bool true) ∧ Below w.heap.size w w' :=
  calls_of false false n w 1 h (by kernel_rfl)
theorem calls_1ft (n : Int) (w : World) (h : evB2 .rem .i64 (IntKind.i64.wrap (n.tmod (5 : Nat) + (5 : Nat))) .i64 (5 : Nat) = some (.int .i64 (1 : Nat))) :
    Calls Try.prog 3 #[.bool false, .bool true, .int .i64 n] w fun e w' => e = .returned (.bool true) ∧ Below w.heap.size w w' :=
  calls_of false true n w 1 h (by kernel_rfl)
theorem calls_1tf (n : Int) (w : World) (h : evB2 .rem .i64 (IntKind.i64.wrap (n.tmod (5 : Nat) + (5 : Nat))) .i64 (5 : Nat) = some (.int .i64 (1 : Nat))) :
    Calls Try.prog 3 #[.bool true, .bool false, .int .i64 n] w fun e w' => e = .returned (.bool true) ∧ Below w.heap.size w w' :=
  calls_of true false n w 1 h (by kernel_rfl)
theorem calls_1tt (n : Int) (w : World) (h : evB2 .rem .i64 (IntKind.i64.wrap (n.tmod (5 : Nat) + (5 : Nat))) .i64 (5 : Nat) = some (.int .i64 (1 : Nat))) :
    Calls Try.prog 3 #[.bool true, .bool true, .int .i64 n] w fun e w' => e = .returned (.bool true) ∧ Below w.heap.size w w' :=
  calls_of true true n w 1 h (by kernel_rfl)
theorem calls_2ff (n : Int) (w : World) (h : evB2 .rem .i64 (IntKind.i64.wrap (n.tmod (5 : Nat) + (5 : Nat))) .i64 (5 : Nat) = some (.int .i64 (2 : Nat))) :
    Calls Try.prog 3 #[.bool false, .bool false, .int .i64 n] w fun e w' => e = .returned (.bool true) ∧ Below w.heap.size w w' :=
  calls_of false false n w 2 h (by kernel_rfl)
theorem calls_2ft (n : Int) (w : World) (h : evB2 .rem .i64 (IntKind.i64.wrap (n.tmod (5 : Nat) + (5 : Nat))) .i64 (5 : Nat) = some (.int .i64 (2 : Nat))) :
    Calls Try.prog 3 #[.bool false, .bool true, .int .i64 n] w fun e w' => e = .returned (.bool true) ∧ Below w.heap.size w w' :=
  calls_of false true n w 2 h (by kernel_rfl)
theorem calls_2tf (n : Int) (w : World) (h : evB2 .rem .i64 (IntKind.i64.wrap (n.tmod (5 : Nat) + (5 : Nat))) .i64 (5 : Nat) = some (.int .i64 (2 : Nat))) :
    Calls Try.prog 3 #[.bool true, .bool false, .int .i64 n] w fun e w' => e = .returned (.bool true) ∧ Below w.heap.size w w' :=
  calls_of true false n w 2 h (by kernel_rfl)
theorem calls_2tt (n : Int) (w : World) (h : evB2 .rem .i64 (IntKind.i64.wrap (n.tmod (5 : Nat) + (5 : Nat))) .i64 (5 : Nat) = some (.int .i64 (2 : Nat))) :
    Calls Try.prog 3 #[.bool true, .bool true, .int .i64 n] w fun e w' => e = .returned (.bool true) ∧ Below w.heap.size w w' :=
  calls_of true true n w 2 h (by kernel_rfl)
theorem calls_3ff (n : Int) (w : World) (h : evB2 .rem .i64 (IntKind.i64.wrap (n.tmod (5 : Nat) + (5 : Nat))) .i64 (5 : Nat) = some (.int .i64 (3 : Nat))) :
    Calls Try.prog 3 #[.bool false, .bool false, .int .i64 n] w fun e w' => e = .returned (.bool true) ∧ Below w.heap.size w w' :=
  calls_of false false n w 3 h (by kernel_rfl)
theorem calls_3ft (n : Int) (w : World) (h : evB2 .rem .i64 (IntKind.i64.wrap (n.tmod (5 : Nat) + (5 : Nat))) .i64 (5 : Nat) = some (.int .i64 (3 : Nat))) :
    Calls Try.prog 3 #[.bool false, .bool true, .int .i64 n] w fun e w' => e = .returned (.bool true) ∧ Below w.heap.size w w' :=
  calls_of false true n w 3 h (by kernel_rfl)
theorem calls_3tf (n : Int) (w : World) (h : evB2 .rem .i64 (IntKind.i64.wrap (n.tmod (5 : Nat) + (5 : Nat))) .i64 (5 : Nat) = some (.int .i64 (3 : Nat))) :
    Calls Try.prog 3 #[.bool true, .bool false, .int .i64 n] w fun e w' => e = .returned (.bool true) ∧ Below w.heap.size w w' :=
  calls_of true false n w 3 h (by kernel_rfl)
theorem calls_3tt (n : Int) (w : World) (h : evB2 .rem .i64 (IntKind.i64.wrap (n.tmod (5 : Nat) + (5 : Nat))) .i64 (5 : Nat) = some (.int .i64 (3 : Nat))) :
    Calls Try.prog 3 #[.bool true, .bool true, .int .i64 n] w fun e w' => e = .returned (.bool true) ∧ Below w.heap.size w w' :=
  calls_of true true n w 3 h (by kernel_rfl)
theorem calls_4ff (n : Int) (w : World) (h : evB2 .rem .i64 (IntKind.i64.wrap (n.tmod (5 : Nat) + (5 : Nat))) .i64 (5 : Nat) = some (.int .i64 (4 : Nat))) :
    Calls Try.prog 3 #[.bool false, .bool false, .int .i64 n] w fun e w' => e = .returned (.bool true) ∧ Below w.heap.size w w' :=
  calls_of false false n w 4 h (by kernel_rfl)
theorem calls_4ft (n : Int) (w : World) (h : evB2 .rem .i64 (IntKind.i64.wrap (n.tmod (5 : Nat) + (5 : Nat))) .i64 (5 : Nat) = some (.int .i64 (4 : Nat))) :
    Calls Try.prog 3 #[.bool false, .bool true, .int .i64 n] w fun e w' => e = .returned (.bool true) ∧ Below w.heap.size w w' :=
  calls_of false true n w 4 h (by kernel_rfl)
theorem calls_4tf (n : Int) (w : World) (h : evB2 .rem .i64 (IntKind.i64.wrap (n.tmod (5 : Nat) + (5 : Nat))) .i64 (5 : Nat) = some (.int .i64 (4 : Nat))) :
    Calls Try.prog 3 #[.bool true, .bool false, .int .i64 n] w fun e w' => e = .returned (.bool true) ∧ Below w.heap.size w w' :=
  calls_of true false n w 4 h (by kernel_rfl)
theorem calls_4tt (n : Int) (w : World) (h : evB2 .rem .i64 (IntKind.i64.wrap (n.tmod (5 : Nat) + (5 : Nat))) .i64 (5 : Nat) = some (.int .i64 (4 : Nat))) :
    Calls Try.prog 3 #[.bool true, .bool true, .int .i64 n] w fun e w' => e = .returned (.bool true) ∧ Below w.heap.size w w' :=
  calls_of true true n w 4 h (by kernel_rfl)
theorem calls_law (s t : Bool) (n : Int) (w : World) (hn : In64 n) : Calls Try.prog 3 #[.bool s, .bool t, .int .i64 n] w fun e w' => e = .returned (.bool true) ∧ Below w.heap.size w w' := by
  obtain ⟨r, hr, h⟩ := modk n 5 (by decide) (by decide)
  have hc : r = 0 ∨ r = 1 ∨ r = 2 ∨ r = 3 ∨ r = 4 := by omega
  clear hr
  rcases hc with rfl | rfl | rfl | rfl | rfl
  · match s, t with
    | false, false => exact calls_0ff n w h
    | false, true => exact calls_0ft n w h
    | true, false => exact calls_0tf n w h
    | true, true => exact calls_0tt n w h
  · match s, t with
    | false, false => exact calls_1ff n w h
    | false, true => exact calls_1ft n w h
    | true, false => exact calls_1tf n w h
    | true, true => exact calls_1tt n w h
  · match s, t with
    | false, false => exact calls_2ff n w h
    | false, true => exact calls_2ft n w h
    | true, false => exact calls_2tf n w h
    | true, true => exact calls_2tt n w h
  · match s, t with
    | false, false => exact calls_3ff n w h
    | false, true => exact calls_3ft n w h
    | true, false => exact calls_3tf n w h
    | true, true => exact calls_3tt n w h
  · match s, t with
    | false, false => exact calls_4ff n w h
    | false, true => exact calls_4ft n w h
    | true, false => exact calls_4tf n w h
    | true, true => exact calls_4tt n w h
end Go.Proofs.Ytemllghghpphmaa
