/- The names of registers: the table, and how they are run. No condition. -/
import Derived.Test.YtinamdcmkamlhaaGreatDoorGl
import Derived.Test.YtinamdcmkamlhaaGreatDoorVmD
import Derived.Test.YtinamdcmkamlhaaGreatDoorChecked
namespace Go.Proofs.YtinamdcmkamlhaaGreatDoor
open Go.RowKit
set_option linter.unusedVariables false
theorem mixed : Tryz.prog.follows .mixedOrders = true := by kernel_rfl
def regT : List (List UInt8) := [[97, 108], [97, 120], [101, 97, 120], [114, 97, 120], [99, 108], [99, 120], [101, 99, 120], [114, 99, 120], [100, 108], [100, 120], [101, 100, 120], [114, 100, 120], [98, 108], [98, 120], [101, 98, 120], [114, 98, 120], [115, 112, 108], [115, 112], [101, 115, 112], [114, 115, 112], [98, 112, 108], [98, 112], [101, 98, 112], [114, 98, 112], [115, 105, 108], [115, 105], [101, 115, 105], [114, 115, 105], [100, 105, 108], [100, 105], [101, 100, 105], [114, 100, 105], [114, 56, 98], [114, 56, 119], [114, 56, 100], [114, 56], [114, 57, 98], [114, 57, 119], [114, 57, 100], [114, 57], [114, 49, 48, 98], [114, 49, 48, 119], [114, 49, 48, 100], [114, 49, 48], [114, 49, 49, 98], [114, 49, 49, 119], [114, 49, 49, 100], [114, 49, 49], [114, 49, 50, 98], [114, 49, 50, 119], [114, 49, 50, 100], [114, 49, 50], [114, 49, 51, 98], [114, 49, 51, 119], [114, 49, 51, 100], [114, 49, 51], [114, 49, 52, 98], [114, 49, 52, 119], [114, 49, 52, 100], [114, 49, 52], [114, 49, 53, 98], [114, 49, 53, 119], [114, 49, 53, 100], [114, 49, 53]]
/-- the name of register r for 2^k bytes -/
def regN (r k : Nat) : List UInt8 := regT.getD (r * 4 + k) []
theorem reg_of (w : World) (hN : NeedOk gs w ∧ gn ≤ w.heap.size) (r x : Int) (v : List UInt8) (h : (vcall (Sy.none Tryz.prog (fun _ => none) gn) 100000 60 gn 86 [.int .i64 r, .int .i64 x] (globW gn gs)).map (·.1) = some (.string ⟨⟨v⟩⟩)) :
    Calls Tryz.prog 86 #[.int .i64 r, .int .i64 x] w fun e w' => e = .returned (.string ⟨⟨v⟩⟩) ∧ Below w.heap.size w w' :=
  vrunG _ mixed 100000 60 86 gn gs _ _ _ (fun g hg => Nat.blt_eq.mp hg) w hN.2 gs_ok hN.1 (fun _ => LR.of_pfs rfl) rfl h
def sizeIs (n : Nat) : Value := symNode .eql .i64 (mark .i64 0) (.int .i64 n)
def knowS : Know := [(sizeIs 8, .bool false), (sizeIs 4, .bool false), (sizeIs 2, .bool false), (sizeIs 1, .bool false)]
theorem knowS_ok {x : Int} (h : x ≠ 8 ∧ x ≠ 4 ∧ x ≠ 2 ∧ x ≠ 1) : KnowOk (fun _ => x) knowS := by
  intro p hp
  obtain ⟨h1, h2, h3, h4⟩ := h
  simp only [knowS, List.mem_cons, List.mem_nil_iff, or_false] at hp
  rcases hp with rfl | rfl | rfl | rfl <;> refine ⟨den_cmp rfl (den_mark _ _ _) (den_lit _ _ _) ?_, rfl⟩ <;> simp [evB2, isShift, evB, *]
theorem reg_other (w : World) (hN : NeedOk gs w ∧ gn ≤ w.heap.size) (r x : Int) (hx : x ≠ 8 ∧ x ≠ 4 ∧ x ≠ 2 ∧ x ≠ 1) (h : (vcall (Sy.ints Tryz.prog (fun _ => x) knowS (knowS_ok hx) (Tab.none _) gn) 100000 60 gn 86 [.int .i64 r, mark .i64 0] (globW gn gs)).map (·.1) = some (.string ⟨⟨[]⟩⟩)) :
    Calls Tryz.prog 86 #[.int .i64 r, .int .i64 x] w fun e w' => e = .returned (.string ⟨⟨[]⟩⟩) ∧ Below w.heap.size w w' :=
  vrunG _ mixed 100000 60 86 gn gs _ [.int .i64 r, .int .i64 x] _ (fun g hg => Nat.blt_eq.mp hg) w hN.2 gs_ok hN.1 (fun β => LR.cons (.int .i64 r) (LR.cons (mark_vr (fun _ => x) β .i64 0) LR.nil)) rfl h
end Go.Proofs.YtinamdcmkamlhaaGreatDoor
