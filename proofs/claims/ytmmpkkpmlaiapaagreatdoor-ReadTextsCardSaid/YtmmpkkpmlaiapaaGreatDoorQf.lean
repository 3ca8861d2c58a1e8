/- Walks: which instructions may be (what is asked; the first refusals). What an instruction's line rests on. merlonref22.Show, by operations (part 0). merlonref22.Show, by operations (part 1). merlonref22.Show, by operations (part 2). merlonref22.Show, by operations (part 3). What is known of an instruction's fields, and of the letters. Walks: which instructions may be (the first refusals). The document's Right, run: operations 2, 10, 18, 34, 36. The document's Right, run: operations 4, 5, 14, 21, 27, 40. The document's Right, run: operations 3, 9, 17, 22, 33. The document's Right, run: operations 11, 19, 23, 24, 35. The document's Right, run: operations 12, 20, 25, 28, 38. The document's Right, run: operations 13, 26, 29, 32, 39. The document's Right, run: operations 1, 7, 15, 31, 41. The document's Right, run: operations 6, 8, 16, 30, 37. The document's Right, by every operation. No condition. -/
import Derived.Test.YtmmpkkpmlaiapaaGreatDoorCpuU
import Derived.Test.YtmmpkkpmlaiapaaGreatDoorQd
import Derived.Test.YtmmpkkpmlaiapaaGreatDoorQb
namespace Go.Proofs.YtmmpkkpmlaiapaaGreatDoor
open Go.RowKit
set_option linter.unusedVariables false
set_option maxHeartbeats 8000000
def lD (op : Int) : Prop := op ≤ 6 ∨ (7 ≤ op ∧ op ≤ 26) ∨ (28 ≤ op ∧ op ≤ 32) ∨ op = 36 ∨ op = 37 ∨ op = 40
def lS (op : Int) : Prop := op = 1 ∨ (3 ≤ op ∧ op ≤ 5) ∨ (7 ≤ op ∧ op ≤ 13) ∨ op = 30 ∨ op = 32
def lI (op : Int) : Prop := (2 ≤ op ∧ op ≤ 5) ∨ (14 ≤ op ∧ op ≤ 20) ∨ (24 ≤ op ∧ op ≤ 26)
def lZ (op : Int) : Prop := op = 3 ∨ op = 4 ∨ op = 30
def lG (op : Int) : Prop := op = 3 ∨ op = 30
def lC (op : Int) : Prop := op = 31 ∨ op = 32 ∨ op = 34
def lT (op : Int) : Prop := op = 6 ∨ (33 ≤ op ∧ op ≤ 35)
def RP (op dst src imm size s cond e : Int) : Prop :=
  1 ≤ op ∧ op ≤ 41 ∧ 0 ≤ dst ∧ dst ≤ 15 ∧ 0 ≤ src ∧ src ≤ 15 ∧ (op = 2 ∨ (-2147483648 ≤ imm ∧ imm ≤ 2147483647)) ∧
  (lD op ∨ dst = 0) ∧ (lS op ∨ src = 0) ∧ (lI op ∨ imm = 0) ∧ (lZ op ∨ size = 0) ∧ (lG op ∨ ¬ s = 1) ∧ (lC op ∨ cond = 0) ∧ (lT op ∨ e = 1) ∧
  (¬ lZ op ∨ size = 1 ∨ size = 2 ∨ size = 4 ∨ (size = 8 ∧ ¬ op = 30)) ∧ ¬ (s = 1 ∧ size = 8) ∧ (¬ lC op ∨ (0 ≤ cond ∧ cond ≤ 9)) ∧ (¬ (24 ≤ op ∧ op ≤ 26) ∨ (0 ≤ imm ∧ imm ≤ 63))
def RightIs (R : Prop) (en : Ending) : Prop := ∃ b : Bool, en = .returned (.bool b) ∧ (b = true ↔ R)
theorem ret_rp_true {R : Prop} (h : R) : RightIs R (.returned (.bool true)) := ⟨true, rfl, by simpa using h⟩
theorem ret_rp_false {R : Prop} (h : ¬ R) : RightIs R (.returned (.bool false)) := ⟨false, rfl, by simpa using h⟩
theorem ret_rp {R : Prop} {b : Bool} (h : b = true ↔ R) : RightIs R (.returned (.bool b)) := ⟨b, rfl, h⟩
theorem no_arith {op dst src imm size s cond e : Int} (h : op < 1 ∨ 41 < op ∨ dst < 0 ∨ 15 < dst ∨ src < 0 ∨ 15 < src ∨ (¬ op = 2 ∧ (imm < -2147483648 ∨ 2147483647 < imm))) : ¬ RP op dst src imm size s cond e := by
  unfold RP; omega
end Go.Proofs.YtmmpkkpmlaiapaaGreatDoor
namespace Go.Proofs.YtmmpkkpmlaiapaaGreatDoor
open Go.RowKit
set_option linter.unusedVariables false
def cB (c : Int) : ByteArray := ⟨⟨condF c⟩⟩
def mvB (k : Nat) (g : Bool) : ByteArray := ⟨⟨(moveF k g).1⟩⟩
def mvN (k : Nat) (g : Bool) : Int := (moveF k g).2
def leL (k : Nat) : List UInt8 := match k with | 0 => [98] | 1 => [119] | 2 => [108] | _ => [113]
def leB (k : Nat) : ByteArray := ⟨⟨leL k⟩⟩
def movB (k : Nat) : ByteArray := match k with | 0 => ⟨#[109, 111, 118, 98, 32]⟩ | 1 => ⟨#[109, 111, 118, 119, 32]⟩ | 2 => ⟨#[109, 111, 118, 108, 32]⟩ | _ => ⟨#[109, 111, 118, 113, 32]⟩
theorem cB_size (c : Int) : (cB c).size ≤ 2 := cond_len c
theorem mvB_size (k : Nat) (g : Bool) : (mvB k g).size ≤ 6 := move_len k g
theorem leB_size (k : Nat) : (leB k).size ≤ 1 := by unfold leB leL; rw [size_mk]; split <;> decide
theorem cond_b (w : World) (hN : GsOk w) (c : Int) : Calls Tryz.prog 71 #[.int .i64 c] w fun e w' => e = .returned (.string (cB c)) ∧ Below w.heap.size w w' := cond_all w hN c
theorem move_b (w : World) (hN : GsOk w) (k : Nat) (g : Bool) (hk : k < 4) : Calls Tryz.prog 53 #[.int .i64 ((2 ^ k : Nat) : Int), .bool g] w fun e w' => e = .returned (.tuple #[.string (mvB k g), .int .i64 (mvN k g)]) ∧ Below w.heap.size w w' := move_all w hN k g hk
theorem letter_b (w : World) (hN : GsOk w) (k : Nat) (hk : k < 4) : Calls Tryz.prog 56 #[.int .i64 ((2 ^ k : Nat) : Int)] w fun e w' => e = .returned (.string (leB k)) ∧ Below w.heap.size w w' :=
  match k, hk with
  | 0, _ => letter_1 w hN
  | 1, _ => letter_2 w hN
  | 2, _ => letter_4 w hN
  | 3, _ => letter_8 w hN
  | k + 4, h => by omega
def RX (op dst src imm size : Int) (g : Bool) (cond : Int) (to_ : ByteArray) : Prop := ∀ W : World, Calls Tryz.prog 49 #[.agg #[.int .i64 op, .int .i64 dst, .int .i64 src, .int .i64 imm, .int .i64 size, .bool g, .int .i64 cond, .string to_]] W fun en w' => en = .returned (.bool true) ∧ Below W.heap.size W w'
end Go.Proofs.YtmmpkkpmlaiapaaGreatDoor
namespace Go.Proofs.YtmmpkkpmlaiapaaGreatDoor
open Go.RowKit
set_option maxRecDepth 100000
set_option linter.unusedVariables false
set_option maxHeartbeats 8000000
end Go.Proofs.YtmmpkkpmlaiapaaGreatDoor
namespace Go.Proofs.YtmmpkkpmlaiapaaGreatDoor
open Go.RowKit
set_option maxRecDepth 100000
set_option linter.unusedVariables false
set_option maxHeartbeats 8000000
end Go.Proofs.YtmmpkkpmlaiapaaGreatDoor
namespace Go.Proofs.YtmmpkkpmlaiapaaGreatDoor
open Go.RowKit
set_option maxRecDepth 100000
set_option linter.unusedVariables false
set_option maxHeartbeats 8000000
end Go.Proofs.YtmmpkkpmlaiapaaGreatDoor
namespace Go.Proofs.YtmmpkkpmlaiapaaGreatDoor
open Go.RowKit
set_option maxRecDepth 100000
set_option linter.unusedVariables false
set_option maxHeartbeats 8000000
end Go.Proofs.YtmmpkkpmlaiapaaGreatDoor
namespace Go.Proofs.YtmmpkkpmlaiapaaGreatDoor
open Go.RowKit
set_option linter.unusedVariables false
theorem mixedR : Tryz.prog.follows .mixedOrders = true := by kernel_rfl
def Tab.fn (P : Program) (g : FuncId) (F : List Value → Option Value) (hF : ∀ xs v, F xs = some v → pf v = true ∧ pfs xs = true ∧ ∀ w, Calls P g xs.toArray w fun e w' => e = .returned v ∧ Below w.heap.size w w') : Tab P :=
  ⟨fun f' xs => bif f'.beq g then F xs else Option.none, [], [], fun f' xs v hv => by
    cases hb : Nat.beq f' g with
    | false => rw [hb] at hv; cases hv
    | true =>
      rw [hb] at hv
      simp only [cond_true] at hv
      have := Nat.eq_of_beq_eq_true hb
      subst this
      obtain ⟨h1, h2, h3⟩ := hF xs v hv
      refine ⟨h1, fun D β xs' w _ hl => ?_⟩
      rw [pfs_LR_eq h2 hl]
      exact h3 w⟩
def usesF : List Value → Option Value
  | [.int k op] => if k = .i64 ∧ 1 ≤ op ∧ op ≤ 41 then some (.string (usesS op)) else Option.none
  | _ => Option.none
def hasF : List Value → Option Value
  | [.string s, .int k c] => if k = .u8 ∧ s.size ≤ 100 then some (.bool (hasL s c)) else Option.none
  | _ => Option.none
theorem usesF_ok : ∀ xs v, usesF xs = some v → pf v = true ∧ pfs xs = true ∧ ∀ w, Calls Tryz.prog 28 xs.toArray w fun e w' => e = .returned v ∧ Below w.heap.size w w' := by
  intro xs v hv
  unfold usesF at hv
  split at hv
  · split at hv
    · rename_i h
      simp only [Option.some.injEq] at hv
      subst hv
      obtain ⟨rfl, h1, h2⟩ := h
      refine ⟨rfl, rfl, fun w => (uses_walk _ w ⟨h1, h2⟩).mono ?_⟩
      rintro e w' ⟨rfl, rfl⟩
      exact ⟨rfl, Below.refl _ _⟩
    · cases hv
  · cases hv
theorem hasF_ok : ∀ xs v, hasF xs = some v → pf v = true ∧ pfs xs = true ∧ ∀ w, Calls Tryz.prog 29 xs.toArray w fun e w' => e = .returned v ∧ Below w.heap.size w w' := by
  intro xs v hv
  unfold hasF at hv
  split at hv
  · split at hv
    · rename_i h
      simp only [Option.some.injEq] at hv
      subst hv
      obtain ⟨rfl, h1⟩ := h
      refine ⟨rfl, rfl, fun w => (has_walk _ _ w h1).mono ?_⟩
      rintro e w' ⟨rfl, rfl⟩
      exact ⟨rfl, Below.refl _ _⟩
    · cases hv
  · cases hv
noncomputable def tabR : Tab Tryz.prog := Tab.and (Tab.fn Tryz.prog 28 usesF usesF_ok) (Tab.fn Tryz.prog 29 hasF hasF_ok) rfl
theorem kn_nil (ρ : Int → Int) : KnowOk ρ [] := fun p hp => by cases hp
theorem kn_cons {ρ : Int → Int} {n : Value} {b : Bool} {H : Know} (h : den ρ n = some (.bool b)) (hH : KnowOk ρ H) : KnowOk ρ ((n, .bool b) :: H) := by
  intro p hp
  rcases List.mem_cons.1 hp with rfl | hp
  · exact ⟨h, rfl⟩
  · exact hH p hp
theorem kn_lss {ρ : Int → Int} (m l : Int) (b : Bool) (h : decide (ρ m < l) = b) : den ρ (symNode .lss .i64 (mark .i64 m) (.int .i64 l)) = some (.bool b) := den_cmp rfl (den_mark _ _ _) (den_lit _ _ _) (by simp only [evB2, isShift, evB, h]; rfl)
theorem kn_gtr {ρ : Int → Int} (m l : Int) (b : Bool) (h : decide (ρ m > l) = b) : den ρ (symNode .gtr .i64 (mark .i64 m) (.int .i64 l)) = some (.bool b) := den_cmp rfl (den_mark _ _ _) (den_lit _ _ _) (by simp only [evB2, isShift, evB, h]; rfl)
theorem kn_neq {ρ : Int → Int} (m l : Int) (b : Bool) (h : decide (ρ m ≠ l) = b) : den ρ (symNode .neq .i64 (mark .i64 m) (.int .i64 l)) = some (.bool b) := den_cmp rfl (den_mark _ _ _) (den_lit _ _ _) (by subst h; by_cases hh : ρ m = l <;> simp [evB2, isShift, evB, hh])
end Go.Proofs.YtmmpkkpmlaiapaaGreatDoor
namespace Go.Proofs.YtmmpkkpmlaiapaaGreatDoor
open Go.RowKit
set_option linter.unusedVariables false
set_option maxHeartbeats 8000000
end Go.Proofs.YtmmpkkpmlaiapaaGreatDoor
namespace Go.Proofs.YtmmpkkpmlaiapaaGreatDoor
open Go.RowKit
set_option linter.unusedVariables false
end Go.Proofs.YtmmpkkpmlaiapaaGreatDoor
namespace Go.Proofs.YtmmpkkpmlaiapaaGreatDoor
open Go.RowKit
set_option linter.unusedVariables false
end Go.Proofs.YtmmpkkpmlaiapaaGreatDoor
namespace Go.Proofs.YtmmpkkpmlaiapaaGreatDoor
open Go.RowKit
set_option linter.unusedVariables false
end Go.Proofs.YtmmpkkpmlaiapaaGreatDoor
namespace Go.Proofs.YtmmpkkpmlaiapaaGreatDoor
open Go.RowKit
set_option linter.unusedVariables false
end Go.Proofs.YtmmpkkpmlaiapaaGreatDoor
namespace Go.Proofs.YtmmpkkpmlaiapaaGreatDoor
open Go.RowKit
set_option linter.unusedVariables false
end Go.Proofs.YtmmpkkpmlaiapaaGreatDoor
namespace Go.Proofs.YtmmpkkpmlaiapaaGreatDoor
open Go.RowKit
set_option linter.unusedVariables false
end Go.Proofs.YtmmpkkpmlaiapaaGreatDoor
namespace Go.Proofs.YtmmpkkpmlaiapaaGreatDoor
open Go.RowKit
set_option linter.unusedVariables false
end Go.Proofs.YtmmpkkpmlaiapaaGreatDoor
namespace Go.Proofs.YtmmpkkpmlaiapaaGreatDoor
open Go.RowKit
set_option linter.unusedVariables false
end Go.Proofs.YtmmpkkpmlaiapaaGreatDoor
namespace Go.Proofs.YtmmpkkpmlaiapaaGreatDoor
open Go.RowKit
set_option linter.unusedVariables false
end Go.Proofs.YtmmpkkpmlaiapaaGreatDoor
