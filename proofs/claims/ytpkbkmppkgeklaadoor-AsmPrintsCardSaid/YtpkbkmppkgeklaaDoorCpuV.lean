/- Walks: which instructions may be (what is asked; the first refusals). No condition. -/
import Derived.Test.YtpkbkmppkgeklaaDoorCpuU
namespace Go.Proofs.YtpkbkmppkgeklaaDoor
open Go.RowKit
set_option linter.unusedVariables false
set_option maxHeartbeats 8000000
/-- the letters of an operation, as conditions on its number -/
def lD (op : Int) : Prop := op ≤ 6 ∨ (7 ≤ op ∧ op ≤ 26) ∨ (28 ≤ op ∧ op ≤ 32) ∨ op = 36 ∨ op = 37 ∨ op = 40
def lS (op : Int) : Prop := op = 1 ∨ (3 ≤ op ∧ op ≤ 5) ∨ (7 ≤ op ∧ op ≤ 13) ∨ op = 30 ∨ op = 32
def lI (op : Int) : Prop := (2 ≤ op ∧ op ≤ 5) ∨ (14 ≤ op ∧ op ≤ 20) ∨ (24 ≤ op ∧ op ≤ 26)
def lZ (op : Int) : Prop := op = 3 ∨ op = 4 ∨ op = 30
def lG (op : Int) : Prop := op = 3 ∨ op = 30
def lC (op : Int) : Prop := op = 31 ∨ op = 32 ∨ op = 34
def lT (op : Int) : Prop := op = 6 ∨ (33 ≤ op ∧ op ≤ 35)
/-- may an instruction be? (s: 1 if it is signed; e: 1 if its label is empty) -/
def RP (op dst src imm size s cond e : Int) : Prop :=
  1 ≤ op ∧ op ≤ 41 ∧ 0 ≤ dst ∧ dst ≤ 15 ∧ 0 ≤ src ∧ src ≤ 15 ∧ (op = 2 ∨ (-2147483648 ≤ imm ∧ imm ≤ 2147483647)) ∧
  (lD op ∨ dst = 0) ∧ (lS op ∨ src = 0) ∧ (lI op ∨ imm = 0) ∧ (lZ op ∨ size = 0) ∧ (lG op ∨ ¬ s = 1) ∧ (lC op ∨ cond = 0) ∧ (lT op ∨ e = 1) ∧
  (¬ lZ op ∨ size = 1 ∨ size = 2 ∨ size = 4 ∨ (size = 8 ∧ ¬ op = 30)) ∧ ¬ (s = 1 ∧ size = 8) ∧ (¬ lC op ∨ (0 ≤ cond ∧ cond ≤ 9)) ∧ (¬ (24 ≤ op ∧ op ≤ 26) ∨ (0 ≤ imm ∧ imm ≤ 63))
def RightIs (R : Prop) (en : Ending) : Prop := ∃ b : Bool, en = .returned (.bool b) ∧ (b = true ↔ R)
theorem ret_rp_true {R : Prop} (h : R) : RightIs R (.returned (.bool true)) := ⟨true, rfl, by simpa using h⟩
theorem ret_rp_false {R : Prop} (h : ¬ R) : RightIs R (.returned (.bool false)) := ⟨false, rfl, by simpa using h⟩
theorem ret_rp {R : Prop} {b : Bool} (h : b = true ↔ R) : RightIs R (.returned (.bool b)) := ⟨b, rfl, h⟩
theorem no_arith {op dst src imm size s cond e : Int} (h : op < 1 ∨ 41 < op ∨ dst < 0 ∨ 15 < dst ∨ src < 0 ∨ 15 < src ∨ (¬ op = 2 ∧ (imm < -2147483648 ∨ 2147483647 < imm))) : ¬ RP op dst src imm size s cond e := by
  unfold RP; omega
end Go.Proofs.YtpkbkmppkgeklaaDoor
