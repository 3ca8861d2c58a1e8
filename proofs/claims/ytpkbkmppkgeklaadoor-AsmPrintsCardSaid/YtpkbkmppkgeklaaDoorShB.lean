/- What an instruction's line rests on. No condition. -/
import Derived.Test.YtpkbkmppkgeklaaDoorAsB
import Derived.Test.YtpkbkmppkgeklaaDoorCpuV
namespace Go.Proofs.YtpkbkmppkgeklaaDoor
open Go.RowKit
set_option linter.unusedVariables false
def cB (c : Int) : ByteArray := ⟨⟨condF c⟩⟩
def mvB (k : Nat) (g : Bool) : ByteArray := ⟨⟨(moveF k g).1⟩⟩
def mvN (k : Nat) (g : Bool) : Int := (moveF k g).2
def leL (k : Nat) : List UInt8 := match k with | 0 => [98] | 1 => [119] | 2 => [108] | _ => [113]
def leB (k : Nat) : ByteArray := ⟨⟨leL k⟩⟩
def movB (k : Nat) : ByteArray := match k with | 0 => ⟨#[109, 111, 118, 98, 32]⟩ | 1 => ⟨#[109, 111, 118, 119, 32]⟩ | 2 => ⟨#[109, 111, 118, 108, 32]⟩ | _ => ⟨#[109, 111, 118, 113, 32]⟩
theorem cB_size (c : Int) : (cB c).size ≤ 2 := cond_len c
theorem mvB_size (k : Nat) (g : Bool) : (mvB k g).size ≤ 6 := move_len k g
theorem leB_size (k : Nat) : (leB k).size ≤ 1 := by unfold leB leL; rw [size_mk]; split <;> decide
theorem movB_size (k : Nat) : (movB k).size ≤ 5 := by unfold movB; split <;> decide
theorem cond_b (w : World) (hN : GsOk w) (c : Int) : Calls Tryd.prog 17 #[.int .i64 c] w fun e w' => e = .returned (.string (cB c)) ∧ Below w.heap.size w w' := cond_all w hN c
theorem rcond_b (w : World) (hN : GsOk w) (c : Int) (h : 0 ≤ c ∧ c ≤ 9) : Calls Tryd.prog 35 #[.int .i64 c] w fun e w' => e = .returned (.string (cB c)) ∧ Below w.heap.size w w' := rcond_all w hN c h
theorem move_b (w : World) (hN : GsOk w) (k : Nat) (g : Bool) (hk : k < 4) : Calls Tryd.prog 14 #[.int .i64 ((2 ^ k : Nat) : Int), .bool g] w fun e w' => e = .returned (.tuple #[.string (mvB k g), .int .i64 (mvN k g)]) ∧ Below w.heap.size w w' := move_all w hN k g hk
theorem wide_b (w : World) (hN : GsOk w) (k : Nat) (g : Bool) (hk : k < 4) : Calls Tryd.prog 15 #[.int .i64 ((2 ^ k : Nat) : Int), .bool g] w fun e w' => e = .returned (.tuple #[.string (mvB k g), .int .i64 (mvN k g)]) ∧ Below w.heap.size w w' := wide_all w hN k g hk
theorem letter_b (w : World) (hN : GsOk w) (k : Nat) (hk : k < 4) : Calls Tryd.prog 28 #[.int .i64 ((2 ^ k : Nat) : Int)] w fun e w' => e = .returned (.string (leB k)) ∧ Below w.heap.size w w' :=
  match k, hk with
  | 0, _ => letter_1 w hN
  | 1, _ => letter_2 w hN
  | 2, _ => letter_4 w hN
  | 3, _ => letter_8 w hN
  | k + 4, h => by omega
theorem mvN_cases (k : Nat) (g : Bool) : mvN k g = 8 ∨ mvN k g = 4 ∨ mvN k g = 2 ∨ mvN k g = 1 := by unfold mvN moveF; split <;> simp
theorem size_cases {size : Int} (k : Nat) (hk : k < 4) (h : size = ((2 ^ k : Nat) : Int)) : size = 8 ∨ size = 4 ∨ size = 2 ∨ size = 1 := by
  have : k = 0 ∨ k = 1 ∨ k = 2 ∨ k = 3 := by omega
  rcases this with rfl | rfl | rfl | rfl <;> (rw [h]; decide)
theorem rr_i (w : World) (hN : GsOk w) (n s : Int) (hn : 0 ≤ n ∧ n ≤ 15) (hs : s = 8 ∨ s = 4 ∨ s = 2 ∨ s = 1) : Calls Tryd.prog 32 #[.int .i64 n, .int .i64 s] w fun e w' => e = .returned (.string (pS n s)) ∧ Below w.heap.size w w' := by
  obtain ⟨m, rfl⟩ : ∃ m : Nat, n = m := ⟨n.toNat, by omega⟩
  exact rr_any w hN m (by omega) s hs
theorem rat_i (w : World) (hN : GsOk w) (b : Int) (hb : 0 ≤ b ∧ b ≤ 15) (n : Int) (hn : In64 n) : Calls Tryd.prog 34 #[.int .i64 b, .int .i64 n] w fun e w' => e = .returned (.string (atB b n)) ∧ Below w.heap.size w w' := by
  obtain ⟨m, rfl⟩ : ∃ m : Nat, b = m := ⟨b.toNat, by omega⟩
  exact rat_any w hN m (by omega) n hn
/-- the instruction may be -/
def RX (op dst src imm size : Int) (g : Bool) (cond : Int) (to_ : ByteArray) : Prop := ∀ W : World, Calls Tryd.prog 23 #[.agg #[.int .i64 op, .int .i64 dst, .int .i64 src, .int .i64 imm, .int .i64 size, .bool g, .int .i64 cond, .string to_]] W fun en w' => en = .returned (.bool true) ∧ Below W.heap.size W w'
def RR (op dst src imm size : Int) (g : Bool) (cond : Int) (to_ : ByteArray) : Prop := ∀ W : World, Calls Tryd.prog 11 #[.agg #[.int .i64 op, .int .i64 dst, .int .i64 src, .int .i64 imm, .int .i64 size, .bool g, .int .i64 cond, .string to_]] W fun en w' => en = .returned (.bool true) ∧ Below W.heap.size W w'
theorem cells8 {w : World} {i : Nat} {a0 a1 a2 a3 a4 a5 a6 a7 : Value} {t : TypeId} {fr : Nat × Nat} (h : w.heap[i]? = some (.cells #[a0, a1, a2, a3, a4, a5, a6, a7] t fr)) :
    w.cell? ⟨i, 0, none⟩ = some a0 ∧ w.cell? ⟨i, 1, none⟩ = some a1 ∧ w.cell? ⟨i, 2, none⟩ = some a2 ∧ w.cell? ⟨i, 3, none⟩ = some a3 ∧ w.cell? ⟨i, 4, none⟩ = some a4 ∧ w.cell? ⟨i, 5, none⟩ = some a5 ∧ w.cell? ⟨i, 6, none⟩ = some a6 ∧ w.cell? ⟨i, 7, none⟩ = some a7 :=
  ⟨blk_cell h rfl, blk_cell h rfl, blk_cell h rfl, blk_cell h rfl, blk_cell h rfl, blk_cell h rfl, blk_cell h rfl, blk_cell h rfl⟩
end Go.Proofs.YtpkbkmppkgeklaaDoor
