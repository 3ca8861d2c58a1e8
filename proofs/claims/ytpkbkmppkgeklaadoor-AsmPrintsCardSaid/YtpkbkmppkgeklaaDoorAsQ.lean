/- asm's and the document's small functions at all their arguments. No condition. -/
import Derived.Test.YtpkbkmppkgeklaaDoorGs
import Derived.Test.YtpkbkmppkgeklaaDoorAsE
import Derived.Test.YtpkbkmppkgeklaaDoorAsR
namespace Go.Proofs.YtpkbkmppkgeklaaDoor
open Go.RowKit
set_option linter.unusedVariables false
set_option maxHeartbeats 4000000
/-- a register's name -/
def wantF (r x : Int) : List UInt8 := if 0 ≤ r ∧ r ≤ 15 then (if x = 8 then regN r.toNat 3 else if x = 4 then regN r.toNat 2 else if x = 2 then regN r.toNat 1 else if x = 1 then regN r.toNat 0 else []) else []
theorem reg_all (w : World) (hN : GsOk w) (r x : Int) : Calls Tryd.prog 16 #[.int .i64 r, .int .i64 x] w fun e w' => e = .returned (.string ⟨⟨wantF r x⟩⟩) ∧ Below w.heap.size w w' := by
  unfold wantF
  by_cases h0 : r < 0
  · rw [if_neg (by omega)]; exact reg_low w r x h0
  by_cases h1 : 15 < r
  · rw [if_neg (by omega)]; exact reg_high w r x h0 h1
  rw [if_pos (by omega)]
  obtain ⟨n, rfl⟩ : ∃ n : Nat, r = n := ⟨r.toNat, by omega⟩
  have hn : n < 16 := by omega
  rw [Int.toNat_natCast]
  by_cases h8 : x = 8
  · subst h8; rw [if_pos rfl]; exact reg_sizes w hN n 3 hn (by decide)
  rw [if_neg h8]
  by_cases h4 : x = 4
  · subst h4; rw [if_pos rfl]; exact reg_sizes w hN n 2 hn (by decide)
  rw [if_neg h4]
  by_cases h2 : x = 2
  · subst h2; rw [if_pos rfl]; exact reg_sizes w hN n 1 hn (by decide)
  rw [if_neg h2]
  by_cases hx1 : x = 1
  · subst hx1; rw [if_pos rfl]; exact reg_sizes w hN n 0 hn (by decide)
  rw [if_neg hx1]
  exact reg_else w hN n x hn ⟨h8, h4, h2, hx1⟩
def condT : List (List UInt8) := [[101], [110, 101], [108], [108, 101], [103], [103, 101], [98], [98, 101], [97], [97, 101]]
/-- a condition's letters -/
def condF (c : Int) : List UInt8 := if 0 ≤ c ∧ c ≤ 9 then condT.getD c.toNat [] else []
theorem cond_all (w : World) (hN : GsOk w) (c : Int) : Calls Tryd.prog 17 #[.int .i64 c] w fun e w' => e = .returned (.string ⟨⟨condF c⟩⟩) ∧ Below w.heap.size w w' := by
  unfold condF
  by_cases h0 : c < 0
  · rw [if_neg (by omega)]; exact cond_low w hN c h0
  by_cases h1 : 9 < c
  · rw [if_neg (by omega)]; exact cond_high w hN c h0 (by omega)
  rw [if_pos (by omega)]
  have : c = 0 ∨ c = 1 ∨ c = 2 ∨ c = 3 ∨ c = 4 ∨ c = 5 ∨ c = 6 ∨ c = 7 ∨ c = 8 ∨ c = 9 := by omega
  rcases this with rfl | rfl | rfl | rfl | rfl | rfl | rfl | rfl | rfl | rfl
  · exact cond_0 w hN
  · exact cond_1 w hN
  · exact cond_2 w hN
  · exact cond_3 w hN
  · exact cond_4 w hN
  · exact cond_5 w hN
  · exact cond_6 w hN
  · exact cond_7 w hN
  · exact cond_8 w hN
  · exact cond_9 w hN
theorem rcond_all (w : World) (hN : GsOk w) (c : Int) (h : 0 ≤ c ∧ c ≤ 9) : Calls Tryd.prog 35 #[.int .i64 c] w fun e w' => e = .returned (.string ⟨⟨condF c⟩⟩) ∧ Below w.heap.size w w' := by
  unfold condF
  rw [if_pos h]
  have : c = 0 ∨ c = 1 ∨ c = 2 ∨ c = 3 ∨ c = 4 ∨ c = 5 ∨ c = 6 ∨ c = 7 ∨ c = 8 ∨ c = 9 := by omega
  rcases this with rfl | rfl | rfl | rfl | rfl | rfl | rfl | rfl | rfl | rfl
  · exact rcond_0 w hN
  · exact rcond_1 w hN
  · exact rcond_2 w hN
  · exact rcond_3 w hN
  · exact rcond_4 w hN
  · exact rcond_5 w hN
  · exact rcond_6 w hN
  · exact rcond_7 w hN
  · exact rcond_8 w hN
  · exact rcond_9 w hN
theorem cond_at {c : Nat} (h : c < 10) : (#[Value.string ⟨⟨[101]⟩⟩, .string ⟨⟨[110, 101]⟩⟩, .string ⟨⟨[108]⟩⟩, .string ⟨⟨[108, 101]⟩⟩, .string ⟨⟨[103]⟩⟩, .string ⟨⟨[103, 101]⟩⟩, .string ⟨⟨[98]⟩⟩, .string ⟨⟨[98, 101]⟩⟩, .string ⟨⟨[97]⟩⟩, .string ⟨⟨[97, 101]⟩⟩])[c]? = some (.string ⟨⟨condF c⟩⟩) := by
  have : c = 0 ∨ c = 1 ∨ c = 2 ∨ c = 3 ∨ c = 4 ∨ c = 5 ∨ c = 6 ∨ c = 7 ∨ c = 8 ∨ c = 9 := by omega
  rcases this with rfl | rfl | rfl | rfl | rfl | rfl | rfl | rfl | rfl | rfl <;> rfl
theorem cond_list {n : Nat} (h : n < 10) : [Value.string { data := #[101] }, Value.string { data := #[110, 101] }, Value.string { data := #[108] }, Value.string { data := #[108, 101] }, Value.string { data := #[103] }, Value.string { data := #[103, 101] }, Value.string { data := #[98] }, Value.string { data := #[98, 101] }, Value.string { data := #[97] }, Value.string { data := #[97, 101] }][n]'h = .string ⟨⟨condF n⟩⟩ := by
  have : n = 0 ∨ n = 1 ∨ n = 2 ∨ n = 3 ∨ n = 4 ∨ n = 5 ∨ n = 6 ∨ n = 7 ∨ n = 8 ∨ n = 9 := by omega
  rcases this with rfl | rfl | rfl | rfl | rfl | rfl | rfl | rfl | rfl | rfl <;> rfl
/-- what widens 2^k bytes: its name, the size that it makes -/
def moveF (k : Nat) (g : Bool) : List UInt8 × Int :=
  match k, g with
  | 0, true => ([109, 111, 118, 115, 98, 113], 8)
  | 0, false => ([109, 111, 118, 122, 98, 113], 8)
  | 1, true => ([109, 111, 118, 115, 119, 113], 8)
  | 1, false => ([109, 111, 118, 122, 119, 113], 8)
  | 2, true => ([109, 111, 118, 115, 108, 113], 8)
  | 2, false => ([109, 111, 118, 108], 4)
  | _, _ => ([109, 111, 118, 113], 8)
theorem move_all (w : World) (hN : GsOk w) (k : Nat) (g : Bool) (hk : k < 4) : Calls Tryd.prog 14 #[.int .i64 ((2 ^ k : Nat) : Int), .bool g] w fun e w' => e = .returned (.tuple #[.string ⟨⟨(moveF k g).1⟩⟩, .int .i64 (moveF k g).2]) ∧ Below w.heap.size w w' :=
  match k, g, hk with
  | 0, true, _ => move_1_1 w hN
  | 0, false, _ => move_1_0 w hN
  | 1, true, _ => move_2_1 w hN
  | 1, false, _ => move_2_0 w hN
  | 2, true, _ => move_4_1 w hN
  | 2, false, _ => move_4_0 w hN
  | 3, true, _ => move_8_1 w hN
  | 3, false, _ => move_8_0 w hN
  | k + 4, _, h => by omega
theorem wide_all (w : World) (hN : GsOk w) (k : Nat) (g : Bool) (hk : k < 4) : Calls Tryd.prog 15 #[.int .i64 ((2 ^ k : Nat) : Int), .bool g] w fun e w' => e = .returned (.tuple #[.string ⟨⟨(moveF k g).1⟩⟩, .int .i64 (moveF k g).2]) ∧ Below w.heap.size w w' :=
  match k, g, hk with
  | 0, true, _ => wide_1_1 w hN
  | 0, false, _ => wide_1_0 w hN
  | 1, true, _ => wide_2_1 w hN
  | 1, false, _ => wide_2_0 w hN
  | 2, true, _ => wide_4_1 w hN
  | 2, false, _ => wide_4_0 w hN
  | 3, true, _ => wide_8_1 w hN
  | 3, false, _ => wide_8_0 w hN
  | k + 4, _, h => by omega
end Go.Proofs.YtpkbkmppkgeklaaDoor
