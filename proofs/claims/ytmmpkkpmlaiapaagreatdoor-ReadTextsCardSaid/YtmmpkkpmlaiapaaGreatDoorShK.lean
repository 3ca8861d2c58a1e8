/- An instruction's line, whatever it is: asm.Show and the document's. An instruction's line, whatever it is: asm.Show and the document's (the joins). No condition. -/
import Derived.Test.YtmmpkkpmlaiapaaGreatDoorSh0
import Derived.Test.YtmmpkkpmlaiapaaGreatDoorSh2
import Derived.Test.YtmmpkkpmlaiapaaGreatDoorQf
import Derived.Test.YtmmpkkpmlaiapaaGreatDoorCpuVk
namespace Go.Proofs.YtmmpkkpmlaiapaaGreatDoor
open Go.RowKit
set_option maxRecDepth 100000
set_option linter.unusedVariables false
set_option linter.unusedSimpArgs false
set_option maxHeartbeats 8000000
def smallI (n : Int) : Bool := decide (-2147483648 ≤ n ∧ n ≤ 2147483647)
def showL (op : Int) (dst src imm size : Int) (k : Nat) (g : Bool) (cond : Int) (to_ : List UInt8) : List UInt8 :=
  if op = 1 then ([109, 111, 118, 113, 32]) ++ (37 :: wantF src 8) ++ ([44, 32]) ++ (37 :: wantF dst 8)
  else if op = 2 then (if smallI imm = true then ([109, 111, 118, 113, 32]) ++ (36 :: Lib.itoa imm) ++ ([44, 32]) ++ (37 :: wantF dst 8) else ([109, 111, 118, 97, 98, 115, 113, 32]) ++ (36 :: Lib.itoa imm) ++ ([44, 32]) ++ (37 :: wantF dst 8))
  else if op = 3 then ((moveF k g).1) ++ ([32]) ++ (atL src imm) ++ ([44, 32, 37]) ++ (wantF dst (mvN k g))
  else if op = 4 then ([109, 111, 118]) ++ (leL k) ++ ([32, 37]) ++ (wantF src size) ++ ([44, 32]) ++ (atL dst imm)
  else if op = 5 then ([108, 101, 97, 113, 32]) ++ (atL src imm) ++ ([44, 32]) ++ (37 :: wantF dst 8)
  else if op = 6 then ([108, 101, 97, 113, 32]) ++ (to_) ++ ([40, 37, 114, 105, 112, 41, 44, 32]) ++ (37 :: wantF dst 8)
  else if op = 7 then ([97, 100, 100, 113]) ++ ([32]) ++ (37 :: wantF src 8) ++ ([44, 32]) ++ (37 :: wantF dst 8)
  else if op = 8 then ([115, 117, 98, 113]) ++ ([32]) ++ (37 :: wantF src 8) ++ ([44, 32]) ++ (37 :: wantF dst 8)
  else if op = 9 then ([97, 110, 100, 113]) ++ ([32]) ++ (37 :: wantF src 8) ++ ([44, 32]) ++ (37 :: wantF dst 8)
  else if op = 10 then ([111, 114, 113]) ++ ([32]) ++ (37 :: wantF src 8) ++ ([44, 32]) ++ (37 :: wantF dst 8)
  else if op = 11 then ([120, 111, 114, 113]) ++ ([32]) ++ (37 :: wantF src 8) ++ ([44, 32]) ++ (37 :: wantF dst 8)
  else if op = 12 then ([105, 109, 117, 108, 113]) ++ ([32]) ++ (37 :: wantF src 8) ++ ([44, 32]) ++ (37 :: wantF dst 8)
  else if op = 13 then ([99, 109, 112, 113]) ++ ([32]) ++ (37 :: wantF src 8) ++ ([44, 32]) ++ (37 :: wantF dst 8)
  else if op = 14 then ([97, 100, 100, 113]) ++ ([32]) ++ (36 :: Lib.itoa imm) ++ ([44, 32]) ++ (37 :: wantF dst 8)
  else if op = 15 then ([115, 117, 98, 113]) ++ ([32]) ++ (36 :: Lib.itoa imm) ++ ([44, 32]) ++ (37 :: wantF dst 8)
  else if op = 16 then ([97, 110, 100, 113]) ++ ([32]) ++ (36 :: Lib.itoa imm) ++ ([44, 32]) ++ (37 :: wantF dst 8)
  else if op = 17 then ([111, 114, 113]) ++ ([32]) ++ (36 :: Lib.itoa imm) ++ ([44, 32]) ++ (37 :: wantF dst 8)
  else if op = 18 then ([120, 111, 114, 113]) ++ ([32]) ++ (36 :: Lib.itoa imm) ++ ([44, 32]) ++ (37 :: wantF dst 8)
  else if op = 19 then ([105, 109, 117, 108, 113]) ++ ([32]) ++ (36 :: Lib.itoa imm) ++ ([44, 32]) ++ (37 :: wantF dst 8)
  else if op = 20 then ([99, 109, 112, 113]) ++ ([32]) ++ (36 :: Lib.itoa imm) ++ ([44, 32]) ++ (37 :: wantF dst 8)
  else if op = 21 then ([115, 104, 108, 113]) ++ ([32, 37, 99, 108, 44, 32]) ++ (37 :: wantF dst 8)
  else if op = 22 then ([115, 97, 114, 113]) ++ ([32, 37, 99, 108, 44, 32]) ++ (37 :: wantF dst 8)
  else if op = 23 then ([115, 104, 114, 113]) ++ ([32, 37, 99, 108, 44, 32]) ++ (37 :: wantF dst 8)
  else if op = 24 then ([115, 104, 108, 113]) ++ ([32]) ++ (36 :: Lib.itoa imm) ++ ([44, 32]) ++ (37 :: wantF dst 8)
  else if op = 25 then ([115, 97, 114, 113]) ++ ([32]) ++ (36 :: Lib.itoa imm) ++ ([44, 32]) ++ (37 :: wantF dst 8)
  else if op = 26 then ([115, 104, 114, 113]) ++ ([32]) ++ (36 :: Lib.itoa imm) ++ ([44, 32]) ++ (37 :: wantF dst 8)
  else if op = 27 then ([99, 113, 116, 111])
  else if op = 28 then ([105, 100, 105, 118, 113, 32]) ++ (37 :: wantF dst 8)
  else if op = 29 then ([100, 105, 118, 113, 32]) ++ (37 :: wantF dst 8)
  else if op = 30 then ((moveF k g).1) ++ ([32, 37]) ++ (wantF src size) ++ ([44, 32, 37]) ++ (wantF dst (mvN k g))
  else if op = 31 then ([115, 101, 116]) ++ (condF cond) ++ ([32, 37]) ++ (wantF dst 1)
  else if op = 32 then ([99, 109, 111, 118]) ++ (condF cond) ++ ([113, 32]) ++ (37 :: wantF src 8) ++ ([44, 32]) ++ (37 :: wantF dst 8)
  else if op = 33 then ([106, 109, 112, 32]) ++ (to_)
  else if op = 34 then ([106]) ++ (condF cond) ++ ([32]) ++ (to_)
  else if op = 35 then ([99, 97, 108, 108, 32]) ++ (to_)
  else if op = 36 then ([99, 97, 108, 108, 32, 42]) ++ (37 :: wantF dst 8)
  else if op = 37 then ([106, 109, 112, 32, 42]) ++ (37 :: wantF dst 8)
  else if op = 38 then ([114, 101, 116])
  else if op = 39 then ([108, 102, 101, 110, 99, 101])
  else if op = 40 then ([111, 117, 116, 113, 32]) ++ (37 :: wantF dst 8)
  else ([104, 108, 116])
theorem lit_eq (l : List UInt8) : (⟨l.toArray⟩ : ByteArray) = ⟨⟨l⟩⟩ := rfl
theorem movB_eq (k : Nat) : movB k = ⟨⟨[109, 111, 118] ++ leL k ++ [32]⟩⟩ := by unfold movB leL; split <;> rfl
theorem ea_1 (dst src imm size cond : Int) (k : Nat) (g : Bool) (tl : List UInt8) : (⟨#[109, 111, 118, 113, 32]⟩ ++ pS src 8 ++ ⟨#[44, 32]⟩ ++ pS dst 8 : ByteArray) = ⟨⟨showL 1 dst src imm size k g cond tl⟩⟩ := by
  unfold showL
  simp only [show (1 : Int) = 1 ↔ True from by decide, if_true, pS, rB, immB, numB, atB, cB, mvB, leB, movB_eq, lit_eq, app_eq]
  try simp [lit_eq, app_eq]
theorem ea_2s (dst src imm size cond : Int) (k : Nat) (g : Bool) (tl : List UInt8) (h : smallI imm = true) : (⟨#[109, 111, 118, 113, 32]⟩ ++ immB imm ++ ⟨#[44, 32]⟩ ++ pS dst 8 : ByteArray) = ⟨⟨showL 2 dst src imm size k g cond tl⟩⟩ := by
  unfold showL
  simp only [show (2 : Int) = 2 ↔ True from by decide, if_true, pS, rB, immB, numB, atB, cB, mvB, leB, movB_eq, lit_eq, app_eq, h]
  try simp [lit_eq, app_eq]
theorem ea_2l (dst src imm size cond : Int) (k : Nat) (g : Bool) (tl : List UInt8) (h : smallI imm = false) : (⟨#[109, 111, 118, 97, 98, 115, 113, 32]⟩ ++ immB imm ++ ⟨#[44, 32]⟩ ++ pS dst 8 : ByteArray) = ⟨⟨showL 2 dst src imm size k g cond tl⟩⟩ := by
  unfold showL
  simp only [show (2 : Int) = 2 ↔ True from by decide, if_true, pS, rB, immB, numB, atB, cB, mvB, leB, movB_eq, lit_eq, app_eq, h]
  try simp [lit_eq, app_eq]
theorem ea_3 (dst src imm size cond : Int) (k : Nat) (g : Bool) (tl : List UInt8) : (mvB k g ++ ⟨#[32]⟩ ++ atB src imm ++ ⟨#[44, 32, 37]⟩ ++ rB dst (mvN k g) : ByteArray) = ⟨⟨showL 3 dst src imm size k g cond tl⟩⟩ := by
  unfold showL
  simp only [show (3 : Int) = 3 ↔ True from by decide, if_true, pS, rB, immB, numB, atB, cB, mvB, leB, movB_eq, lit_eq, app_eq]
  try simp [lit_eq, app_eq]
theorem ea_4 (dst src imm size cond : Int) (k : Nat) (g : Bool) (tl : List UInt8) : (⟨#[109, 111, 118]⟩ ++ leB k ++ ⟨#[32, 37]⟩ ++ rB src size ++ ⟨#[44, 32]⟩ ++ atB dst imm : ByteArray) = ⟨⟨showL 4 dst src imm size k g cond tl⟩⟩ := by
  unfold showL
  simp only [show (4 : Int) = 4 ↔ True from by decide, if_true, pS, rB, immB, numB, atB, cB, mvB, leB, movB_eq, lit_eq, app_eq]
  try simp [lit_eq, app_eq]
theorem ea_5 (dst src imm size cond : Int) (k : Nat) (g : Bool) (tl : List UInt8) : (⟨#[108, 101, 97, 113, 32]⟩ ++ atB src imm ++ ⟨#[44, 32]⟩ ++ pS dst 8 : ByteArray) = ⟨⟨showL 5 dst src imm size k g cond tl⟩⟩ := by
  unfold showL
  simp only [show (5 : Int) = 5 ↔ True from by decide, if_true, pS, rB, immB, numB, atB, cB, mvB, leB, movB_eq, lit_eq, app_eq]
  try simp [lit_eq, app_eq]
theorem ea_6 (dst src imm size cond : Int) (k : Nat) (g : Bool) (tl : List UInt8) : (⟨#[108, 101, 97, 113, 32]⟩ ++ (⟨⟨tl⟩⟩ : ByteArray) ++ ⟨#[40, 37, 114, 105, 112, 41, 44, 32]⟩ ++ pS dst 8 : ByteArray) = ⟨⟨showL 6 dst src imm size k g cond tl⟩⟩ := by
  unfold showL
  simp only [show (6 : Int) = 6 ↔ True from by decide, if_true, pS, rB, immB, numB, atB, cB, mvB, leB, movB_eq, lit_eq, app_eq]
  try simp [lit_eq, app_eq]
theorem ea_7 (dst src imm size cond : Int) (k : Nat) (g : Bool) (tl : List UInt8) : (⟨#[97, 100, 100, 113]⟩ ++ ⟨#[32]⟩ ++ pS src 8 ++ ⟨#[44, 32]⟩ ++ pS dst 8 : ByteArray) = ⟨⟨showL 7 dst src imm size k g cond tl⟩⟩ := by
  unfold showL
  simp only [show (7 : Int) = 7 ↔ True from by decide, if_true, pS, rB, immB, numB, atB, cB, mvB, leB, movB_eq, lit_eq, app_eq]
  try simp [lit_eq, app_eq]
theorem ea_8 (dst src imm size cond : Int) (k : Nat) (g : Bool) (tl : List UInt8) : (⟨#[115, 117, 98, 113]⟩ ++ ⟨#[32]⟩ ++ pS src 8 ++ ⟨#[44, 32]⟩ ++ pS dst 8 : ByteArray) = ⟨⟨showL 8 dst src imm size k g cond tl⟩⟩ := by
  unfold showL
  simp only [show (8 : Int) = 8 ↔ True from by decide, if_true, pS, rB, immB, numB, atB, cB, mvB, leB, movB_eq, lit_eq, app_eq]
  try simp [lit_eq, app_eq]
theorem ea_9 (dst src imm size cond : Int) (k : Nat) (g : Bool) (tl : List UInt8) : (⟨#[97, 110, 100, 113]⟩ ++ ⟨#[32]⟩ ++ pS src 8 ++ ⟨#[44, 32]⟩ ++ pS dst 8 : ByteArray) = ⟨⟨showL 9 dst src imm size k g cond tl⟩⟩ := by
  unfold showL
  simp only [show (9 : Int) = 9 ↔ True from by decide, if_true, pS, rB, immB, numB, atB, cB, mvB, leB, movB_eq, lit_eq, app_eq]
  try simp [lit_eq, app_eq]
theorem ea_10 (dst src imm size cond : Int) (k : Nat) (g : Bool) (tl : List UInt8) : (⟨#[111, 114, 113]⟩ ++ ⟨#[32]⟩ ++ pS src 8 ++ ⟨#[44, 32]⟩ ++ pS dst 8 : ByteArray) = ⟨⟨showL 10 dst src imm size k g cond tl⟩⟩ := by
  unfold showL
  simp only [show (10 : Int) = 10 ↔ True from by decide, if_true, pS, rB, immB, numB, atB, cB, mvB, leB, movB_eq, lit_eq, app_eq]
  try simp [lit_eq, app_eq]
theorem ea_11 (dst src imm size cond : Int) (k : Nat) (g : Bool) (tl : List UInt8) : (⟨#[120, 111, 114, 113]⟩ ++ ⟨#[32]⟩ ++ pS src 8 ++ ⟨#[44, 32]⟩ ++ pS dst 8 : ByteArray) = ⟨⟨showL 11 dst src imm size k g cond tl⟩⟩ := by
  unfold showL
  simp only [show (11 : Int) = 11 ↔ True from by decide, if_true, pS, rB, immB, numB, atB, cB, mvB, leB, movB_eq, lit_eq, app_eq]
  try simp [lit_eq, app_eq]
theorem ea_12 (dst src imm size cond : Int) (k : Nat) (g : Bool) (tl : List UInt8) : (⟨#[105, 109, 117, 108, 113]⟩ ++ ⟨#[32]⟩ ++ pS src 8 ++ ⟨#[44, 32]⟩ ++ pS dst 8 : ByteArray) = ⟨⟨showL 12 dst src imm size k g cond tl⟩⟩ := by
  unfold showL
  simp only [show (12 : Int) = 12 ↔ True from by decide, if_true, pS, rB, immB, numB, atB, cB, mvB, leB, movB_eq, lit_eq, app_eq]
  try simp [lit_eq, app_eq]
theorem ea_13 (dst src imm size cond : Int) (k : Nat) (g : Bool) (tl : List UInt8) : (⟨#[99, 109, 112, 113]⟩ ++ ⟨#[32]⟩ ++ pS src 8 ++ ⟨#[44, 32]⟩ ++ pS dst 8 : ByteArray) = ⟨⟨showL 13 dst src imm size k g cond tl⟩⟩ := by
  unfold showL
  simp only [show (13 : Int) = 13 ↔ True from by decide, if_true, pS, rB, immB, numB, atB, cB, mvB, leB, movB_eq, lit_eq, app_eq]
  try simp [lit_eq, app_eq]
theorem ea_14 (dst src imm size cond : Int) (k : Nat) (g : Bool) (tl : List UInt8) : (⟨#[97, 100, 100, 113]⟩ ++ ⟨#[32]⟩ ++ immB imm ++ ⟨#[44, 32]⟩ ++ pS dst 8 : ByteArray) = ⟨⟨showL 14 dst src imm size k g cond tl⟩⟩ := by
  unfold showL
  simp only [show (14 : Int) = 14 ↔ True from by decide, if_true, pS, rB, immB, numB, atB, cB, mvB, leB, movB_eq, lit_eq, app_eq]
  try simp [lit_eq, app_eq]
theorem ea_15 (dst src imm size cond : Int) (k : Nat) (g : Bool) (tl : List UInt8) : (⟨#[115, 117, 98, 113]⟩ ++ ⟨#[32]⟩ ++ immB imm ++ ⟨#[44, 32]⟩ ++ pS dst 8 : ByteArray) = ⟨⟨showL 15 dst src imm size k g cond tl⟩⟩ := by
  unfold showL
  simp only [show (15 : Int) = 15 ↔ True from by decide, if_true, pS, rB, immB, numB, atB, cB, mvB, leB, movB_eq, lit_eq, app_eq]
  try simp [lit_eq, app_eq]
theorem ea_16 (dst src imm size cond : Int) (k : Nat) (g : Bool) (tl : List UInt8) : (⟨#[97, 110, 100, 113]⟩ ++ ⟨#[32]⟩ ++ immB imm ++ ⟨#[44, 32]⟩ ++ pS dst 8 : ByteArray) = ⟨⟨showL 16 dst src imm size k g cond tl⟩⟩ := by
  unfold showL
  simp only [show (16 : Int) = 16 ↔ True from by decide, if_true, pS, rB, immB, numB, atB, cB, mvB, leB, movB_eq, lit_eq, app_eq]
  try simp [lit_eq, app_eq]
theorem ea_17 (dst src imm size cond : Int) (k : Nat) (g : Bool) (tl : List UInt8) : (⟨#[111, 114, 113]⟩ ++ ⟨#[32]⟩ ++ immB imm ++ ⟨#[44, 32]⟩ ++ pS dst 8 : ByteArray) = ⟨⟨showL 17 dst src imm size k g cond tl⟩⟩ := by
  unfold showL
  simp only [show (17 : Int) = 17 ↔ True from by decide, if_true, pS, rB, immB, numB, atB, cB, mvB, leB, movB_eq, lit_eq, app_eq]
  try simp [lit_eq, app_eq]
theorem ea_18 (dst src imm size cond : Int) (k : Nat) (g : Bool) (tl : List UInt8) : (⟨#[120, 111, 114, 113]⟩ ++ ⟨#[32]⟩ ++ immB imm ++ ⟨#[44, 32]⟩ ++ pS dst 8 : ByteArray) = ⟨⟨showL 18 dst src imm size k g cond tl⟩⟩ := by
  unfold showL
  simp only [show (18 : Int) = 18 ↔ True from by decide, if_true, pS, rB, immB, numB, atB, cB, mvB, leB, movB_eq, lit_eq, app_eq]
  try simp [lit_eq, app_eq]
theorem ea_19 (dst src imm size cond : Int) (k : Nat) (g : Bool) (tl : List UInt8) : (⟨#[105, 109, 117, 108, 113]⟩ ++ ⟨#[32]⟩ ++ immB imm ++ ⟨#[44, 32]⟩ ++ pS dst 8 : ByteArray) = ⟨⟨showL 19 dst src imm size k g cond tl⟩⟩ := by
  unfold showL
  simp only [show (19 : Int) = 19 ↔ True from by decide, if_true, pS, rB, immB, numB, atB, cB, mvB, leB, movB_eq, lit_eq, app_eq]
  try simp [lit_eq, app_eq]
theorem ea_20 (dst src imm size cond : Int) (k : Nat) (g : Bool) (tl : List UInt8) : (⟨#[99, 109, 112, 113]⟩ ++ ⟨#[32]⟩ ++ immB imm ++ ⟨#[44, 32]⟩ ++ pS dst 8 : ByteArray) = ⟨⟨showL 20 dst src imm size k g cond tl⟩⟩ := by
  unfold showL
  simp only [show (20 : Int) = 20 ↔ True from by decide, if_true, pS, rB, immB, numB, atB, cB, mvB, leB, movB_eq, lit_eq, app_eq]
  try simp [lit_eq, app_eq]
theorem ea_21 (dst src imm size cond : Int) (k : Nat) (g : Bool) (tl : List UInt8) : (⟨#[115, 104, 108, 113]⟩ ++ ⟨#[32, 37, 99, 108, 44, 32]⟩ ++ pS dst 8 : ByteArray) = ⟨⟨showL 21 dst src imm size k g cond tl⟩⟩ := by
  unfold showL
  simp only [show (21 : Int) = 21 ↔ True from by decide, if_true, pS, rB, immB, numB, atB, cB, mvB, leB, movB_eq, lit_eq, app_eq]
  try simp [lit_eq, app_eq]
theorem ea_22 (dst src imm size cond : Int) (k : Nat) (g : Bool) (tl : List UInt8) : (⟨#[115, 97, 114, 113]⟩ ++ ⟨#[32, 37, 99, 108, 44, 32]⟩ ++ pS dst 8 : ByteArray) = ⟨⟨showL 22 dst src imm size k g cond tl⟩⟩ := by
  unfold showL
  simp only [show (22 : Int) = 22 ↔ True from by decide, if_true, pS, rB, immB, numB, atB, cB, mvB, leB, movB_eq, lit_eq, app_eq]
  try simp [lit_eq, app_eq]
theorem ea_23 (dst src imm size cond : Int) (k : Nat) (g : Bool) (tl : List UInt8) : (⟨#[115, 104, 114, 113]⟩ ++ ⟨#[32, 37, 99, 108, 44, 32]⟩ ++ pS dst 8 : ByteArray) = ⟨⟨showL 23 dst src imm size k g cond tl⟩⟩ := by
  unfold showL
  simp only [show (23 : Int) = 23 ↔ True from by decide, if_true, pS, rB, immB, numB, atB, cB, mvB, leB, movB_eq, lit_eq, app_eq]
  try simp [lit_eq, app_eq]
theorem ea_24 (dst src imm size cond : Int) (k : Nat) (g : Bool) (tl : List UInt8) : (⟨#[115, 104, 108, 113]⟩ ++ ⟨#[32]⟩ ++ immB imm ++ ⟨#[44, 32]⟩ ++ pS dst 8 : ByteArray) = ⟨⟨showL 24 dst src imm size k g cond tl⟩⟩ := by
  unfold showL
  simp only [show (24 : Int) = 24 ↔ True from by decide, if_true, pS, rB, immB, numB, atB, cB, mvB, leB, movB_eq, lit_eq, app_eq]
  try simp [lit_eq, app_eq]
theorem ea_25 (dst src imm size cond : Int) (k : Nat) (g : Bool) (tl : List UInt8) : (⟨#[115, 97, 114, 113]⟩ ++ ⟨#[32]⟩ ++ immB imm ++ ⟨#[44, 32]⟩ ++ pS dst 8 : ByteArray) = ⟨⟨showL 25 dst src imm size k g cond tl⟩⟩ := by
  unfold showL
  simp only [show (25 : Int) = 25 ↔ True from by decide, if_true, pS, rB, immB, numB, atB, cB, mvB, leB, movB_eq, lit_eq, app_eq]
  try simp [lit_eq, app_eq]
theorem ea_26 (dst src imm size cond : Int) (k : Nat) (g : Bool) (tl : List UInt8) : (⟨#[115, 104, 114, 113]⟩ ++ ⟨#[32]⟩ ++ immB imm ++ ⟨#[44, 32]⟩ ++ pS dst 8 : ByteArray) = ⟨⟨showL 26 dst src imm size k g cond tl⟩⟩ := by
  unfold showL
  simp only [show (26 : Int) = 26 ↔ True from by decide, if_true, pS, rB, immB, numB, atB, cB, mvB, leB, movB_eq, lit_eq, app_eq]
  try simp [lit_eq, app_eq]
theorem ea_27 (dst src imm size cond : Int) (k : Nat) (g : Bool) (tl : List UInt8) : (⟨#[99, 113, 116, 111]⟩ : ByteArray) = ⟨⟨showL 27 dst src imm size k g cond tl⟩⟩ := by
  unfold showL
  simp only [show (27 : Int) = 27 ↔ True from by decide, if_true, pS, rB, immB, numB, atB, cB, mvB, leB, movB_eq, lit_eq, app_eq]
  try simp [lit_eq, app_eq]
theorem ea_28 (dst src imm size cond : Int) (k : Nat) (g : Bool) (tl : List UInt8) : (⟨#[105, 100, 105, 118, 113, 32]⟩ ++ pS dst 8 : ByteArray) = ⟨⟨showL 28 dst src imm size k g cond tl⟩⟩ := by
  unfold showL
  simp only [show (28 : Int) = 28 ↔ True from by decide, if_true, pS, rB, immB, numB, atB, cB, mvB, leB, movB_eq, lit_eq, app_eq]
  try simp [lit_eq, app_eq]
theorem ea_29 (dst src imm size cond : Int) (k : Nat) (g : Bool) (tl : List UInt8) : (⟨#[100, 105, 118, 113, 32]⟩ ++ pS dst 8 : ByteArray) = ⟨⟨showL 29 dst src imm size k g cond tl⟩⟩ := by
  unfold showL
  simp only [show (29 : Int) = 29 ↔ True from by decide, if_true, pS, rB, immB, numB, atB, cB, mvB, leB, movB_eq, lit_eq, app_eq]
  try simp [lit_eq, app_eq]
theorem ea_30 (dst src imm size cond : Int) (k : Nat) (g : Bool) (tl : List UInt8) : (mvB k g ++ ⟨#[32, 37]⟩ ++ rB src size ++ ⟨#[44, 32, 37]⟩ ++ rB dst (mvN k g) : ByteArray) = ⟨⟨showL 30 dst src imm size k g cond tl⟩⟩ := by
  unfold showL
  simp only [show (30 : Int) = 30 ↔ True from by decide, if_true, pS, rB, immB, numB, atB, cB, mvB, leB, movB_eq, lit_eq, app_eq]
  try simp [lit_eq, app_eq]
theorem ea_31 (dst src imm size cond : Int) (k : Nat) (g : Bool) (tl : List UInt8) : (⟨#[115, 101, 116]⟩ ++ cB cond ++ ⟨#[32, 37]⟩ ++ rB dst 1 : ByteArray) = ⟨⟨showL 31 dst src imm size k g cond tl⟩⟩ := by
  unfold showL
  simp only [show (31 : Int) = 31 ↔ True from by decide, if_true, pS, rB, immB, numB, atB, cB, mvB, leB, movB_eq, lit_eq, app_eq]
  try simp [lit_eq, app_eq]
theorem ea_32 (dst src imm size cond : Int) (k : Nat) (g : Bool) (tl : List UInt8) : (⟨#[99, 109, 111, 118]⟩ ++ cB cond ++ ⟨#[113, 32]⟩ ++ pS src 8 ++ ⟨#[44, 32]⟩ ++ pS dst 8 : ByteArray) = ⟨⟨showL 32 dst src imm size k g cond tl⟩⟩ := by
  unfold showL
  simp only [show (32 : Int) = 32 ↔ True from by decide, if_true, pS, rB, immB, numB, atB, cB, mvB, leB, movB_eq, lit_eq, app_eq]
  try simp [lit_eq, app_eq]
theorem ea_33 (dst src imm size cond : Int) (k : Nat) (g : Bool) (tl : List UInt8) : (⟨#[106, 109, 112, 32]⟩ ++ (⟨⟨tl⟩⟩ : ByteArray) : ByteArray) = ⟨⟨showL 33 dst src imm size k g cond tl⟩⟩ := by
  unfold showL
  simp only [show (33 : Int) = 33 ↔ True from by decide, if_true, pS, rB, immB, numB, atB, cB, mvB, leB, movB_eq, lit_eq, app_eq]
  try simp [lit_eq, app_eq]
theorem ea_34 (dst src imm size cond : Int) (k : Nat) (g : Bool) (tl : List UInt8) : (⟨#[106]⟩ ++ cB cond ++ ⟨#[32]⟩ ++ (⟨⟨tl⟩⟩ : ByteArray) : ByteArray) = ⟨⟨showL 34 dst src imm size k g cond tl⟩⟩ := by
  unfold showL
  simp only [show (34 : Int) = 34 ↔ True from by decide, if_true, pS, rB, immB, numB, atB, cB, mvB, leB, movB_eq, lit_eq, app_eq]
  try simp [lit_eq, app_eq]
theorem ea_35 (dst src imm size cond : Int) (k : Nat) (g : Bool) (tl : List UInt8) : (⟨#[99, 97, 108, 108, 32]⟩ ++ (⟨⟨tl⟩⟩ : ByteArray) : ByteArray) = ⟨⟨showL 35 dst src imm size k g cond tl⟩⟩ := by
  unfold showL
  simp only [show (35 : Int) = 35 ↔ True from by decide, if_true, pS, rB, immB, numB, atB, cB, mvB, leB, movB_eq, lit_eq, app_eq]
  try simp [lit_eq, app_eq]
theorem ea_36 (dst src imm size cond : Int) (k : Nat) (g : Bool) (tl : List UInt8) : (⟨#[99, 97, 108, 108, 32, 42]⟩ ++ pS dst 8 : ByteArray) = ⟨⟨showL 36 dst src imm size k g cond tl⟩⟩ := by
  unfold showL
  simp only [show (36 : Int) = 36 ↔ True from by decide, if_true, pS, rB, immB, numB, atB, cB, mvB, leB, movB_eq, lit_eq, app_eq]
  try simp [lit_eq, app_eq]
theorem ea_37 (dst src imm size cond : Int) (k : Nat) (g : Bool) (tl : List UInt8) : (⟨#[106, 109, 112, 32, 42]⟩ ++ pS dst 8 : ByteArray) = ⟨⟨showL 37 dst src imm size k g cond tl⟩⟩ := by
  unfold showL
  simp only [show (37 : Int) = 37 ↔ True from by decide, if_true, pS, rB, immB, numB, atB, cB, mvB, leB, movB_eq, lit_eq, app_eq]
  try simp [lit_eq, app_eq]
theorem ea_38 (dst src imm size cond : Int) (k : Nat) (g : Bool) (tl : List UInt8) : (⟨#[114, 101, 116]⟩ : ByteArray) = ⟨⟨showL 38 dst src imm size k g cond tl⟩⟩ := by
  unfold showL
  simp only [show (38 : Int) = 38 ↔ True from by decide, if_true, pS, rB, immB, numB, atB, cB, mvB, leB, movB_eq, lit_eq, app_eq]
  try simp [lit_eq, app_eq]
theorem ea_39 (dst src imm size cond : Int) (k : Nat) (g : Bool) (tl : List UInt8) : (⟨#[108, 102, 101, 110, 99, 101]⟩ : ByteArray) = ⟨⟨showL 39 dst src imm size k g cond tl⟩⟩ := by
  unfold showL
  simp only [show (39 : Int) = 39 ↔ True from by decide, if_true, pS, rB, immB, numB, atB, cB, mvB, leB, movB_eq, lit_eq, app_eq]
  try simp [lit_eq, app_eq]
theorem ea_40 (dst src imm size cond : Int) (k : Nat) (g : Bool) (tl : List UInt8) : (⟨#[111, 117, 116, 113, 32]⟩ ++ pS dst 8 : ByteArray) = ⟨⟨showL 40 dst src imm size k g cond tl⟩⟩ := by
  unfold showL
  simp only [show (40 : Int) = 40 ↔ True from by decide, if_true, pS, rB, immB, numB, atB, cB, mvB, leB, movB_eq, lit_eq, app_eq]
  try simp [lit_eq, app_eq]
theorem ea_41 (dst src imm size cond : Int) (k : Nat) (g : Bool) (tl : List UInt8) : (⟨#[104, 108, 116]⟩ : ByteArray) = ⟨⟨showL 41 dst src imm size k g cond tl⟩⟩ := by
  unfold showL
  simp only [show (41 : Int) = 41 ↔ True from by decide, if_true, pS, rB, immB, numB, atB, cB, mvB, leB, movB_eq, lit_eq, app_eq]
  try simp [lit_eq, app_eq]
end Go.Proofs.YtmmpkkpmlaiapaaGreatDoor
namespace Go.Proofs.YtmmpkkpmlaiapaaGreatDoor
open Go.RowKit
set_option maxRecDepth 100000
set_option linter.unusedVariables false
set_option linter.unusedSimpArgs false
set_option maxHeartbeats 8000000
def kOf (size : Int) : Nat := if size = 1 then 0 else if size = 2 then 1 else if size = 4 then 2 else 3
def emp (tl : List UInt8) : Int := if tl.isEmpty = true then 1 else 0
def one (g : Bool) : Int := if g = true then 1 else 0
theorem one_dec (g : Bool) : decide (one g = 1) = g := by cases g <;> rfl
def RQ (op dst src imm size : Int) (g : Bool) (cond : Int) (tl : List UInt8) : Prop := RP op dst src imm size (one g) cond (emp tl)
def jumpI (op : Int) : Bool := decide (op = 6 ∨ op = 33 ∨ op = 34 ∨ op = 35)
def goodP (op dst src imm size : Int) (g : Bool) (cond : Int) (tl : List UInt8) : Prop := RQ op dst src imm size g cond tl ∧ (jumpI op = true → namedB ⟨⟨tl⟩⟩ = true)
open Classical in
noncomputable def showB (op dst src imm size : Int) (g : Bool) (cond : Int) (tl : List UInt8) : List UInt8 := if goodP op dst src imm size g cond tl then showL op dst src imm size (kOf size) g cond tl else []
theorem kOf_lt (size : Int) : kOf size < 4 := by unfold kOf; split <;> (try split) <;> (try split) <;> omega
theorem kOf_eq {size : Int} (h : size = 1 ∨ size = 2 ∨ size = 4 ∨ size = 8) : size = ((2 ^ kOf size : Nat) : Int) := by rcases h with rfl | rfl | rfl | rfl <;> rfl
theorem emp_list (tl : List UInt8) : (⟨⟨tl⟩⟩ : ByteArray).toList.isEmpty = decide (emp tl = 1) := by
  rw [toList_data]; unfold emp
  show tl.isEmpty = _
  cases tl.isEmpty <;> rfl
theorem rx_is (op dst src imm size : Int) (g : Bool) (cond : Int) (tl : List UInt8) (ho : In64 op) (hd : In64 dst) (hs : In64 src) (hi : In64 imm) (hz : In64 size) (hc : In64 cond) (W : World) :
    Calls Tryz.prog 49 #[.agg #[.int .i64 op, .int .i64 dst, .int .i64 src, .int .i64 imm, .int .i64 size, .bool g, .int .i64 cond, .string ⟨⟨tl⟩⟩]] W fun en w' => RightIs (RQ op dst src imm size g cond tl) en ∧ Below W.heap.size W w' := by
  have := right_x op dst src imm size (one g) cond (emp tl) ⟨⟨tl⟩⟩ W ho hd hs hi (by unfold one; split <;> simp) (by unfold emp; split <;> simp) (emp_list tl) hz hc
  rw [one_dec] at this
  exact this
theorem right_bool {R : Prop} {en : Ending} (h : RightIs R en) : (R → en = .returned (.bool true)) ∧ (¬ R → en = .returned (.bool false)) := by
  obtain ⟨b, rfl, hb⟩ := h
  constructor
  · intro r; rw [hb.2 r]
  · intro r; cases b with
    | true => exact absurd (hb.1 rfl) r
    | false => rfl
theorem show_no (w : World) (op dst src imm size cond : Int) (g : Bool) (to_ : ByteArray) (hR : ∀ W : World, Calls Tryz.prog 49 #[.agg #[.int .i64 op, .int .i64 dst, .int .i64 src, .int .i64 imm, .int .i64 size, .bool g, .int .i64 cond, .string to_]] W fun en w' => en = .returned (.bool false) ∧ Below W.heap.size W w') :
    Calls Tryz.prog 27 #[.agg #[.int .i64 op, .int .i64 dst, .int .i64 src, .int .i64 imm, .int .i64 size, .bool g, .int .i64 cond, .string to_]] w fun en w' => en = .returned (.string ⟨⟨[]⟩⟩) ∧ Below w.heap.size w w' := by
  have HR := Lib.hid hR
  clear hR
  go_enter Tryz.func27, Tryz.ntmps27
  go_wp2_with fail
  refine (HR.out _).mono ?_
  rintro en w1 ⟨rfl, kb⟩
  go_wp2_with fail
  go_returns
  exact ⟨rfl, below_new kb⟩
theorem show_nn_6 (w : World) (hN : GsOk w) (dst src imm size cond : Int) (g : Bool) (to_ : ByteArray) (ht : to_.size ≤ 300) (hm : namedB to_ = false) (hR : RX 6 dst src imm size g cond to_) :
    Calls Tryz.prog 27 #[.agg #[.int .i64 6, .int .i64 dst, .int .i64 src, .int .i64 imm, .int .i64 size, .bool g, .int .i64 cond, .string to_]] w fun en w' => en = .returned (.string ⟨⟨[]⟩⟩) ∧ Below w.heap.size w w' := by
  have HT := Lib.hid (fun W => named_any W to_ (by unfold maxLen; omega))
  rw [hm] at HT
  have HR := Lib.hid hR
  clear hR ht hm
  have HG := Lib.hid hN
  obtain ⟨w0, hW0, HB0, HK0⟩ := ent w (.cells #[.int .i64 6, .int .i64 dst, .int .i64 src, .int .i64 imm, .int .i64 size, .bool g, .int .i64 cond, .string to_] 23)
  clear hN
  go_enter Tryz.func27, Tryz.ntmps27
  go_wp2_with fail
  rw [← hW0]
  clear hW0
  have c0 : w0.cell? ⟨w.heap.size, 0, none⟩ = some (.int .i64 6) := blk_cell HK0.out rfl
  have c7 : w0.cell? ⟨w.heap.size, 7, none⟩ = some (.string to_) := blk_cell HK0.out rfl
  have lw := blk_lt HK0.out
  refine (HR.out w0).mono ?_
  rintro en w1 ⟨rfl, kb⟩
  obtain ⟨HB1, HK1⟩ := bk HB0 HK0 kb
  clear kb c0 c7 lw
  have c0 : w1.cell? ⟨w.heap.size, 0, none⟩ = some (.int .i64 6) := blk_cell HK1.out rfl
  have c7 : w1.cell? ⟨w.heap.size, 7, none⟩ = some (.string to_) := blk_cell HK1.out rfl
  have lw := blk_lt HK1.out
  go_wp2_with fail
  refine (jumps_6 w1 (HG.out.below HB1.out)).mono ?_
  rintro en w2 ⟨rfl, kb⟩
  obtain ⟨HB2, HK2⟩ := bk HB1 HK1 kb
  clear kb c0 c7 lw
  have c0 : w2.cell? ⟨w.heap.size, 0, none⟩ = some (.int .i64 6) := blk_cell HK2.out rfl
  have c7 : w2.cell? ⟨w.heap.size, 7, none⟩ = some (.string to_) := blk_cell HK2.out rfl
  have lw := blk_lt HK2.out
  go_wp2_with fail
  refine (HT.out w2).mono ?_
  rintro en w3 ⟨rfl, kb⟩
  obtain ⟨HB3, HK3⟩ := bk HB2 HK2 kb
  clear kb c0 c7 lw
  have c0 : w3.cell? ⟨w.heap.size, 0, none⟩ = some (.int .i64 6) := blk_cell HK3.out rfl
  have c7 : w3.cell? ⟨w.heap.size, 7, none⟩ = some (.string to_) := blk_cell HK3.out rfl
  have lw := blk_lt HK3.out
  go_wp2_with fail
  go_returns
  exact ⟨rfl, HB3.out⟩
theorem show_nn_33 (w : World) (hN : GsOk w) (dst src imm size cond : Int) (g : Bool) (to_ : ByteArray) (ht : to_.size ≤ 300) (hm : namedB to_ = false) (hR : RX 33 dst src imm size g cond to_) :
    Calls Tryz.prog 27 #[.agg #[.int .i64 33, .int .i64 dst, .int .i64 src, .int .i64 imm, .int .i64 size, .bool g, .int .i64 cond, .string to_]] w fun en w' => en = .returned (.string ⟨⟨[]⟩⟩) ∧ Below w.heap.size w w' := by
  have HT := Lib.hid (fun W => named_any W to_ (by unfold maxLen; omega))
  rw [hm] at HT
  have HR := Lib.hid hR
  clear hR ht hm
  have HG := Lib.hid hN
  obtain ⟨w0, hW0, HB0, HK0⟩ := ent w (.cells #[.int .i64 33, .int .i64 dst, .int .i64 src, .int .i64 imm, .int .i64 size, .bool g, .int .i64 cond, .string to_] 23)
  clear hN
  go_enter Tryz.func27, Tryz.ntmps27
  go_wp2_with fail
  rw [← hW0]
  clear hW0
  have c0 : w0.cell? ⟨w.heap.size, 0, none⟩ = some (.int .i64 33) := blk_cell HK0.out rfl
  have c7 : w0.cell? ⟨w.heap.size, 7, none⟩ = some (.string to_) := blk_cell HK0.out rfl
  have lw := blk_lt HK0.out
  refine (HR.out w0).mono ?_
  rintro en w1 ⟨rfl, kb⟩
  obtain ⟨HB1, HK1⟩ := bk HB0 HK0 kb
  clear kb c0 c7 lw
  have c0 : w1.cell? ⟨w.heap.size, 0, none⟩ = some (.int .i64 33) := blk_cell HK1.out rfl
  have c7 : w1.cell? ⟨w.heap.size, 7, none⟩ = some (.string to_) := blk_cell HK1.out rfl
  have lw := blk_lt HK1.out
  go_wp2_with fail
  refine (jumps_33 w1 (HG.out.below HB1.out)).mono ?_
  rintro en w2 ⟨rfl, kb⟩
  obtain ⟨HB2, HK2⟩ := bk HB1 HK1 kb
  clear kb c0 c7 lw
  have c0 : w2.cell? ⟨w.heap.size, 0, none⟩ = some (.int .i64 33) := blk_cell HK2.out rfl
  have c7 : w2.cell? ⟨w.heap.size, 7, none⟩ = some (.string to_) := blk_cell HK2.out rfl
  have lw := blk_lt HK2.out
  go_wp2_with fail
  refine (HT.out w2).mono ?_
  rintro en w3 ⟨rfl, kb⟩
  obtain ⟨HB3, HK3⟩ := bk HB2 HK2 kb
  clear kb c0 c7 lw
  have c0 : w3.cell? ⟨w.heap.size, 0, none⟩ = some (.int .i64 33) := blk_cell HK3.out rfl
  have c7 : w3.cell? ⟨w.heap.size, 7, none⟩ = some (.string to_) := blk_cell HK3.out rfl
  have lw := blk_lt HK3.out
  go_wp2_with fail
  go_returns
  exact ⟨rfl, HB3.out⟩
theorem show_nn_34 (w : World) (hN : GsOk w) (dst src imm size cond : Int) (g : Bool) (to_ : ByteArray) (ht : to_.size ≤ 300) (hm : namedB to_ = false) (hR : RX 34 dst src imm size g cond to_) :
    Calls Tryz.prog 27 #[.agg #[.int .i64 34, .int .i64 dst, .int .i64 src, .int .i64 imm, .int .i64 size, .bool g, .int .i64 cond, .string to_]] w fun en w' => en = .returned (.string ⟨⟨[]⟩⟩) ∧ Below w.heap.size w w' := by
  have HT := Lib.hid (fun W => named_any W to_ (by unfold maxLen; omega))
  rw [hm] at HT
  have HR := Lib.hid hR
  clear hR ht hm
  have HG := Lib.hid hN
  obtain ⟨w0, hW0, HB0, HK0⟩ := ent w (.cells #[.int .i64 34, .int .i64 dst, .int .i64 src, .int .i64 imm, .int .i64 size, .bool g, .int .i64 cond, .string to_] 23)
  clear hN
  go_enter Tryz.func27, Tryz.ntmps27
  go_wp2_with fail
  rw [← hW0]
  clear hW0
  have c0 : w0.cell? ⟨w.heap.size, 0, none⟩ = some (.int .i64 34) := blk_cell HK0.out rfl
  have c7 : w0.cell? ⟨w.heap.size, 7, none⟩ = some (.string to_) := blk_cell HK0.out rfl
  have lw := blk_lt HK0.out
  refine (HR.out w0).mono ?_
  rintro en w1 ⟨rfl, kb⟩
  obtain ⟨HB1, HK1⟩ := bk HB0 HK0 kb
  clear kb c0 c7 lw
  have c0 : w1.cell? ⟨w.heap.size, 0, none⟩ = some (.int .i64 34) := blk_cell HK1.out rfl
  have c7 : w1.cell? ⟨w.heap.size, 7, none⟩ = some (.string to_) := blk_cell HK1.out rfl
  have lw := blk_lt HK1.out
  go_wp2_with fail
  refine (jumps_34 w1 (HG.out.below HB1.out)).mono ?_
  rintro en w2 ⟨rfl, kb⟩
  obtain ⟨HB2, HK2⟩ := bk HB1 HK1 kb
  clear kb c0 c7 lw
  have c0 : w2.cell? ⟨w.heap.size, 0, none⟩ = some (.int .i64 34) := blk_cell HK2.out rfl
  have c7 : w2.cell? ⟨w.heap.size, 7, none⟩ = some (.string to_) := blk_cell HK2.out rfl
  have lw := blk_lt HK2.out
  go_wp2_with fail
  refine (HT.out w2).mono ?_
  rintro en w3 ⟨rfl, kb⟩
  obtain ⟨HB3, HK3⟩ := bk HB2 HK2 kb
  clear kb c0 c7 lw
  have c0 : w3.cell? ⟨w.heap.size, 0, none⟩ = some (.int .i64 34) := blk_cell HK3.out rfl
  have c7 : w3.cell? ⟨w.heap.size, 7, none⟩ = some (.string to_) := blk_cell HK3.out rfl
  have lw := blk_lt HK3.out
  go_wp2_with fail
  go_returns
  exact ⟨rfl, HB3.out⟩
theorem show_nn_35 (w : World) (hN : GsOk w) (dst src imm size cond : Int) (g : Bool) (to_ : ByteArray) (ht : to_.size ≤ 300) (hm : namedB to_ = false) (hR : RX 35 dst src imm size g cond to_) :
    Calls Tryz.prog 27 #[.agg #[.int .i64 35, .int .i64 dst, .int .i64 src, .int .i64 imm, .int .i64 size, .bool g, .int .i64 cond, .string to_]] w fun en w' => en = .returned (.string ⟨⟨[]⟩⟩) ∧ Below w.heap.size w w' := by
  have HT := Lib.hid (fun W => named_any W to_ (by unfold maxLen; omega))
  rw [hm] at HT
  have HR := Lib.hid hR
  clear hR ht hm
  have HG := Lib.hid hN
  obtain ⟨w0, hW0, HB0, HK0⟩ := ent w (.cells #[.int .i64 35, .int .i64 dst, .int .i64 src, .int .i64 imm, .int .i64 size, .bool g, .int .i64 cond, .string to_] 23)
  clear hN
  go_enter Tryz.func27, Tryz.ntmps27
  go_wp2_with fail
  rw [← hW0]
  clear hW0
  have c0 : w0.cell? ⟨w.heap.size, 0, none⟩ = some (.int .i64 35) := blk_cell HK0.out rfl
  have c7 : w0.cell? ⟨w.heap.size, 7, none⟩ = some (.string to_) := blk_cell HK0.out rfl
  have lw := blk_lt HK0.out
  refine (HR.out w0).mono ?_
  rintro en w1 ⟨rfl, kb⟩
  obtain ⟨HB1, HK1⟩ := bk HB0 HK0 kb
  clear kb c0 c7 lw
  have c0 : w1.cell? ⟨w.heap.size, 0, none⟩ = some (.int .i64 35) := blk_cell HK1.out rfl
  have c7 : w1.cell? ⟨w.heap.size, 7, none⟩ = some (.string to_) := blk_cell HK1.out rfl
  have lw := blk_lt HK1.out
  go_wp2_with fail
  refine (jumps_35 w1 (HG.out.below HB1.out)).mono ?_
  rintro en w2 ⟨rfl, kb⟩
  obtain ⟨HB2, HK2⟩ := bk HB1 HK1 kb
  clear kb c0 c7 lw
  have c0 : w2.cell? ⟨w.heap.size, 0, none⟩ = some (.int .i64 35) := blk_cell HK2.out rfl
  have c7 : w2.cell? ⟨w.heap.size, 7, none⟩ = some (.string to_) := blk_cell HK2.out rfl
  have lw := blk_lt HK2.out
  go_wp2_with fail
  refine (HT.out w2).mono ?_
  rintro en w3 ⟨rfl, kb⟩
  obtain ⟨HB3, HK3⟩ := bk HB2 HK2 kb
  clear kb c0 c7 lw
  have c0 : w3.cell? ⟨w.heap.size, 0, none⟩ = some (.int .i64 35) := blk_cell HK3.out rfl
  have c7 : w3.cell? ⟨w.heap.size, 7, none⟩ = some (.string to_) := blk_cell HK3.out rfl
  have lw := blk_lt HK3.out
  go_wp2_with fail
  go_returns
  exact ⟨rfl, HB3.out⟩
theorem show_any (w : World) (hN : GsOk w) (hP : PowOk w) (op dst src imm size cond : Int) (g : Bool) (tl : List UInt8) (ho : In64 op) (hd : In64 dst) (hs : In64 src) (hi : In64 imm) (hz : In64 size) (hc : In64 cond) (ht : tl.length ≤ 300) :
    Calls Tryz.prog 27 #[.agg #[.int .i64 op, .int .i64 dst, .int .i64 src, .int .i64 imm, .int .i64 size, .bool g, .int .i64 cond, .string ⟨⟨tl⟩⟩]] w fun en w' => en = .returned (.string ⟨⟨showB op dst src imm size g cond tl⟩⟩) ∧ Below w.heap.size w w' := by
  have HIS := rx_is op dst src imm size g cond tl ho hd hs hi hz hc
  by_cases hQ : RQ op dst src imm size g cond tl
  · have hR := fun W => (HIS W).mono (fun en w' h => (⟨(right_bool h.1).1 hQ, h.2⟩ : en = Ending.returned (.bool true) ∧ Below W.heap.size W w'))
    by_cases hJ : jumpI op = true → namedB ⟨⟨tl⟩⟩ = true
    · have hS : showB op dst src imm size g cond tl = showL op dst src imm size (kOf size) g cond tl := by unfold showB; rw [if_pos ⟨hQ, hJ⟩]
      rw [hS]
      have hQ' := hQ
      unfold RQ RP at hQ'
      obtain ⟨o1, o2, d1, d2, s1, s2, i1, l1, l2, l3, l4, l5, l6, l7, sz, sg, cd, sh⟩ := hQ'
      unfold lZ at sz
      unfold lC at cd
      clear l1 l2 l3 l4 l5 l6 l7 sg sh HIS hS
      rcases c41 ⟨o1, o2⟩ with rfl | rfl | rfl | rfl | rfl | rfl | rfl | rfl | rfl | rfl | rfl | rfl | rfl | rfl | rfl | rfl | rfl | rfl | rfl | rfl | rfl | rfl | rfl | rfl | rfl | rfl | rfl | rfl | rfl | rfl | rfl | rfl | rfl | rfl | rfl | rfl | rfl | rfl | rfl | rfl | rfl
      · have := show_1 w hN hP dst src imm size cond g ⟨⟨tl⟩⟩ hi hR
        rw [ea_1 dst src imm size cond (kOf size) g tl] at this
        exact this
      · by_cases hsm : -2147483648 ≤ imm ∧ imm ≤ 2147483647
        · have hsb : smallI imm = true := decide_eq_true hsm
          have := show_2s w hN hP dst src imm size cond g ⟨⟨tl⟩⟩ hi hsm hR
          rw [ea_2s dst src imm size cond (kOf size) g tl hsb] at this
          exact this
        · have hsb : smallI imm = false := decide_eq_false hsm
          have hsm : imm < -2147483648 ∨ 2147483647 < imm := by omega
          have := show_2l w hN hP dst src imm size cond g ⟨⟨tl⟩⟩ hi hsm hR
          rw [ea_2l dst src imm size cond (kOf size) g tl hsb] at this
          exact this
      · have := show_3 w hN hP dst src imm size cond g ⟨⟨tl⟩⟩ hi (kOf size) (kOf_lt size) (kOf_eq (by omega)) hR
        rw [ea_3 dst src imm size cond (kOf size) g tl] at this
        exact this
      · have := show_4 w hN hP dst src imm size cond g ⟨⟨tl⟩⟩ hi (kOf size) (kOf_lt size) (kOf_eq (by omega)) hR
        rw [ea_4 dst src imm size cond (kOf size) g tl] at this
        exact this
      · have := show_5 w hN hP dst src imm size cond g ⟨⟨tl⟩⟩ hi hR
        rw [ea_5 dst src imm size cond (kOf size) g tl] at this
        exact this
      · have := show_6 w hN hP dst src imm size cond g ⟨⟨tl⟩⟩ hi (by show tl.length ≤ 300; exact ht) (hJ rfl) hR
        rw [ea_6 dst src imm size cond (kOf size) g tl] at this
        exact this
      · have := show_7 w hN hP dst src imm size cond g ⟨⟨tl⟩⟩ hi hR
        rw [ea_7 dst src imm size cond (kOf size) g tl] at this
        exact this
      · have := show_8 w hN hP dst src imm size cond g ⟨⟨tl⟩⟩ hi hR
        rw [ea_8 dst src imm size cond (kOf size) g tl] at this
        exact this
      · have := show_9 w hN hP dst src imm size cond g ⟨⟨tl⟩⟩ hi hR
        rw [ea_9 dst src imm size cond (kOf size) g tl] at this
        exact this
      · have := show_10 w hN hP dst src imm size cond g ⟨⟨tl⟩⟩ hi hR
        rw [ea_10 dst src imm size cond (kOf size) g tl] at this
        exact this
      · have := show_11 w hN hP dst src imm size cond g ⟨⟨tl⟩⟩ hi hR
        rw [ea_11 dst src imm size cond (kOf size) g tl] at this
        exact this
      · have := show_12 w hN hP dst src imm size cond g ⟨⟨tl⟩⟩ hi hR
        rw [ea_12 dst src imm size cond (kOf size) g tl] at this
        exact this
      · have := show_13 w hN hP dst src imm size cond g ⟨⟨tl⟩⟩ hi hR
        rw [ea_13 dst src imm size cond (kOf size) g tl] at this
        exact this
      · have := show_14 w hN hP dst src imm size cond g ⟨⟨tl⟩⟩ hi hR
        rw [ea_14 dst src imm size cond (kOf size) g tl] at this
        exact this
      · have := show_15 w hN hP dst src imm size cond g ⟨⟨tl⟩⟩ hi hR
        rw [ea_15 dst src imm size cond (kOf size) g tl] at this
        exact this
      · have := show_16 w hN hP dst src imm size cond g ⟨⟨tl⟩⟩ hi hR
        rw [ea_16 dst src imm size cond (kOf size) g tl] at this
        exact this
      · have := show_17 w hN hP dst src imm size cond g ⟨⟨tl⟩⟩ hi hR
        rw [ea_17 dst src imm size cond (kOf size) g tl] at this
        exact this
      · have := show_18 w hN hP dst src imm size cond g ⟨⟨tl⟩⟩ hi hR
        rw [ea_18 dst src imm size cond (kOf size) g tl] at this
        exact this
      · have := show_19 w hN hP dst src imm size cond g ⟨⟨tl⟩⟩ hi hR
        rw [ea_19 dst src imm size cond (kOf size) g tl] at this
        exact this
      · have := show_20 w hN hP dst src imm size cond g ⟨⟨tl⟩⟩ hi hR
        rw [ea_20 dst src imm size cond (kOf size) g tl] at this
        exact this
      · have := show_21 w hN hP dst src imm size cond g ⟨⟨tl⟩⟩ hi hR
        rw [ea_21 dst src imm size cond (kOf size) g tl] at this
        exact this
      · have := show_22 w hN hP dst src imm size cond g ⟨⟨tl⟩⟩ hi hR
        rw [ea_22 dst src imm size cond (kOf size) g tl] at this
        exact this
      · have := show_23 w hN hP dst src imm size cond g ⟨⟨tl⟩⟩ hi hR
        rw [ea_23 dst src imm size cond (kOf size) g tl] at this
        exact this
      · have := show_24 w hN hP dst src imm size cond g ⟨⟨tl⟩⟩ hi hR
        rw [ea_24 dst src imm size cond (kOf size) g tl] at this
        exact this
      · have := show_25 w hN hP dst src imm size cond g ⟨⟨tl⟩⟩ hi hR
        rw [ea_25 dst src imm size cond (kOf size) g tl] at this
        exact this
      · have := show_26 w hN hP dst src imm size cond g ⟨⟨tl⟩⟩ hi hR
        rw [ea_26 dst src imm size cond (kOf size) g tl] at this
        exact this
      · have := show_27 w hN hP dst src imm size cond g ⟨⟨tl⟩⟩ hi hR
        rw [ea_27 dst src imm size cond (kOf size) g tl] at this
        exact this
      · have := show_28 w hN hP dst src imm size cond g ⟨⟨tl⟩⟩ hi hR
        rw [ea_28 dst src imm size cond (kOf size) g tl] at this
        exact this
      · have := show_29 w hN hP dst src imm size cond g ⟨⟨tl⟩⟩ hi hR
        rw [ea_29 dst src imm size cond (kOf size) g tl] at this
        exact this
      · have := show_30 w hN hP dst src imm size cond g ⟨⟨tl⟩⟩ hi (kOf size) (kOf_lt size) (kOf_eq (by omega)) hR
        rw [ea_30 dst src imm size cond (kOf size) g tl] at this
        exact this
      · have := show_31 w hN hP dst src imm size cond g ⟨⟨tl⟩⟩ hi hR
        rw [ea_31 dst src imm size cond (kOf size) g tl] at this
        exact this
      · have := show_32 w hN hP dst src imm size cond g ⟨⟨tl⟩⟩ hi hR
        rw [ea_32 dst src imm size cond (kOf size) g tl] at this
        exact this
      · have := show_33 w hN hP dst src imm size cond g ⟨⟨tl⟩⟩ hi (by show tl.length ≤ 300; exact ht) (hJ rfl) hR
        rw [ea_33 dst src imm size cond (kOf size) g tl] at this
        exact this
      · have := show_34 w hN hP dst src imm size cond g ⟨⟨tl⟩⟩ hi (by show tl.length ≤ 300; exact ht) (hJ rfl) hR
        rw [ea_34 dst src imm size cond (kOf size) g tl] at this
        exact this
      · have := show_35 w hN hP dst src imm size cond g ⟨⟨tl⟩⟩ hi (by show tl.length ≤ 300; exact ht) (hJ rfl) hR
        rw [ea_35 dst src imm size cond (kOf size) g tl] at this
        exact this
      · have := show_36 w hN hP dst src imm size cond g ⟨⟨tl⟩⟩ hi hR
        rw [ea_36 dst src imm size cond (kOf size) g tl] at this
        exact this
      · have := show_37 w hN hP dst src imm size cond g ⟨⟨tl⟩⟩ hi hR
        rw [ea_37 dst src imm size cond (kOf size) g tl] at this
        exact this
      · have := show_38 w hN hP dst src imm size cond g ⟨⟨tl⟩⟩ hi hR
        rw [ea_38 dst src imm size cond (kOf size) g tl] at this
        exact this
      · have := show_39 w hN hP dst src imm size cond g ⟨⟨tl⟩⟩ hi hR
        rw [ea_39 dst src imm size cond (kOf size) g tl] at this
        exact this
      · have := show_40 w hN hP dst src imm size cond g ⟨⟨tl⟩⟩ hi hR
        rw [ea_40 dst src imm size cond (kOf size) g tl] at this
        exact this
      · have := show_41 w hN hP dst src imm size cond g ⟨⟨tl⟩⟩ hi hR
        rw [ea_41 dst src imm size cond (kOf size) g tl] at this
        exact this
    · have hS : showB op dst src imm size g cond tl = [] := by unfold showB; rw [if_neg (fun h => hJ h.2)]
      rw [hS]
      have hj : jumpI op = true := by
        cases h : jumpI op with
        | true => rfl
        | false => exact absurd (fun h2 => by rw [h] at h2; cases h2) hJ
      have hm : namedB ⟨⟨tl⟩⟩ = false := by
        cases h : namedB ⟨⟨tl⟩⟩ with
        | false => rfl
        | true => exact absurd (fun _ => h) hJ
      unfold jumpI at hj
      rcases of_decide_eq_true hj with rfl | rfl | rfl | rfl
      · exact show_nn_6 w hN dst src imm size cond g ⟨⟨tl⟩⟩ (by show tl.length ≤ 300; exact ht) hm hR
      · exact show_nn_33 w hN dst src imm size cond g ⟨⟨tl⟩⟩ (by show tl.length ≤ 300; exact ht) hm hR
      · exact show_nn_34 w hN dst src imm size cond g ⟨⟨tl⟩⟩ (by show tl.length ≤ 300; exact ht) hm hR
      · exact show_nn_35 w hN dst src imm size cond g ⟨⟨tl⟩⟩ (by show tl.length ≤ 300; exact ht) hm hR
  · have hS : showB op dst src imm size g cond tl = [] := by unfold showB; rw [if_neg (fun h => hQ h.1)]
    rw [hS]
    exact show_no w op dst src imm size cond g ⟨⟨tl⟩⟩ (fun W => (HIS W).mono (fun en w' h => ⟨(right_bool h.1).2 hQ, h.2⟩))
end Go.Proofs.YtmmpkkpmlaiapaaGreatDoor
