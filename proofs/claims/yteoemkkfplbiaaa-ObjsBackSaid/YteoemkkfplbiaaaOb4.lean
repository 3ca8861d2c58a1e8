/- ObjsBack: runs, part 4. No condition. -/
import Derived.Test.YteoemkkfplbiaaaObK
namespace Go.Proofs.Yteoemkkfplbiaaa
open Go.RowKit
set_option linter.unusedVariables false
theorem back_8_0 (a b n : Int) (w : World) (hn : In64 n) (h0 : evB2 .rem .i64 (IntKind.i64.wrap (a.tmod (16 : Nat) + (16 : Nat))) .i64 (16 : Nat) = some (.int .i64 (8 : Nat))) (h1 : evB2 .and .i64 b .i64 ((2 ^ 4 - 1 : Nat) : Int) = some (.int .i64 (0 : Nat))) :
    Calls Try.prog 3 #[.int .i64 a, .int .i64 b, .int .i64 n] w fun e w' => e = .returned (.bool true) ∧ Below w.heap.size w w' :=
  back_of a b n w hn 8 0 1 true (by decide) h0 h1 (by kernel_rfl)
theorem back_8_1 (a b n : Int) (w : World) (hn : In64 n) (h0 : evB2 .rem .i64 (IntKind.i64.wrap (a.tmod (16 : Nat) + (16 : Nat))) .i64 (16 : Nat) = some (.int .i64 (8 : Nat))) (h1 : evB2 .and .i64 b .i64 ((2 ^ 4 - 1 : Nat) : Int) = some (.int .i64 (1 : Nat))) :
    Calls Try.prog 3 #[.int .i64 a, .int .i64 b, .int .i64 n] w fun e w' => e = .returned (.bool true) ∧ Below w.heap.size w w' :=
  back_of a b n w hn 8 1 2 true (by decide) h0 h1 (by kernel_rfl)
theorem back_8_2 (a b n : Int) (w : World) (hn : In64 n) (h0 : evB2 .rem .i64 (IntKind.i64.wrap (a.tmod (16 : Nat) + (16 : Nat))) .i64 (16 : Nat) = some (.int .i64 (8 : Nat))) (h1 : evB2 .and .i64 b .i64 ((2 ^ 4 - 1 : Nat) : Int) = some (.int .i64 (2 : Nat))) :
    Calls Try.prog 3 #[.int .i64 a, .int .i64 b, .int .i64 n] w fun e w' => e = .returned (.bool true) ∧ Below w.heap.size w w' :=
  back_of a b n w hn 8 2 4 true (by decide) h0 h1 (by kernel_rfl)
theorem back_8_3 (a b n : Int) (w : World) (hn : In64 n) (h0 : evB2 .rem .i64 (IntKind.i64.wrap (a.tmod (16 : Nat) + (16 : Nat))) .i64 (16 : Nat) = some (.int .i64 (8 : Nat))) (h1 : evB2 .and .i64 b .i64 ((2 ^ 4 - 1 : Nat) : Int) = some (.int .i64 (3 : Nat))) :
    Calls Try.prog 3 #[.int .i64 a, .int .i64 b, .int .i64 n] w fun e w' => e = .returned (.bool true) ∧ Below w.heap.size w w' :=
  back_of a b n w hn 8 3 8 true (by decide) h0 h1 (by kernel_rfl)
theorem back_8_4 (a b n : Int) (w : World) (hn : In64 n) (h0 : evB2 .rem .i64 (IntKind.i64.wrap (a.tmod (16 : Nat) + (16 : Nat))) .i64 (16 : Nat) = some (.int .i64 (8 : Nat))) (h1 : evB2 .and .i64 b .i64 ((2 ^ 4 - 1 : Nat) : Int) = some (.int .i64 (4 : Nat))) :
    Calls Try.prog 3 #[.int .i64 a, .int .i64 b, .int .i64 n] w fun e w' => e = .returned (.bool true) ∧ Below w.heap.size w w' :=
  back_of a b n w hn 8 4 1 false (by decide) h0 h1 (by kernel_rfl)
theorem back_8_5 (a b n : Int) (w : World) (hn : In64 n) (h0 : evB2 .rem .i64 (IntKind.i64.wrap (a.tmod (16 : Nat) + (16 : Nat))) .i64 (16 : Nat) = some (.int .i64 (8 : Nat))) (h1 : evB2 .and .i64 b .i64 ((2 ^ 4 - 1 : Nat) : Int) = some (.int .i64 (5 : Nat))) :
    Calls Try.prog 3 #[.int .i64 a, .int .i64 b, .int .i64 n] w fun e w' => e = .returned (.bool true) ∧ Below w.heap.size w w' :=
  back_of a b n w hn 8 5 2 false (by decide) h0 h1 (by kernel_rfl)
theorem back_8_6 (a b n : Int) (w : World) (hn : In64 n) (h0 : evB2 .rem .i64 (IntKind.i64.wrap (a.tmod (16 : Nat) + (16 : Nat))) .i64 (16 : Nat) = some (.int .i64 (8 : Nat))) (h1 : evB2 .and .i64 b .i64 ((2 ^ 4 - 1 : Nat) : Int) = some (.int .i64 (6 : Nat))) :
    Calls Try.prog 3 #[.int .i64 a, .int .i64 b, .int .i64 n] w fun e w' => e = .returned (.bool true) ∧ Below w.heap.size w w' :=
  back_of a b n w hn 8 6 4 false (by decide) h0 h1 (by kernel_rfl)
theorem back_8_7 (a b n : Int) (w : World) (hn : In64 n) (h0 : evB2 .rem .i64 (IntKind.i64.wrap (a.tmod (16 : Nat) + (16 : Nat))) .i64 (16 : Nat) = some (.int .i64 (8 : Nat))) (h1 : evB2 .and .i64 b .i64 ((2 ^ 4 - 1 : Nat) : Int) = some (.int .i64 (7 : Nat))) :
    Calls Try.prog 3 #[.int .i64 a, .int .i64 b, .int .i64 n] w fun e w' => e = .returned (.bool true) ∧ Below w.heap.size w w' :=
  back_of a b n w hn 8 7 8 false (by decide) h0 h1 (by kernel_rfl)
theorem back_8_8 (a b n : Int) (w : World) (hn : In64 n) (h0 : evB2 .rem .i64 (IntKind.i64.wrap (a.tmod (16 : Nat) + (16 : Nat))) .i64 (16 : Nat) = some (.int .i64 (8 : Nat))) (h1 : evB2 .and .i64 b .i64 ((2 ^ 4 - 1 : Nat) : Int) = some (.int .i64 (8 : Nat))) :
    Calls Try.prog 3 #[.int .i64 a, .int .i64 b, .int .i64 n] w fun e w' => e = .returned (.bool true) ∧ Below w.heap.size w w' :=
  back_of a b n w hn 8 8 1 true (by decide) h0 h1 (by kernel_rfl)
theorem back_8_9 (a b n : Int) (w : World) (hn : In64 n) (h0 : evB2 .rem .i64 (IntKind.i64.wrap (a.tmod (16 : Nat) + (16 : Nat))) .i64 (16 : Nat) = some (.int .i64 (8 : Nat))) (h1 : evB2 .and .i64 b .i64 ((2 ^ 4 - 1 : Nat) : Int) = some (.int .i64 (9 : Nat))) :
    Calls Try.prog 3 #[.int .i64 a, .int .i64 b, .int .i64 n] w fun e w' => e = .returned (.bool true) ∧ Below w.heap.size w w' :=
  back_of a b n w hn 8 9 2 true (by decide) h0 h1 (by kernel_rfl)
theorem back_8_10 (a b n : Int) (w : World) (hn : In64 n) (h0 : evB2 .rem .i64 (IntKind.i64.wrap (a.tmod (16 : Nat) + (16 : Nat))) .i64 (16 : Nat) = some (.int .i64 (8 : Nat))) (h1 : evB2 .and .i64 b .i64 ((2 ^ 4 - 1 : Nat) : Int) = some (.int .i64 (10 : Nat))) :
    Calls Try.prog 3 #[.int .i64 a, .int .i64 b, .int .i64 n] w fun e w' => e = .returned (.bool true) ∧ Below w.heap.size w w' :=
  back_of a b n w hn 8 10 4 true (by decide) h0 h1 (by kernel_rfl)
theorem back_8_11 (a b n : Int) (w : World) (hn : In64 n) (h0 : evB2 .rem .i64 (IntKind.i64.wrap (a.tmod (16 : Nat) + (16 : Nat))) .i64 (16 : Nat) = some (.int .i64 (8 : Nat))) (h1 : evB2 .and .i64 b .i64 ((2 ^ 4 - 1 : Nat) : Int) = some (.int .i64 (11 : Nat))) :
    Calls Try.prog 3 #[.int .i64 a, .int .i64 b, .int .i64 n] w fun e w' => e = .returned (.bool true) ∧ Below w.heap.size w w' :=
  back_of a b n w hn 8 11 8 true (by decide) h0 h1 (by kernel_rfl)
theorem back_8_12 (a b n : Int) (w : World) (hn : In64 n) (h0 : evB2 .rem .i64 (IntKind.i64.wrap (a.tmod (16 : Nat) + (16 : Nat))) .i64 (16 : Nat) = some (.int .i64 (8 : Nat))) (h1 : evB2 .and .i64 b .i64 ((2 ^ 4 - 1 : Nat) : Int) = some (.int .i64 (12 : Nat))) :
    Calls Try.prog 3 #[.int .i64 a, .int .i64 b, .int .i64 n] w fun e w' => e = .returned (.bool true) ∧ Below w.heap.size w w' :=
  back_of a b n w hn 8 12 1 false (by decide) h0 h1 (by kernel_rfl)
theorem back_8_13 (a b n : Int) (w : World) (hn : In64 n) (h0 : evB2 .rem .i64 (IntKind.i64.wrap (a.tmod (16 : Nat) + (16 : Nat))) .i64 (16 : Nat) = some (.int .i64 (8 : Nat))) (h1 : evB2 .and .i64 b .i64 ((2 ^ 4 - 1 : Nat) : Int) = some (.int .i64 (13 : Nat))) :
    Calls Try.prog 3 #[.int .i64 a, .int .i64 b, .int .i64 n] w fun e w' => e = .returned (.bool true) ∧ Below w.heap.size w w' :=
  back_of a b n w hn 8 13 2 false (by decide) h0 h1 (by kernel_rfl)
theorem back_8_14 (a b n : Int) (w : World) (hn : In64 n) (h0 : evB2 .rem .i64 (IntKind.i64.wrap (a.tmod (16 : Nat) + (16 : Nat))) .i64 (16 : Nat) = some (.int .i64 (8 : Nat))) (h1 : evB2 .and .i64 b .i64 ((2 ^ 4 - 1 : Nat) : Int) = some (.int .i64 (14 : Nat))) :
    Calls Try.prog 3 #[.int .i64 a, .int .i64 b, .int .i64 n] w fun e w' => e = .returned (.bool true) ∧ Below w.heap.size w w' :=
  back_of a b n w hn 8 14 4 false (by decide) h0 h1 (by kernel_rfl)
theorem back_8_15 (a b n : Int) (w : World) (hn : In64 n) (h0 : evB2 .rem .i64 (IntKind.i64.wrap (a.tmod (16 : Nat) + (16 : Nat))) .i64 (16 : Nat) = some (.int .i64 (8 : Nat))) (h1 : evB2 .and .i64 b .i64 ((2 ^ 4 - 1 : Nat) : Int) = some (.int .i64 (15 : Nat))) :
    Calls Try.prog 3 #[.int .i64 a, .int .i64 b, .int .i64 n] w fun e w' => e = .returned (.bool true) ∧ Below w.heap.size w w' :=
  back_of a b n w hn 8 15 8 false (by decide) h0 h1 (by kernel_rfl)
theorem back_8 (a b n : Int) (w : World) (hn : In64 n) (q : Nat) (hq : q < 16) (h0 : evB2 .rem .i64 (IntKind.i64.wrap (a.tmod (16 : Nat) + (16 : Nat))) .i64 (16 : Nat) = some (.int .i64 (8 : Nat))) (h1 : evB2 .and .i64 b .i64 ((2 ^ 4 - 1 : Nat) : Int) = some (.int .i64 (q : Nat))) :
    Calls Try.prog 3 #[.int .i64 a, .int .i64 b, .int .i64 n] w fun e w' => e = .returned (.bool true) ∧ Below w.heap.size w w' := by
  have hc : q = 0 ∨ q = 1 ∨ q = 2 ∨ q = 3 ∨ q = 4 ∨ q = 5 ∨ q = 6 ∨ q = 7 ∨ q = 8 ∨ q = 9 ∨ q = 10 ∨ q = 11 ∨ q = 12 ∨ q = 13 ∨ q = 14 ∨ q = 15 := by omega
  clear hq
  rcases hc with rfl | rfl | rfl | rfl | rfl | rfl | rfl | rfl | rfl | rfl | rfl | rfl | rfl | rfl | rfl | rfl
  · exact back_8_0 a b n w hn h0 h1
  · exact back_8_1 a b n w hn h0 h1
  · exact back_8_2 a b n w hn h0 h1
  · exact back_8_3 a b n w hn h0 h1
  · exact back_8_4 a b n w hn h0 h1
  · exact back_8_5 a b n w hn h0 h1
  · exact back_8_6 a b n w hn h0 h1
  · exact back_8_7 a b n w hn h0 h1
  · exact back_8_8 a b n w hn h0 h1
  · exact back_8_9 a b n w hn h0 h1
  · exact back_8_10 a b n w hn h0 h1
  · exact back_8_11 a b n w hn h0 h1
  · exact back_8_12 a b n w hn h0 h1
  · exact back_8_13 a b n w hn h0 h1
  · exact back_8_14 a b n w hn h0 h1
  · exact back_8_15 a b n w hn h0 h1
theorem back_9_0 (a b n : Int) (w : World) (hn : In64 n) (h0 : evB2 .rem .i64 (IntKind.i64.wrap (a.tmod (16 : Nat) + (16 : Nat))) .i64 (16 : Nat) = some (.int .i64 (9 : Nat))) (h1 : evB2 .and .i64 b .i64 ((2 ^ 4 - 1 : Nat) : Int) = some (.int .i64 (0 : Nat))) :
    Calls Try.prog 3 #[.int .i64 a, .int .i64 b, .int .i64 n] w fun e w' => e = .returned (.bool true) ∧ Below w.heap.size w w' :=
  back_of a b n w hn 9 0 1 true (by decide) h0 h1 (by kernel_rfl)
theorem back_9_1 (a b n : Int) (w : World) (hn : In64 n) (h0 : evB2 .rem .i64 (IntKind.i64.wrap (a.tmod (16 : Nat) + (16 : Nat))) .i64 (16 : Nat) = some (.int .i64 (9 : Nat))) (h1 : evB2 .and .i64 b .i64 ((2 ^ 4 - 1 : Nat) : Int) = some (.int .i64 (1 : Nat))) :
    Calls Try.prog 3 #[.int .i64 a, .int .i64 b, .int .i64 n] w fun e w' => e = .returned (.bool true) ∧ Below w.heap.size w w' :=
  back_of a b n w hn 9 1 2 true (by decide) h0 h1 (by kernel_rfl)
theorem back_9_2 (a b n : Int) (w : World) (hn : In64 n) (h0 : evB2 .rem .i64 (IntKind.i64.wrap (a.tmod (16 : Nat) + (16 : Nat))) .i64 (16 : Nat) = some (.int .i64 (9 : Nat))) (h1 : evB2 .and .i64 b .i64 ((2 ^ 4 - 1 : Nat) : Int) = some (.int .i64 (2 : Nat))) :
    Calls Try.prog 3 #[.int .i64 a, .int .i64 b, .int .i64 n] w fun e w' => e = .returned (.bool true) ∧ Below w.heap.size w w' :=
  back_of a b n w hn 9 2 4 true (by decide) h0 h1 (by kernel_rfl)
theorem back_9_3 (a b n : Int) (w : World) (hn : In64 n) (h0 : evB2 .rem .i64 (IntKind.i64.wrap (a.tmod (16 : Nat) + (16 : Nat))) .i64 (16 : Nat) = some (.int .i64 (9 : Nat))) (h1 : evB2 .and .i64 b .i64 ((2 ^ 4 - 1 : Nat) : Int) = some (.int .i64 (3 : Nat))) :
    Calls Try.prog 3 #[.int .i64 a, .int .i64 b, .int .i64 n] w fun e w' => e = .returned (.bool true) ∧ Below w.heap.size w w' :=
  back_of a b n w hn 9 3 8 true (by decide) h0 h1 (by kernel_rfl)
theorem back_9_4 (a b n : Int) (w : World) (hn : In64 n) (h0 : evB2 .rem .i64 (IntKind.i64.wrap (a.tmod (16 : Nat) + (16 : Nat))) .i64 (16 : Nat) = some (.int .i64 (9 : Nat))) (h1 : evB2 .and .i64 b .i64 ((2 ^ 4 - 1 : Nat) : Int) = some (.int .i64 (4 : Nat))) :
    Calls Try.prog 3 #[.int .i64 a, .int .i64 b, .int .i64 n] w fun e w' => e = .returned (.bool true) ∧ Below w.heap.size w w' :=
  back_of a b n w hn 9 4 1 false (by decide) h0 h1 (by kernel_rfl)
theorem back_9_5 (a b n : Int) (w : World) (hn : In64 n) (h0 : evB2 .rem .i64 (IntKind.i64.wrap (a.tmod (16 : Nat) + (16 : Nat))) .i64 (16 : Nat) = some (.int .i64 (9 : Nat))) (h1 : evB2 .and .i64 b .i64 ((2 ^ 4 - 1 : Nat) : Int) = some (.int .i64 (5 : Nat))) :
    Calls Try.prog 3 #[.int .i64 a, .int .i64 b, .int .i64 n] w fun e w' => e = .returned (.bool true) ∧ Below w.heap.size w w' :=
  back_of a b n w hn 9 5 2 false (by decide) h0 h1 (by kernel_rfl)
theorem back_9_6 (a b n : Int) (w : World) (hn : In64 n) (h0 : evB2 .rem .i64 (IntKind.i64.wrap (a.tmod (16 : Nat) + (16 : Nat))) .i64 (16 : Nat) = some (.int .i64 (9 : Nat))) (h1 : evB2 .and .i64 b .i64 ((2 ^ 4 - 1 : Nat) : Int) = some (.int .i64 (6 : Nat))) :
    Calls Try.prog 3 #[.int .i64 a, .int .i64 b, .int .i64 n] w fun e w' => e = .returned (.bool true) ∧ Below w.heap.size w w' :=
  back_of a b n w hn 9 6 4 false (by decide) h0 h1 (by kernel_rfl)
theorem back_9_7 (a b n : Int) (w : World) (hn : In64 n) (h0 : evB2 .rem .i64 (IntKind.i64.wrap (a.tmod (16 : Nat) + (16 : Nat))) .i64 (16 : Nat) = some (.int .i64 (9 : Nat))) (h1 : evB2 .and .i64 b .i64 ((2 ^ 4 - 1 : Nat) : Int) = some (.int .i64 (7 : Nat))) :
    Calls Try.prog 3 #[.int .i64 a, .int .i64 b, .int .i64 n] w fun e w' => e = .returned (.bool true) ∧ Below w.heap.size w w' :=
  back_of a b n w hn 9 7 8 false (by decide) h0 h1 (by kernel_rfl)
theorem back_9_8 (a b n : Int) (w : World) (hn : In64 n) (h0 : evB2 .rem .i64 (IntKind.i64.wrap (a.tmod (16 : Nat) + (16 : Nat))) .i64 (16 : Nat) = some (.int .i64 (9 : Nat))) (h1 : evB2 .and .i64 b .i64 ((2 ^ 4 - 1 : Nat) : Int) = some (.int .i64 (8 : Nat))) :
    Calls Try.prog 3 #[.int .i64 a, .int .i64 b, .int .i64 n] w fun e w' => e = .returned (.bool true) ∧ Below w.heap.size w w' :=
  back_of a b n w hn 9 8 1 true (by decide) h0 h1 (by kernel_rfl)
theorem back_9_9 (a b n : Int) (w : World) (hn : In64 n) (h0 : evB2 .rem .i64 (IntKind.i64.wrap (a.tmod (16 : Nat) + (16 : Nat))) .i64 (16 : Nat) = some (.int .i64 (9 : Nat))) (h1 : evB2 .and .i64 b .i64 ((2 ^ 4 - 1 : Nat) : Int) = some (.int .i64 (9 : Nat))) :
    Calls Try.prog 3 #[.int .i64 a, .int .i64 b, .int .i64 n] w fun e w' => e = .returned (.bool true) ∧ Below w.heap.size w w' :=
  back_of a b n w hn 9 9 2 true (by decide) h0 h1 (by kernel_rfl)
theorem back_9_10 (a b n : Int) (w : World) (hn : In64 n) (h0 : evB2 .rem .i64 (IntKind.i64.wrap (a.tmod (16 : Nat) + (16 : Nat))) .i64 (16 : Nat) = some (.int .i64 (9 : Nat))) (h1 : evB2 .and .i64 b .i64 ((2 ^ 4 - 1 : Nat) : Int) = some (.int .i64 (10 : Nat))) :
    Calls Try.prog 3 #[.int .i64 a, .int .i64 b, .int .i64 n] w fun e w' => e = .returned (.bool true) ∧ Below w.heap.size w w' :=
  back_of a b n w hn 9 10 4 true (by decide) h0 h1 (by kernel_rfl)
theorem back_9_11 (a b n : Int) (w : World) (hn : In64 n) (h0 : evB2 .rem .i64 (IntKind.i64.wrap (a.tmod (16 : Nat) + (16 : Nat))) .i64 (16 : Nat) = some (.int .i64 (9 : Nat))) (h1 : evB2 .and .i64 b .i64 ((2 ^ 4 - 1 : Nat) : Int) = some (.int .i64 (11 : Nat))) :
    Calls Try.prog 3 #[.int .i64 a, .int .i64 b, .int .i64 n] w fun e w' => e = .returned (.bool true) ∧ Below w.heap.size w w' :=
  back_of a b n w hn 9 11 8 true (by decide) h0 h1 (by kernel_rfl)
theorem back_9_12 (a b n : Int) (w : World) (hn : In64 n) (h0 : evB2 .rem .i64 (IntKind.i64.wrap (a.tmod (16 : Nat) + (16 : Nat))) .i64 (16 : Nat) = some (.int .i64 (9 : Nat))) (h1 : evB2 .and .i64 b .i64 ((2 ^ 4 - 1 : Nat) : Int) = some (.int .i64 (12 : Nat))) :
    Calls Try.prog 3 #[.int .i64 a, .int .i64 b, .int .i64 n] w fun e w' => e = .returned (.bool true) ∧ Below w.heap.size w w' :=
  back_of a b n w hn 9 12 1 false (by decide) h0 h1 (by kernel_rfl)
theorem back_9_13 (a b n : Int) (w : World) (hn : In64 n) (h0 : evB2 .rem .i64 (IntKind.i64.wrap (a.tmod (16 : Nat) + (16 : Nat))) .i64 (16 : Nat) = some (.int .i64 (9 : Nat))) (h1 : evB2 .and .i64 b .i64 ((2 ^ 4 - 1 : Nat) : Int) = some (.int .i64 (13 : Nat))) :
    Calls Try.prog 3 #[.int .i64 a, .int .i64 b, .int .i64 n] w fun e w' => e = .returned (.bool true) ∧ Below w.heap.size w w' :=
  back_of a b n w hn 9 13 2 false (by decide) h0 h1 (by kernel_rfl)
theorem back_9_14 (a b n : Int) (w : World) (hn : In64 n) (h0 : evB2 .rem .i64 (IntKind.i64.wrap (a.tmod (16 : Nat) + (16 : Nat))) .i64 (16 : Nat) = some (.int .i64 (9 : Nat))) (h1 : evB2 .and .i64 b .i64 ((2 ^ 4 - 1 : Nat) : Int) = some (.int .i64 (14 : Nat))) :
    Calls Try.prog 3 #[.int .i64 a, .int .i64 b, .int .i64 n] w fun e w' => e = .returned (.bool true) ∧ Below w.heap.size w w' :=
  back_of a b n w hn 9 14 4 false (by decide) h0 h1 (by kernel_rfl)
theorem back_9_15 (a b n : Int) (w : World) (hn : In64 n) (h0 : evB2 .rem .i64 (IntKind.i64.wrap (a.tmod (16 : Nat) + (16 : Nat))) .i64 (16 : Nat) = some (.int .i64 (9 : Nat))) (h1 : evB2 .and .i64 b .i64 ((2 ^ 4 - 1 : Nat) : Int) = some (.int .i64 (15 : Nat))) :
    Calls Try.prog 3 #[.int .i64 a, .int .i64 b, .int .i64 n] w fun e w' => e = .returned (.bool true) ∧ Below w.heap.size w w' :=
  back_of a b n w hn 9 15 8 false (by decide) h0 h1 (by kernel_rfl)
theorem back_9 (a b n : Int) (w : World) (hn : In64 n) (q : Nat) (hq : q < 16) (h0 : evB2 .rem .i64 (IntKind.i64.wrap (a.tmod (16 : Nat) + (16 : Nat))) .i64 (16 : Nat) = some (.int .i64 (9 : Nat))) (h1 : evB2 .and .i64 b .i64 ((2 ^ 4 - 1 : Nat) : Int) = some (.int .i64 (q : Nat))) :
    Calls Try.prog 3 #[.int .i64 a, .int .i64 b, .int .i64 n] w fun e w' => e = .returned (.bool true) ∧ Below w.heap.size w w' := by
  have hc : q = 0 ∨ q = 1 ∨ q = 2 ∨ q = 3 ∨ q = 4 ∨ q = 5 ∨ q = 6 ∨ q = 7 ∨ q = 8 ∨ q = 9 ∨ q = 10 ∨ q = 11 ∨ q = 12 ∨ q = 13 ∨ q = 14 ∨ q = 15 := by omega
  clear hq
  rcases hc with rfl | rfl | rfl | rfl | rfl | rfl | rfl | rfl | rfl | rfl | rfl | rfl | rfl | rfl | rfl | rfl
  · exact back_9_0 a b n w hn h0 h1
  · exact back_9_1 a b n w hn h0 h1
  · exact back_9_2 a b n w hn h0 h1
  · exact back_9_3 a b n w hn h0 h1
  · exact back_9_4 a b n w hn h0 h1
  · exact back_9_5 a b n w hn h0 h1
  · exact back_9_6 a b n w hn h0 h1
  · exact back_9_7 a b n w hn h0 h1
  · exact back_9_8 a b n w hn h0 h1
  · exact back_9_9 a b n w hn h0 h1
  · exact back_9_10 a b n w hn h0 h1
  · exact back_9_11 a b n w hn h0 h1
  · exact back_9_12 a b n w hn h0 h1
  · exact back_9_13 a b n w hn h0 h1
  · exact back_9_14 a b n w hn h0 h1
  · exact back_9_15 a b n w hn h0 h1
end Go.Proofs.Yteoemkkfplbiaaa
