/- ObjsBack: runs, part 0. No condition. -/
import Derived.Test.YteoemkkfplbiaaaObK
namespace Go.Proofs.Yteoemkkfplbiaaa
open Go.RowKit
set_option linter.unusedVariables false
theorem back_0_0 (a b n : Int) (w : World) (hn : In64 n) (h0 : evB2 .rem .i64 (IntKind.i64.wrap (a.tmod (16 : Nat) + (16 : Nat))) .i64 (16 : Nat) = some (.int .i64 (0 : Nat))) (h1 : evB2 .and .i64 b .i64 ((2 ^ 4 - 1 : Nat) : Int) = some (.int .i64 (0 : Nat))) :
    Calls Try.prog 3 #[.int .i64 a, .int .i64 b, .int .i64 n] w fun e w' => e = .returned (.bool true) ∧ Below w.heap.size w w' :=
  back_of a b n w hn 0 0 1 true (by decide) h0 h1 (by kernel_rfl)
theorem back_0_1 (a b n : Int) (w : World) (hn : In64 n) (h0 : evB2 .rem .i64 (IntKind.i64.wrap (a.tmod (16 : Nat) + (16 : Nat))) .i64 (16 : Nat) = some (.int .i64 (0 : Nat))) (h1 : evB2 .and .i64 b .i64 ((2 ^ 4 - 1 : Nat) : Int) = some (.int .i64 (1 : Nat))) :
    Calls Try.prog 3 #[.int .i64 a, .int .i64 b, .int .i64 n] w fun e w' => e = .returned (.bool true) ∧ Below w.heap.size w w' :=
  back_of a b n w hn 0 1 2 true (by decide) h0 h1 (by kernel_rfl)
theorem back_0_2 (a b n : Int) (w : World) (hn : In64 n) (h0 : evB2 .rem .i64 (IntKind.i64.wrap (a.tmod (16 : Nat) + (16 : Nat))) .i64 (16 : Nat) = some (.int .i64 (0 : Nat))) (h1 : evB2 .and .i64 b .i64 ((2 ^ 4 - 1 : Nat) : Int) = some (.int .i64 (2 : Nat))) :
    Calls Try.prog 3 #[.int .i64 a, .int .i64 b, .int .i64 n] w fun e w' => e = .returned (.bool true) ∧ Below w.heap.size w w' :=
  back_of a b n w hn 0 2 4 true (by decide) h0 h1 (by kernel_rfl)
theorem back_0_3 (a b n : Int) (w : World) (hn : In64 n) (h0 : evB2 .rem .i64 (IntKind.i64.wrap (a.tmod (16 : Nat) + (16 : Nat))) .i64 (16 : Nat) = some (.int .i64 (0 : Nat))) (h1 : evB2 .and .i64 b .i64 ((2 ^ 4 - 1 : Nat) : Int) = some (.int .i64 (3 : Nat))) :
    Calls Try.prog 3 #[.int .i64 a, .int .i64 b, .int .i64 n] w fun e w' => e = .returned (.bool true) ∧ Below w.heap.size w w' :=
  back_of a b n w hn 0 3 8 true (by decide) h0 h1 (by kernel_rfl)
theorem back_0_4 (a b n : Int) (w : World) (hn : In64 n) (h0 : evB2 .rem .i64 (IntKind.i64.wrap (a.tmod (16 : Nat) + (16 : Nat))) .i64 (16 : Nat) = some (.int .i64 (0 : Nat))) (h1 : evB2 .and .i64 b .i64 ((2 ^ 4 - 1 : Nat) : Int) = some (.int .i64 (4 : Nat))) :
    Calls Try.prog 3 #[.int .i64 a, .int .i64 b, .int .i64 n] w fun e w' => e = .returned (.bool true) ∧ Below w.heap.size w w' :=
  back_of a b n w hn 0 4 1 false (by decide) h0 h1 (by kernel_rfl)
theorem back_0_5 (a b n : Int) (w : World) (hn : In64 n) (h0 : evB2 .rem .i64 (IntKind.i64.wrap (a.tmod (16 : Nat) + (16 : Nat))) .i64 (16 : Nat) = some (.int .i64 (0 : Nat))) (h1 : evB2 .and .i64 b .i64 ((2 ^ 4 - 1 : Nat) : Int) = some (.int .i64 (5 : Nat))) :
    Calls Try.prog 3 #[.int .i64 a, .int .i64 b, .int .i64 n] w fun e w' => e = .returned (.bool true) ∧ Below w.heap.size w w' :=
  back_of a b n w hn 0 5 2 false (by decide) h0 h1 (by kernel_rfl)
theorem back_0_6 (a b n : Int) (w : World) (hn : In64 n) (h0 : evB2 .rem .i64 (IntKind.i64.wrap (a.tmod (16 : Nat) + (16 : Nat))) .i64 (16 : Nat) = some (.int .i64 (0 : Nat))) (h1 : evB2 .and .i64 b .i64 ((2 ^ 4 - 1 : Nat) : Int) = some (.int .i64 (6 : Nat))) :
    Calls Try.prog 3 #[.int .i64 a, .int .i64 b, .int .i64 n] w fun e w' => e = .returned (.bool true) ∧ Below w.heap.size w w' :=
  back_of a b n w hn 0 6 4 false (by decide) h0 h1 (by kernel_rfl)
theorem back_0_7 (a b n : Int) (w : World) (hn : In64 n) (h0 : evB2 .rem .i64 (IntKind.i64.wrap (a.tmod (16 : Nat) + (16 : Nat))) .i64 (16 : Nat) = some (.int .i64 (0 : Nat))) (h1 : evB2 .and .i64 b .i64 ((2 ^ 4 - 1 : Nat) : Int) = some (.int .i64 (7 : Nat))) :
    Calls Try.prog 3 #[.int .i64 a, .int .i64 b, .int .i64 n] w fun e w' => e = .returned (.bool true) ∧ Below w.heap.size w w' :=
  back_of a b n w hn 0 7 8 false (by decide) h0 h1 (by kernel_rfl)
theorem back_0_8 (a b n : Int) (w : World) (hn : In64 n) (h0 : evB2 .rem .i64 (IntKind.i64.wrap (a.tmod (16 : Nat) + (16 : Nat))) .i64 (16 : Nat) = some (.int .i64 (0 : Nat))) (h1 : evB2 .and .i64 b .i64 ((2 ^ 4 - 1 : Nat) : Int) = some (.int .i64 (8 : Nat))) :
    Calls Try.prog 3 #[.int .i64 a, .int .i64 b, .int .i64 n] w fun e w' => e = .returned (.bool true) ∧ Below w.heap.size w w' :=
  back_of a b n w hn 0 8 1 true (by decide) h0 h1 (by kernel_rfl)
theorem back_0_9 (a b n : Int) (w : World) (hn : In64 n) (h0 : evB2 .rem .i64 (IntKind.i64.wrap (a.tmod (16 : Nat) + (16 : Nat))) .i64 (16 : Nat) = some (.int .i64 (0 : Nat))) (h1 : evB2 .and .i64 b .i64 ((2 ^ 4 - 1 : Nat) : Int) = some (.int .i64 (9 : Nat))) :
    Calls Try.prog 3 #[.int .i64 a, .int .i64 b, .int .i64 n] w fun e w' => e = .returned (.bool true) ∧ Below w.heap.size w w' :=
  back_of a b n w hn 0 9 2 true (by decide) h0 h1 (by kernel_rfl)
theorem back_0_10 (a b n : Int) (w : World) (hn : In64 n) (h0 : evB2 .rem .i64 (IntKind.i64.wrap (a.tmod (16 : Nat) + (16 : Nat))) .i64 (16 : Nat) = some (.int .i64 (0 : Nat))) (h1 : evB2 .and .i64 b .i64 ((2 ^ 4 - 1 : Nat) : Int) = some (.int .i64 (10 : Nat))) :
    Calls Try.prog 3 #[.int .i64 a, .int .i64 b, .int .i64 n] w fun e w' => e = .returned (.bool true) ∧ Below w.heap.size w w' :=
  back_of a b n w hn 0 10 4 true (by decide) h0 h1 (by kernel_rfl)
theorem back_0_11 (a b n : Int) (w : World) (hn : In64 n) (h0 : evB2 .rem .i64 (IntKind.i64.wrap (a.tmod (16 : Nat) + (16 : Nat))) .i64 (16 : Nat) = some (.int .i64 (0 : Nat))) (h1 : evB2 .and .i64 b .i64 ((2 ^ 4 - 1 : Nat) : Int) = some (.int .i64 (11 : Nat))) :
    Calls Try.prog 3 #[.int .i64 a, .int .i64 b, .int .i64 n] w fun e w' => e = .returned (.bool true) ∧ Below w.heap.size w w' :=
  back_of a b n w hn 0 11 8 true (by decide) h0 h1 (by kernel_rfl)
theorem back_0_12 (a b n : Int) (w : World) (hn : In64 n) (h0 : evB2 .rem .i64 (IntKind.i64.wrap (a.tmod (16 : Nat) + (16 : Nat))) .i64 (16 : Nat) = some (.int .i64 (0 : Nat))) (h1 : evB2 .and .i64 b .i64 ((2 ^ 4 - 1 : Nat) : Int) = some (.int .i64 (12 : Nat))) :
    Calls Try.prog 3 #[.int .i64 a, .int .i64 b, .int .i64 n] w fun e w' => e = .returned (.bool true) ∧ Below w.heap.size w w' :=
  back_of a b n w hn 0 12 1 false (by decide) h0 h1 (by kernel_rfl)
theorem back_0_13 (a b n : Int) (w : World) (hn : In64 n) (h0 : evB2 .rem .i64 (IntKind.i64.wrap (a.tmod (16 : Nat) + (16 : Nat))) .i64 (16 : Nat) = some (.int .i64 (0 : Nat))) (h1 : evB2 .and .i64 b .i64 ((2 ^ 4 - 1 : Nat) : Int) = some (.int .i64 (13 : Nat))) :
    Calls Try.prog 3 #[.int .i64 a, .int .i64 b, .int .i64 n] w fun e w' => e = .returned (.bool true) ∧ Below w.heap.size w w' :=
  back_of a b n w hn 0 13 2 false (by decide) h0 h1 (by kernel_rfl)
theorem back_0_14 (a b n : Int) (w : World) (hn : In64 n) (h0 : evB2 .rem .i64 (IntKind.i64.wrap (a.tmod (16 : Nat) + (16 : Nat))) .i64 (16 : Nat) = some (.int .i64 (0 : Nat))) (h1 : evB2 .and .i64 b .i64 ((2 ^ 4 - 1 : Nat) : Int) = some (.int .i64 (14 : Nat))) :
    Calls Try.prog 3 #[.int .i64 a, .int .i64 b, .int .i64 n] w fun e w' => e = .returned (.bool true) ∧ Below w.heap.size w w' :=
  back_of a b n w hn 0 14 4 false (by decide) h0 h1 (by kernel_rfl)
theorem back_0_15 (a b n : Int) (w : World) (hn : In64 n) (h0 : evB2 .rem .i64 (IntKind.i64.wrap (a.tmod (16 : Nat) + (16 : Nat))) .i64 (16 : Nat) = some (.int .i64 (0 : Nat))) (h1 : evB2 .and .i64 b .i64 ((2 ^ 4 - 1 : Nat) : Int) = some (.int .i64 (15 : Nat))) :
    Calls Try.prog 3 #[.int .i64 a, .int .i64 b, .int .i64 n] w fun e w' => e = .returned (.bool true) ∧ Below w.heap.size w w' :=
  back_of a b n w hn 0 15 8 false (by decide) h0 h1 (by kernel_rfl)
theorem back_0 (a b n : Int) (w : World) (hn : In64 n) (q : Nat) (hq : q < 16) (h0 : evB2 .rem .i64 (IntKind.i64.wrap (a.tmod (16 : Nat) + (16 : Nat))) .i64 (16 : Nat) = some (.int .i64 (0 : Nat))) (h1 : evB2 .and .i64 b .i64 ((2 ^ 4 - 1 : Nat) : Int) = some (.int .i64 (q : Nat))) :
    Calls Try.prog 3 #[.int .i64 a, .int .i64 b, .int .i64 n] w fun e w' => e = .returned (.bool true) ∧ Below w.heap.size w w' := by
  have hc : q = 0 ∨ q = 1 ∨ q = 2 ∨ q = 3 ∨ q = 4 ∨ q = 5 ∨ q = 6 ∨ q = 7 ∨ q = 8 ∨ q = 9 ∨ q = 10 ∨ q = 11 ∨ q = 12 ∨ q = 13 ∨ q = 14 ∨ q = 15 := by omega
  clear hq
  rcases hc with rfl | rfl | rfl | rfl | rfl | rfl | rfl | rfl | rfl | rfl | rfl | rfl | rfl | rfl | rfl | rfl
  · exact back_0_0 a b n w hn h0 h1
  · exact back_0_1 a b n w hn h0 h1
  · exact back_0_2 a b n w hn h0 h1
  · exact back_0_3 a b n w hn h0 h1
  · exact back_0_4 a b n w hn h0 h1
  · exact back_0_5 a b n w hn h0 h1
  · exact back_0_6 a b n w hn h0 h1
  · exact back_0_7 a b n w hn h0 h1
  · exact back_0_8 a b n w hn h0 h1
  · exact back_0_9 a b n w hn h0 h1
  · exact back_0_10 a b n w hn h0 h1
  · exact back_0_11 a b n w hn h0 h1
  · exact back_0_12 a b n w hn h0 h1
  · exact back_0_13 a b n w hn h0 h1
  · exact back_0_14 a b n w hn h0 h1
  · exact back_0_15 a b n w hn h0 h1
theorem back_1_0 (a b n : Int) (w : World) (hn : In64 n) (h0 : evB2 .rem .i64 (IntKind.i64.wrap (a.tmod (16 : Nat) + (16 : Nat))) .i64 (16 : Nat) = some (.int .i64 (1 : Nat))) (h1 : evB2 .and .i64 b .i64 ((2 ^ 4 - 1 : Nat) : Int) = some (.int .i64 (0 : Nat))) :
    Calls Try.prog 3 #[.int .i64 a, .int .i64 b, .int .i64 n] w fun e w' => e = .returned (.bool true) ∧ Below w.heap.size w w' :=
  back_of a b n w hn 1 0 1 true (by decide) h0 h1 (by kernel_rfl)
theorem back_1_1 (a b n : Int) (w : World) (hn : In64 n) (h0 : evB2 .rem .i64 (IntKind.i64.wrap (a.tmod (16 : Nat) + (16 : Nat))) .i64 (16 : Nat) = some (.int .i64 (1 : Nat))) (h1 : evB2 .and .i64 b .i64 ((2 ^ 4 - 1 : Nat) : Int) = some (.int .i64 (1 : Nat))) :
    Calls Try.prog 3 #[.int .i64 a, .int .i64 b, .int .i64 n] w fun e w' => e = .returned (.bool true) ∧ Below w.heap.size w w' :=
  back_of a b n w hn 1 1 2 true (by decide) h0 h1 (by kernel_rfl)
theorem back_1_2 (a b n : Int) (w : World) (hn : In64 n) (h0 : evB2 .rem .i64 (IntKind.i64.wrap (a.tmod (16 : Nat) + (16 : Nat))) .i64 (16 : Nat) = some (.int .i64 (1 : Nat))) (h1 : evB2 .and .i64 b .i64 ((2 ^ 4 - 1 : Nat) : Int) = some (.int .i64 (2 : Nat))) :
    Calls Try.prog 3 #[.int .i64 a, .int .i64 b, .int .i64 n] w fun e w' => e = .returned (.bool true) ∧ Below w.heap.size w w' :=
  back_of a b n w hn 1 2 4 true (by decide) h0 h1 (by kernel_rfl)
theorem back_1_3 (a b n : Int) (w : World) (hn : In64 n) (h0 : evB2 .rem .i64 (IntKind.i64.wrap (a.tmod (16 : Nat) + (16 : Nat))) .i64 (16 : Nat) = some (.int .i64 (1 : Nat))) (h1 : evB2 .and .i64 b .i64 ((2 ^ 4 - 1 : Nat) : Int) = some (.int .i64 (3 : Nat))) :
    Calls Try.prog 3 #[.int .i64 a, .int .i64 b, .int .i64 n] w fun e w' => e = .returned (.bool true) ∧ Below w.heap.size w w' :=
  back_of a b n w hn 1 3 8 true (by decide) h0 h1 (by kernel_rfl)
theorem back_1_4 (a b n : Int) (w : World) (hn : In64 n) (h0 : evB2 .rem .i64 (IntKind.i64.wrap (a.tmod (16 : Nat) + (16 : Nat))) .i64 (16 : Nat) = some (.int .i64 (1 : Nat))) (h1 : evB2 .and .i64 b .i64 ((2 ^ 4 - 1 : Nat) : Int) = some (.int .i64 (4 : Nat))) :
    Calls Try.prog 3 #[.int .i64 a, .int .i64 b, .int .i64 n] w fun e w' => e = .returned (.bool true) ∧ Below w.heap.size w w' :=
  back_of a b n w hn 1 4 1 false (by decide) h0 h1 (by kernel_rfl)
theorem back_1_5 (a b n : Int) (w : World) (hn : In64 n) (h0 : evB2 .rem .i64 (IntKind.i64.wrap (a.tmod (16 : Nat) + (16 : Nat))) .i64 (16 : Nat) = some (.int .i64 (1 : Nat))) (h1 : evB2 .and .i64 b .i64 ((2 ^ 4 - 1 : Nat) : Int) = some (.int .i64 (5 : Nat))) :
    Calls Try.prog 3 #[.int .i64 a, .int .i64 b, .int .i64 n] w fun e w' => e = .returned (.bool true) ∧ Below w.heap.size w w' :=
  back_of a b n w hn 1 5 2 false (by decide) h0 h1 (by kernel_rfl)
theorem back_1_6 (a b n : Int) (w : World) (hn : In64 n) (h0 : evB2 .rem .i64 (IntKind.i64.wrap (a.tmod (16 : Nat) + (16 : Nat))) .i64 (16 : Nat) = some (.int .i64 (1 : Nat))) (h1 : evB2 .and .i64 b .i64 ((2 ^ 4 - 1 : Nat) : Int) = some (.int .i64 (6 : Nat))) :
    Calls Try.prog 3 #[.int .i64 a, .int .i64 b, .int .i64 n] w fun e w' => e = .returned (.bool true) ∧ Below w.heap.size w w' :=
  back_of a b n w hn 1 6 4 false (by decide) h0 h1 (by kernel_rfl)
theorem back_1_7 (a b n : Int) (w : World) (hn : In64 n) (h0 : evB2 .rem .i64 (IntKind.i64.wrap (a.tmod (16 : Nat) + (16 : Nat))) .i64 (16 : Nat) = some (.int .i64 (1 : Nat))) (h1 : evB2 .and .i64 b .i64 ((2 ^ 4 - 1 : Nat) : Int) = some (.int .i64 (7 : Nat))) :
    Calls Try.prog 3 #[.int .i64 a, .int .i64 b, .int .i64 n] w fun e w' => e = .returned (.bool true) ∧ Below w.heap.size w w' :=
  back_of a b n w hn 1 7 8 false (by decide) h0 h1 (by kernel_rfl)
theorem back_1_8 (a b n : Int) (w : World) (hn : In64 n) (h0 : evB2 .rem .i64 (IntKind.i64.wrap (a.tmod (16 : Nat) + (16 : Nat))) .i64 (16 : Nat) = some (.int .i64 (1 : Nat))) (h1 : evB2 .and .i64 b .i64 ((2 ^ 4 - 1 : Nat) : Int) = some (.int .i64 (8 : Nat))) :
    Calls Try.prog 3 #[.int .i64 a, .int .i64 b, .int .i64 n] w fun e w' => e = .returned (.bool true) ∧ Below w.heap.size w w' :=
  back_of a b n w hn 1 8 1 true (by decide) h0 h1 (by kernel_rfl)
theorem back_1_9 (a b n : Int) (w : World) (hn : In64 n) (h0 : evB2 .rem .i64 (IntKind.i64.wrap (a.tmod (16 : Nat) + (16 : Nat))) .i64 (16 : Nat) = some (.int .i64 (1 : Nat))) (h1 : evB2 .and .i64 b .i64 ((2 ^ 4 - 1 : Nat) : Int) = some (.int .i64 (9 : Nat))) :
    Calls Try.prog 3 #[.int .i64 a, .int .i64 b, .int .i64 n] w fun e w' => e = .returned (.bool true) ∧ Below w.heap.size w w' :=
  back_of a b n w hn 1 9 2 true (by decide) h0 h1 (by kernel_rfl)
theorem back_1_10 (a b n : Int) (w : World) (hn : In64 n) (h0 : evB2 .rem .i64 (IntKind.i64.wrap (a.tmod (16 : Nat) + (16 : Nat))) .i64 (16 : Nat) = some (.int .i64 (1 : Nat))) (h1 : evB2 .and .i64 b .i64 ((2 ^ 4 - 1 : Nat) : Int) = some (.int .i64 (10 : Nat))) :
    Calls Try.prog 3 #[.int .i64 a, .int .i64 b, .int .i64 n] w fun e w' => e = .returned (.bool true) ∧ Below w.heap.size w w' :=
  back_of a b n w hn 1 10 4 true (by decide) h0 h1 (by kernel_rfl)
theorem back_1_11 (a b n : Int) (w : World) (hn : In64 n) (h0 : evB2 .rem .i64 (IntKind.i64.wrap (a.tmod (16 : Nat) + (16 : Nat))) .i64 (16 : Nat) = some (.int .i64 (1 : Nat))) (h1 : evB2 .and .i64 b .i64 ((2 ^ 4 - 1 : Nat) : Int) = some (.int .i64 (11 : Nat))) :
    Calls Try.prog 3 #[.int .i64 a, .int .i64 b, .int .i64 n] w fun e w' => e = .returned (.bool true) ∧ Below w.heap.size w w' :=
  back_of a b n w hn 1 11 8 true (by decide) h0 h1 (by kernel_rfl)
theorem back_1_12 (a b n : Int) (w : World) (hn : In64 n) (h0 : evB2 .rem .i64 (IntKind.i64.wrap (a.tmod (16 : Nat) + (16 : Nat))) .i64 (16 : Nat) = some (.int .i64 (1 : Nat))) (h1 : evB2 .and .i64 b .i64 ((2 ^ 4 - 1 : Nat) : Int) = some (.int .i64 (12 : Nat))) :
    Calls Try.prog 3 #[.int .i64 a, .int .i64 b, .int .i64 n] w fun e w' => e = .returned (.bool true) ∧ Below w.heap.size w w' :=
  back_of a b n w hn 1 12 1 false (by decide) h0 h1 (by kernel_rfl)
theorem back_1_13 (a b n : Int) (w : World) (hn : In64 n) (h0 : evB2 .rem .i64 (IntKind.i64.wrap (a.tmod (16 : Nat) + (16 : Nat))) .i64 (16 : Nat) = some (.int .i64 (1 : Nat))) (h1 : evB2 .and .i64 b .i64 ((2 ^ 4 - 1 : Nat) : Int) = some (.int .i64 (13 : Nat))) :
    Calls Try.prog 3 #[.int .i64 a, .int .i64 b, .int .i64 n] w fun e w' => e = .returned (.bool true) ∧ Below w.heap.size w w' :=
  back_of a b n w hn 1 13 2 false (by decide) h0 h1 (by kernel_rfl)
theorem back_1_14 (a b n : Int) (w : World) (hn : In64 n) (h0 : evB2 .rem .i64 (IntKind.i64.wrap (a.tmod (16 : Nat) + (16 : Nat))) .i64 (16 : Nat) = some (.int .i64 (1 : Nat))) (h1 : evB2 .and .i64 b .i64 ((2 ^ 4 - 1 : Nat) : Int) = some (.int .i64 (14 : Nat))) :
    Calls Try.prog 3 #[.int .i64 a, .int .i64 b, .int .i64 n] w fun e w' => e = .returned (.bool true) ∧ Below w.heap.size w w' :=
  back_of a b n w hn 1 14 4 false (by decide) h0 h1 (by kernel_rfl)
theorem back_1_15 (a b n : Int) (w : World) (hn : In64 n) (h0 : evB2 .rem .i64 (IntKind.i64.wrap (a.tmod (16 : Nat) + (16 : Nat))) .i64 (16 : Nat) = some (.int .i64 (1 : Nat))) (h1 : evB2 .and .i64 b .i64 ((2 ^ 4 - 1 : Nat) : Int) = some (.int .i64 (15 : Nat))) :
    Calls Try.prog 3 #[.int .i64 a, .int .i64 b, .int .i64 n] w fun e w' => e = .returned (.bool true) ∧ Below w.heap.size w w' :=
  back_of a b n w hn 1 15 8 false (by decide) h0 h1 (by kernel_rfl)
theorem back_1 (a b n : Int) (w : World) (hn : In64 n) (q : Nat) (hq : q < 16) (h0 : evB2 .rem .i64 (IntKind.i64.wrap (a.tmod (16 : Nat) + (16 : Nat))) .i64 (16 : Nat) = some (.int .i64 (1 : Nat))) (h1 : evB2 .and .i64 b .i64 ((2 ^ 4 - 1 : Nat) : Int) = some (.int .i64 (q : Nat))) :
    Calls Try.prog 3 #[.int .i64 a, .int .i64 b, .int .i64 n] w fun e w' => e = .returned (.bool true) ∧ Below w.heap.size w w' := by
  have hc : q = 0 ∨ q = 1 ∨ q = 2 ∨ q = 3 ∨ q = 4 ∨ q = 5 ∨ q = 6 ∨ q = 7 ∨ q = 8 ∨ q = 9 ∨ q = 10 ∨ q = 11 ∨ q = 12 ∨ q = 13 ∨ q = 14 ∨ q = 15 := by omega
  clear hq
  rcases hc with rfl | rfl | rfl | rfl | rfl | rfl | rfl | rfl | rfl | rfl | rfl | rfl | rfl | rfl | rfl | rfl
  · exact back_1_0 a b n w hn h0 h1
  · exact back_1_1 a b n w hn h0 h1
  · exact back_1_2 a b n w hn h0 h1
  · exact back_1_3 a b n w hn h0 h1
  · exact back_1_4 a b n w hn h0 h1
  · exact back_1_5 a b n w hn h0 h1
  · exact back_1_6 a b n w hn h0 h1
  · exact back_1_7 a b n w hn h0 h1
  · exact back_1_8 a b n w hn h0 h1
  · exact back_1_9 a b n w hn h0 h1
  · exact back_1_10 a b n w hn h0 h1
  · exact back_1_11 a b n w hn h0 h1
  · exact back_1_12 a b n w hn h0 h1
  · exact back_1_13 a b n w hn h0 h1
  · exact back_1_14 a b n w hn h0 h1
  · exact back_1_15 a b n w hn h0 h1
end Go.Proofs.Yteoemkkfplbiaaa
