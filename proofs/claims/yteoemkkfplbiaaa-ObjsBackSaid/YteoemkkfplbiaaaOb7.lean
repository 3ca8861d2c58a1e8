/- ObjsBack: runs, part 7. No condition. -/
import Derived.Test.YteoemkkfplbiaaaObK
namespace Go.Proofs.Yteoemkkfplbiaaa
open Go.RowKit
set_option linter.unusedVariables false
theorem back_14_0 (a b n : Int) (w : World) (hn : In64 n) (h0 : evB2 .rem .i64 (IntKind.i64.wrap (a.tmod (16 : Nat) + (16 : Nat))) .i64 (16 : Nat) = some (.int .i64 (14 : Nat))) (h1 : evB2 .and .i64 b .i64 ((2 ^ 4 - 1 : Nat) : Int) = some (.int .i64 (0 : Nat))) :
    Calls Try.prog 3 #[.int .i64 a, .int .i64 b, .int .i64 n] w fun e w' => e = .returned (.bool true) ∧ Below w.heap.size w w' :=
  back_of a b n w hn 14 0 1 true (by decide) h0 h1 (by kernel_rfl)
theorem back_14_1 (a b n : Int) (w : World) (hn : In64 n) (h0 : evB2 .rem .i64 (IntKind.i64.wrap (a.tmod (16 : Nat) + (16 : Nat))) .i64 (16 : Nat) = some (.int .i64 (14 : Nat))) (h1 : evB2 .and .i64 b .i64 ((2 ^ 4 - 1 : Nat) : Int) = some (.int .i64 (1 : Nat))) :
    Calls Try.prog 3 #[.int .i64 a, .int .i64 b, .int .i64 n] w fun e w' => e = .returned (.bool true) ∧ Below w.heap.size w w' :=
  back_of a b n w hn 14 1 2 true (by decide) h0 h1 (by kernel_rfl)
theorem back_14_2 (a b n : Int) (w : World) (hn : In64 n) (h0 : evB2 .rem .i64 (IntKind.i64.wrap (a.tmod (16 : Nat) + (16 : Nat))) .i64 (16 : Nat) = some (.int .i64 (14 : Nat))) (h1 : evB2 .and .i64 b .i64 ((2 ^ 4 - 1 : Nat) : Int) = some (.int .i64 (2 : Nat))) :
    Calls Try.prog 3 #[.int .i64 a, .int .i64 b, .int .i64 n] w fun e w' => e = .returned (.bool true) ∧ Below w.heap.size w w' :=
  back_of a b n w hn 14 2 4 true (by decide) h0 h1 (by kernel_rfl)
theorem back_14_3 (a b n : Int) (w : World) (hn : In64 n) (h0 : evB2 .rem .i64 (IntKind.i64.wrap (a.tmod (16 : Nat) + (16 : Nat))) .i64 (16 : Nat) = some (.int .i64 (14 : Nat))) (h1 : evB2 .and .i64 b .i64 ((2 ^ 4 - 1 : Nat) : Int) = some (.int .i64 (3 : Nat))) :
    Calls Try.prog 3 #[.int .i64 a, .int .i64 b, .int .i64 n] w fun e w' => e = .returned (.bool true) ∧ Below w.heap.size w w' :=
  back_of a b n w hn 14 3 8 true (by decide) h0 h1 (by kernel_rfl)
theorem back_14_4 (a b n : Int) (w : World) (hn : In64 n) (h0 : evB2 .rem .i64 (IntKind.i64.wrap (a.tmod (16 : Nat) + (16 : Nat))) .i64 (16 : Nat) = some (.int .i64 (14 : Nat))) (h1 : evB2 .and .i64 b .i64 ((2 ^ 4 - 1 : Nat) : Int) = some (.int .i64 (4 : Nat))) :
    Calls Try.prog 3 #[.int .i64 a, .int .i64 b, .int .i64 n] w fun e w' => e = .returned (.bool true) ∧ Below w.heap.size w w' :=
  back_of a b n w hn 14 4 1 false (by decide) h0 h1 (by kernel_rfl)
theorem back_14_5 (a b n : Int) (w : World) (hn : In64 n) (h0 : evB2 .rem .i64 (IntKind.i64.wrap (a.tmod (16 : Nat) + (16 : Nat))) .i64 (16 : Nat) = some (.int .i64 (14 : Nat))) (h1 : evB2 .and .i64 b .i64 ((2 ^ 4 - 1 : Nat) : Int) = some (.int .i64 (5 : Nat))) :
    Calls Try.prog 3 #[.int .i64 a, .int .i64 b, .int .i64 n] w fun e w' => e = .returned (.bool true) ∧ Below w.heap.size w w' :=
  back_of a b n w hn 14 5 2 false (by decide) h0 h1 (by kernel_rfl)
theorem back_14_6 (a b n : Int) (w : World) (hn : In64 n) (h0 : evB2 .rem .i64 (IntKind.i64.wrap (a.tmod (16 : Nat) + (16 : Nat))) .i64 (16 : Nat) = some (.int .i64 (14 : Nat))) (h1 : evB2 .and .i64 b .i64 ((2 ^ 4 - 1 : Nat) : Int) = some (.int .i64 (6 : Nat))) :
    Calls Try.prog 3 #[.int .i64 a, .int .i64 b, .int .i64 n] w fun e w' => e = .returned (.bool true) ∧ Below w.heap.size w w' :=
  back_of a b n w hn 14 6 4 false (by decide) h0 h1 (by kernel_rfl)
theorem back_14_7 (a b n : Int) (w : World) (hn : In64 n) (h0 : evB2 .rem .i64 (IntKind.i64.wrap (a.tmod (16 : Nat) + (16 : Nat))) .i64 (16 : Nat) = some (.int .i64 (14 : Nat))) (h1 : evB2 .and .i64 b .i64 ((2 ^ 4 - 1 : Nat) : Int) = some (.int .i64 (7 : Nat))) :
    Calls Try.prog 3 #[.int .i64 a, .int .i64 b, .int .i64 n] w fun e w' => e = .returned (.bool true) ∧ Below w.heap.size w w' :=
  back_of a b n w hn 14 7 8 false (by decide) h0 h1 (by kernel_rfl)
theorem back_14_8 (a b n : Int) (w : World) (hn : In64 n) (h0 : evB2 .rem .i64 (IntKind.i64.wrap (a.tmod (16 : Nat) + (16 : Nat))) .i64 (16 : Nat) = some (.int .i64 (14 : Nat))) (h1 : evB2 .and .i64 b .i64 ((2 ^ 4 - 1 : Nat) : Int) = some (.int .i64 (8 : Nat))) :
    Calls Try.prog 3 #[.int .i64 a, .int .i64 b, .int .i64 n] w fun e w' => e = .returned (.bool true) ∧ Below w.heap.size w w' :=
  back_of a b n w hn 14 8 1 true (by decide) h0 h1 (by kernel_rfl)
theorem back_14_9 (a b n : Int) (w : World) (hn : In64 n) (h0 : evB2 .rem .i64 (IntKind.i64.wrap (a.tmod (16 : Nat) + (16 : Nat))) .i64 (16 : Nat) = some (.int .i64 (14 : Nat))) (h1 : evB2 .and .i64 b .i64 ((2 ^ 4 - 1 : Nat) : Int) = some (.int .i64 (9 : Nat))) :
    Calls Try.prog 3 #[.int .i64 a, .int .i64 b, .int .i64 n] w fun e w' => e = .returned (.bool true) ∧ Below w.heap.size w w' :=
  back_of a b n w hn 14 9 2 true (by decide) h0 h1 (by kernel_rfl)
theorem back_14_10 (a b n : Int) (w : World) (hn : In64 n) (h0 : evB2 .rem .i64 (IntKind.i64.wrap (a.tmod (16 : Nat) + (16 : Nat))) .i64 (16 : Nat) = some (.int .i64 (14 : Nat))) (h1 : evB2 .and .i64 b .i64 ((2 ^ 4 - 1 : Nat) : Int) = some (.int .i64 (10 : Nat))) :
    Calls Try.prog 3 #[.int .i64 a, .int .i64 b, .int .i64 n] w fun e w' => e = .returned (.bool true) ∧ Below w.heap.size w w' :=
  back_of a b n w hn 14 10 4 true (by decide) h0 h1 (by kernel_rfl)
theorem back_14_11 (a b n : Int) (w : World) (hn : In64 n) (h0 : evB2 .rem .i64 (IntKind.i64.wrap (a.tmod (16 : Nat) + (16 : Nat))) .i64 (16 : Nat) = some (.int .i64 (14 : Nat))) (h1 : evB2 .and .i64 b .i64 ((2 ^ 4 - 1 : Nat) : Int) = some (.int .i64 (11 : Nat))) :
    Calls Try.prog 3 #[.int .i64 a, .int .i64 b, .int .i64 n] w fun e w' => e = .returned (.bool true) ∧ Below w.heap.size w w' :=
  back_of a b n w hn 14 11 8 true (by decide) h0 h1 (by kernel_rfl)
theorem back_14_12 (a b n : Int) (w : World) (hn : In64 n) (h0 : evB2 .rem .i64 (IntKind.i64.wrap (a.tmod (16 : Nat) + (16 : Nat))) .i64 (16 : Nat) = some (.int .i64 (14 : Nat))) (h1 : evB2 .and .i64 b .i64 ((2 ^ 4 - 1 : Nat) : Int) = some (.int .i64 (12 : Nat))) :
    Calls Try.prog 3 #[.int .i64 a, .int .i64 b, .int .i64 n] w fun e w' => e = .returned (.bool true) ∧ Below w.heap.size w w' :=
  back_of a b n w hn 14 12 1 false (by decide) h0 h1 (by kernel_rfl)
theorem back_14_13 (a b n : Int) (w : World) (hn : In64 n) (h0 : evB2 .rem .i64 (IntKind.i64.wrap (a.tmod (16 : Nat) + (16 : Nat))) .i64 (16 : Nat) = some (.int .i64 (14 : Nat))) (h1 : evB2 .and .i64 b .i64 ((2 ^ 4 - 1 : Nat) : Int) = some (.int .i64 (13 : Nat))) :
    Calls Try.prog 3 #[.int .i64 a, .int .i64 b, .int .i64 n] w fun e w' => e = .returned (.bool true) ∧ Below w.heap.size w w' :=
  back_of a b n w hn 14 13 2 false (by decide) h0 h1 (by kernel_rfl)
theorem back_14_14 (a b n : Int) (w : World) (hn : In64 n) (h0 : evB2 .rem .i64 (IntKind.i64.wrap (a.tmod (16 : Nat) + (16 : Nat))) .i64 (16 : Nat) = some (.int .i64 (14 : Nat))) (h1 : evB2 .and .i64 b .i64 ((2 ^ 4 - 1 : Nat) : Int) = some (.int .i64 (14 : Nat))) :
    Calls Try.prog 3 #[.int .i64 a, .int .i64 b, .int .i64 n] w fun e w' => e = .returned (.bool true) ∧ Below w.heap.size w w' :=
  back_of a b n w hn 14 14 4 false (by decide) h0 h1 (by kernel_rfl)
theorem back_14_15 (a b n : Int) (w : World) (hn : In64 n) (h0 : evB2 .rem .i64 (IntKind.i64.wrap (a.tmod (16 : Nat) + (16 : Nat))) .i64 (16 : Nat) = some (.int .i64 (14 : Nat))) (h1 : evB2 .and .i64 b .i64 ((2 ^ 4 - 1 : Nat) : Int) = some (.int .i64 (15 : Nat))) :
    Calls Try.prog 3 #[.int .i64 a, .int .i64 b, .int .i64 n] w fun e w' => e = .returned (.bool true) ∧ Below w.heap.size w w' :=
  back_of a b n w hn 14 15 8 false (by decide) h0 h1 (by kernel_rfl)
theorem back_14 (a b n : Int) (w : World) (hn : In64 n) (q : Nat) (hq : q < 16) (h0 : evB2 .rem .i64 (IntKind.i64.wrap (a.tmod (16 : Nat) + (16 : Nat))) .i64 (16 : Nat) = some (.int .i64 (14 : Nat))) (h1 : evB2 .and .i64 b .i64 ((2 ^ 4 - 1 : Nat) : Int) = some (.int .i64 (q : Nat))) :
    Calls Try.prog 3 #[.int .i64 a, .int .i64 b, .int .i64 n] w fun e w' => e = .returned (.bool true) ∧ Below w.heap.size w w' := by
  have hc : q = 0 ∨ q = 1 ∨ q = 2 ∨ q = 3 ∨ q = 4 ∨ q = 5 ∨ q = 6 ∨ q = 7 ∨ q = 8 ∨ q = 9 ∨ q = 10 ∨ q = 11 ∨ q = 12 ∨ q = 13 ∨ q = 14 ∨ q = 15 := by omega
  clear hq
  rcases hc with rfl | rfl | rfl | rfl | rfl | rfl | rfl | rfl | rfl | rfl | rfl | rfl | rfl | rfl | rfl | rfl
  · exact back_14_0 a b n w hn h0 h1
  · exact back_14_1 a b n w hn h0 h1
  · exact back_14_2 a b n w hn h0 h1
  · exact back_14_3 a b n w hn h0 h1
  · exact back_14_4 a b n w hn h0 h1
  · exact back_14_5 a b n w hn h0 h1
  · exact back_14_6 a b n w hn h0 h1
  · exact back_14_7 a b n w hn h0 h1
  · exact back_14_8 a b n w hn h0 h1
  · exact back_14_9 a b n w hn h0 h1
  · exact back_14_10 a b n w hn h0 h1
  · exact back_14_11 a b n w hn h0 h1
  · exact back_14_12 a b n w hn h0 h1
  · exact back_14_13 a b n w hn h0 h1
  · exact back_14_14 a b n w hn h0 h1
  · exact back_14_15 a b n w hn h0 h1
theorem back_15_0 (a b n : Int) (w : World) (hn : In64 n) (h0 : evB2 .rem .i64 (IntKind.i64.wrap (a.tmod (16 : Nat) + (16 : Nat))) .i64 (16 : Nat) = some (.int .i64 (15 : Nat))) (h1 : evB2 .and .i64 b .i64 ((2 ^ 4 - 1 : Nat) : Int) = some (.int .i64 (0 : Nat))) :
    Calls Try.prog 3 #[.int .i64 a, .int .i64 b, .int .i64 n] w fun e w' => e = .returned (.bool true) ∧ Below w.heap.size w w' :=
  back_of a b n w hn 15 0 1 true (by decide) h0 h1 (by kernel_rfl)
theorem back_15_1 (a b n : Int) (w : World) (hn : In64 n) (h0 : evB2 .rem .i64 (IntKind.i64.wrap (a.tmod (16 : Nat) + (16 : Nat))) .i64 (16 : Nat) = some (.int .i64 (15 : Nat))) (h1 : evB2 .and .i64 b .i64 ((2 ^ 4 - 1 : Nat) : Int) = some (.int .i64 (1 : Nat))) :
    Calls Try.prog 3 #[.int .i64 a, .int .i64 b, .int .i64 n] w fun e w' => e = .returned (.bool true) ∧ Below w.heap.size w w' :=
  back_of a b n w hn 15 1 2 true (by decide) h0 h1 (by kernel_rfl)
theorem back_15_2 (a b n : Int) (w : World) (hn : In64 n) (h0 : evB2 .rem .i64 (IntKind.i64.wrap (a.tmod (16 : Nat) + (16 : Nat))) .i64 (16 : Nat) = some (.int .i64 (15 : Nat))) (h1 : evB2 .and .i64 b .i64 ((2 ^ 4 - 1 : Nat) : Int) = some (.int .i64 (2 : Nat))) :
    Calls Try.prog 3 #[.int .i64 a, .int .i64 b, .int .i64 n] w fun e w' => e = .returned (.bool true) ∧ Below w.heap.size w w' :=
  back_of a b n w hn 15 2 4 true (by decide) h0 h1 (by kernel_rfl)
theorem back_15_3 (a b n : Int) (w : World) (hn : In64 n) (h0 : evB2 .rem .i64 (IntKind.i64.wrap (a.tmod (16 : Nat) + (16 : Nat))) .i64 (16 : Nat) = some (.int .i64 (15 : Nat))) (h1 : evB2 .and .i64 b .i64 ((2 ^ 4 - 1 : Nat) : Int) = some (.int .i64 (3 : Nat))) :
    Calls Try.prog 3 #[.int .i64 a, .int .i64 b, .int .i64 n] w fun e w' => e = .returned (.bool true) ∧ Below w.heap.size w w' :=
  back_of a b n w hn 15 3 8 true (by decide) h0 h1 (by kernel_rfl)
theorem back_15_4 (a b n : Int) (w : World) (hn : In64 n) (h0 : evB2 .rem .i64 (IntKind.i64.wrap (a.tmod (16 : Nat) + (16 : Nat))) .i64 (16 : Nat) = some (.int .i64 (15 : Nat))) (h1 : evB2 .and .i64 b .i64 ((2 ^ 4 - 1 : Nat) : Int) = some (.int .i64 (4 : Nat))) :
    Calls Try.prog 3 #[.int .i64 a, .int .i64 b, .int .i64 n] w fun e w' => e = .returned (.bool true) ∧ Below w.heap.size w w' :=
  back_of a b n w hn 15 4 1 false (by decide) h0 h1 (by kernel_rfl)
theorem back_15_5 (a b n : Int) (w : World) (hn : In64 n) (h0 : evB2 .rem .i64 (IntKind.i64.wrap (a.tmod (16 : Nat) + (16 : Nat))) .i64 (16 : Nat) = some (.int .i64 (15 : Nat))) (h1 : evB2 .and .i64 b .i64 ((2 ^ 4 - 1 : Nat) : Int) = some (.int .i64 (5 : Nat))) :
    Calls Try.prog 3 #[.int .i64 a, .int .i64 b, .int .i64 n] w fun e w' => e = .returned (.bool true) ∧ Below w.heap.size w w' :=
  back_of a b n w hn 15 5 2 false (by decide) h0 h1 (by kernel_rfl)
theorem back_15_6 (a b n : Int) (w : World) (hn : In64 n) (h0 : evB2 .rem .i64 (IntKind.i64.wrap (a.tmod (16 : Nat) + (16 : Nat))) .i64 (16 : Nat) = some (.int .i64 (15 : Nat))) (h1 : evB2 .and .i64 b .i64 ((2 ^ 4 - 1 : Nat) : Int) = some (.int .i64 (6 : Nat))) :
    Calls Try.prog 3 #[.int .i64 a, .int .i64 b, .int .i64 n] w fun e w' => e = .returned (.bool true) ∧ Below w.heap.size w w' :=
  back_of a b n w hn 15 6 4 false (by decide) h0 h1 (by kernel_rfl)
theorem back_15_7 (a b n : Int) (w : World) (hn : In64 n) (h0 : evB2 .rem .i64 (IntKind.i64.wrap (a.tmod (16 : Nat) + (16 : Nat))) .i64 (16 : Nat) = some (.int .i64 (15 : Nat))) (h1 : evB2 .and .i64 b .i64 ((2 ^ 4 - 1 : Nat) : Int) = some (.int .i64 (7 : Nat))) :
    Calls Try.prog 3 #[.int .i64 a, .int .i64 b, .int .i64 n] w fun e w' => e = .returned (.bool true) ∧ Below w.heap.size w w' :=
  back_of a b n w hn 15 7 8 false (by decide) h0 h1 (by kernel_rfl)
theorem back_15_8 (a b n : Int) (w : World) (hn : In64 n) (h0 : evB2 .rem .i64 (IntKind.i64.wrap (a.tmod (16 : Nat) + (16 : Nat))) .i64 (16 : Nat) = some (.int .i64 (15 : Nat))) (h1 : evB2 .and .i64 b .i64 ((2 ^ 4 - 1 : Nat) : Int) = some (.int .i64 (8 : Nat))) :
    Calls Try.prog 3 #[.int .i64 a, .int .i64 b, .int .i64 n] w fun e w' => e = .returned (.bool true) ∧ Below w.heap.size w w' :=
  back_of a b n w hn 15 8 1 true (by decide) h0 h1 (by kernel_rfl)
theorem back_15_9 (a b n : Int) (w : World) (hn : In64 n) (h0 : evB2 .rem .i64 (IntKind.i64.wrap (a.tmod (16 : Nat) + (16 : Nat))) .i64 (16 : Nat) = some (.int .i64 (15 : Nat))) (h1 : evB2 .and .i64 b .i64 ((2 ^ 4 - 1 : Nat) : Int) = some (.int .i64 (9 : Nat))) :
    Calls Try.prog 3 #[.int .i64 a, .int .i64 b, .int .i64 n] w fun e w' => e = .returned (.bool true) ∧ Below w.heap.size w w' :=
  back_of a b n w hn 15 9 2 true (by decide) h0 h1 (by kernel_rfl)
theorem back_15_10 (a b n : Int) (w : World) (hn : In64 n) (h0 : evB2 .rem .i64 (IntKind.i64.wrap (a.tmod (16 : Nat) + (16 : Nat))) .i64 (16 : Nat) = some (.int .i64 (15 : Nat))) (h1 : evB2 .and .i64 b .i64 ((2 ^ 4 - 1 : Nat) : Int) = some (.int .i64 (10 : Nat))) :
    Calls Try.prog 3 #[.int .i64 a, .int .i64 b, .int .i64 n] w fun e w' => e = .returned (.bool true) ∧ Below w.heap.size w w' :=
  back_of a b n w hn 15 10 4 true (by decide) h0 h1 (by kernel_rfl)
theorem back_15_11 (a b n : Int) (w : World) (hn : In64 n) (h0 : evB2 .rem .i64 (IntKind.i64.wrap (a.tmod (16 : Nat) + (16 : Nat))) .i64 (16 : Nat) = some (.int .i64 (15 : Nat))) (h1 : evB2 .and .i64 b .i64 ((2 ^ 4 - 1 : Nat) : Int) = some (.int .i64 (11 : Nat))) :
    Calls Try.prog 3 #[.int .i64 a, .int .i64 b, .int .i64 n] w fun e w' => e = .returned (.bool true) ∧ Below w.heap.size w w' :=
  back_of a b n w hn 15 11 8 true (by decide) h0 h1 (by kernel_rfl)
theorem back_15_12 (a b n : Int) (w : World) (hn : In64 n) (h0 : evB2 .rem .i64 (IntKind.i64.wrap (a.tmod (16 : Nat) + (16 : Nat))) .i64 (16 : Nat) = some (.int .i64 (15 : Nat))) (h1 : evB2 .and .i64 b .i64 ((2 ^ 4 - 1 : Nat) : Int) = some (.int .i64 (12 : Nat))) :
    Calls Try.prog 3 #[.int .i64 a, .int .i64 b, .int .i64 n] w fun e w' => e = .returned (.bool true) ∧ Below w.heap.size w w' :=
  back_of a b n w hn 15 12 1 false (by decide) h0 h1 (by kernel_rfl)
theorem back_15_13 (a b n : Int) (w : World) (hn : In64 n) (h0 : evB2 .rem .i64 (IntKind.i64.wrap (a.tmod (16 : Nat) + (16 : Nat))) .i64 (16 : Nat) = some (.int .i64 (15 : Nat))) (h1 : evB2 .and .i64 b .i64 ((2 ^ 4 - 1 : Nat) : Int) = some (.int .i64 (13 : Nat))) :
    Calls Try.prog 3 #[.int .i64 a, .int .i64 b, .int .i64 n] w fun e w' => e = .returned (.bool true) ∧ Below w.heap.size w w' :=
  back_of a b n w hn 15 13 2 false (by decide) h0 h1 (by kernel_rfl)
theorem back_15_14 (a b n : Int) (w : World) (hn : In64 n) (h0 : evB2 .rem .i64 (IntKind.i64.wrap (a.tmod (16 : Nat) + (16 : Nat))) .i64 (16 : Nat) = some (.int .i64 (15 : Nat))) (h1 : evB2 .and .i64 b .i64 ((2 ^ 4 - 1 : Nat) : Int) = some (.int .i64 (14 : Nat))) :
    Calls Try.prog 3 #[.int .i64 a, .int .i64 b, .int .i64 n] w fun e w' => e = .returned (.bool true) ∧ Below w.heap.size w w' :=
  back_of a b n w hn 15 14 4 false (by decide) h0 h1 (by kernel_rfl)
theorem back_15_15 (a b n : Int) (w : World) (hn : In64 n) (h0 : evB2 .rem .i64 (IntKind.i64.wrap (a.tmod (16 : Nat) + (16 : Nat))) .i64 (16 : Nat) = some (.int .i64 (15 : Nat))) (h1 : evB2 .and .i64 b .i64 ((2 ^ 4 - 1 : Nat) : Int) = some (.int .i64 (15 : Nat))) :
    Calls Try.prog 3 #[.int .i64 a, .int .i64 b, .int .i64 n] w fun e w' => e = .returned (.bool true) ∧ Below w.heap.size w w' :=
  back_of a b n w hn 15 15 8 false (by decide) h0 h1 (by kernel_rfl)
theorem back_15 (a b n : Int) (w : World) (hn : In64 n) (q : Nat) (hq : q < 16) (h0 : evB2 .rem .i64 (IntKind.i64.wrap (a.tmod (16 : Nat) + (16 : Nat))) .i64 (16 : Nat) = some (.int .i64 (15 : Nat))) (h1 : evB2 .and .i64 b .i64 ((2 ^ 4 - 1 : Nat) : Int) = some (.int .i64 (q : Nat))) :
    Calls Try.prog 3 #[.int .i64 a, .int .i64 b, .int .i64 n] w fun e w' => e = .returned (.bool true) ∧ Below w.heap.size w w' := by
  have hc : q = 0 ∨ q = 1 ∨ q = 2 ∨ q = 3 ∨ q = 4 ∨ q = 5 ∨ q = 6 ∨ q = 7 ∨ q = 8 ∨ q = 9 ∨ q = 10 ∨ q = 11 ∨ q = 12 ∨ q = 13 ∨ q = 14 ∨ q = 15 := by omega
  clear hq
  rcases hc with rfl | rfl | rfl | rfl | rfl | rfl | rfl | rfl | rfl | rfl | rfl | rfl | rfl | rfl | rfl | rfl
  · exact back_15_0 a b n w hn h0 h1
  · exact back_15_1 a b n w hn h0 h1
  · exact back_15_2 a b n w hn h0 h1
  · exact back_15_3 a b n w hn h0 h1
  · exact back_15_4 a b n w hn h0 h1
  · exact back_15_5 a b n w hn h0 h1
  · exact back_15_6 a b n w hn h0 h1
  · exact back_15_7 a b n w hn h0 h1
  · exact back_15_8 a b n w hn h0 h1
  · exact back_15_9 a b n w hn h0 h1
  · exact back_15_10 a b n w hn h0 h1
  · exact back_15_11 a b n w hn h0 h1
  · exact back_15_12 a b n w hn h0 h1
  · exact back_15_13 a b n w hn h0 h1
  · exact back_15_14 a b n w hn h0 h1
  · exact back_15_15 a b n w hn h0 h1
end Go.Proofs.Yteoemkkfplbiaaa
