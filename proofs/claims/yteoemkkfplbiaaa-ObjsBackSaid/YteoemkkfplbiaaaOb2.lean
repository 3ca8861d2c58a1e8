/- ObjsBack: runs, part 2. No condition. -/
import Derived.Test.YteoemkkfplbiaaaObK
namespace Go.Proofs.Yteoemkkfplbiaaa
open Go.RowKit
set_option linter.unusedVariables false
theorem back_4_0 (a b n : Int) (w : World) (hn : In64 n) (h0 : evB2 .rem .i64 (IntKind.i64.wrap (a.tmod (16 : Nat) + (16 : Nat))) .i64 (16 : Nat) = some (.int .i64 (4 : Nat))) (h1 : evB2 .and .i64 b .i64 ((2 ^ 4 - 1 : Nat) : Int) = some (.int .i64 (0 : Nat))) :
    Calls Try.prog 3 #[.int .i64 a, .int .i64 b, .int .i64 n] w fun e w' => e = .returned (.bool true) ∧ Below w.heap.size w w' :=
  back_of a b n w hn 4 0 1 true (by decide) h0 h1 (by kernel_rfl)
theorem back_4_1 (a b n : Int) (w : World) (hn : In64 n) (h0 : evB2 .rem .i64 (IntKind.i64.wrap (a.tmod (16 : Nat) + (16 : Nat))) .i64 (16 : Nat) = some (.int .i64 (4 : Nat))) (h1 : evB2 .and .i64 b .i64 ((2 ^ 4 - 1 : Nat) : Int) = some (.int .i64 (1 : Nat))) :
    Calls Try.prog 3 #[.int .i64 a, .int .i64 b, .int .i64 n] w fun e w' => e = .returned (.bool true) ∧ Below w.heap.size w w' :=
  back_of a b n w hn 4 1 2 true (by decide) h0 h1 (by kernel_rfl)
theorem back_4_2 (a b n : Int) (w : World) (hn : In64 n) (h0 : evB2 .rem .i64 (IntKind.i64.wrap (a.tmod (16 : Nat) + (16 : Nat))) .i64 (16 : Nat) = some (.int .i64 (4 : Nat))) (h1 : evB2 .and .i64 b .i64 ((2 ^ 4 - 1 : Nat) : Int) = some (.int .i64 (2 : Nat))) :
    Calls Try.prog 3 #[.int .i64 a, .int .i64 b, .int .i64 n] w fun e w' => e = .returned (.bool true) ∧ Below w.heap.size w w' :=
  back_of a b n w hn 4 2 4 true (by decide) h0 h1 (by kernel_rfl)
theorem back_4_3 (a b n : Int) (w : World) (hn : In64 n) (h0 : evB2 .rem .i64 (IntKind.i64.wrap (a.tmod (16 : Nat) + (16 : Nat))) .i64 (16 : Nat) = some (.int .i64 (4 : Nat))) (h1 : evB2 .and .i64 b .i64 ((2 ^ 4 - 1 : Nat) : Int) = some (.int .i64 (3 : Nat))) :
    Calls Try.prog 3 #[.int .i64 a, .int .i64 b, .int .i64 n] w fun e w' => e = .returned (.bool true) ∧ Below w.heap.size w w' :=
  back_of a b n w hn 4 3 8 true (by decide) h0 h1 (by kernel_rfl)
theorem back_4_4 (a b n : Int) (w : World) (hn : In64 n) (h0 : evB2 .rem .i64 (IntKind.i64.wrap (a.tmod (16 : Nat) + (16 : Nat))) .i64 (16 : Nat) = some (.int .i64 (4 : Nat))) (h1 : evB2 .and .i64 b .i64 ((2 ^ 4 - 1 : Nat) : Int) = some (.int .i64 (4 : Nat))) :
    Calls Try.prog 3 #[.int .i64 a, .int .i64 b, .int .i64 n] w fun e w' => e = .returned (.bool true) ∧ Below w.heap.size w w' :=
  back_of a b n w hn 4 4 1 false (by decide) h0 h1 (by kernel_rfl)
theorem back_4_5 (a b n : Int) (w : World) (hn : In64 n) (h0 : evB2 .rem .i64 (IntKind.i64.wrap (a.tmod (16 : Nat) + (16 : Nat))) .i64 (16 : Nat) = some (.int .i64 (4 : Nat))) (h1 : evB2 .and .i64 b .i64 ((2 ^ 4 - 1 : Nat) : Int) = some (.int .i64 (5 : Nat))) :
    Calls Try.prog 3 #[.int .i64 a, .int .i64 b, .int .i64 n] w fun e w' => e = .returned (.bool true) ∧ Below w.heap.size w w' :=
  back_of a b n w hn 4 5 2 false (by decide) h0 h1 (by kernel_rfl)
theorem back_4_6 (a b n : Int) (w : World) (hn : In64 n) (h0 : evB2 .rem .i64 (IntKind.i64.wrap (a.tmod (16 : Nat) + (16 : Nat))) .i64 (16 : Nat) = some (.int .i64 (4 : Nat))) (h1 : evB2 .and .i64 b .i64 ((2 ^ 4 - 1 : Nat) : Int) = some (.int .i64 (6 : Nat))) :
    Calls Try.prog 3 #[.int .i64 a, .int .i64 b, .int .i64 n] w fun e w' => e = .returned (.bool true) ∧ Below w.heap.size w w' :=
  back_of a b n w hn 4 6 4 false (by decide) h0 h1 (by kernel_rfl)
theorem back_4_7 (a b n : Int) (w : World) (hn : In64 n) (h0 : evB2 .rem .i64 (IntKind.i64.wrap (a.tmod (16 : Nat) + (16 : Nat))) .i64 (16 : Nat) = some (.int .i64 (4 : Nat))) (h1 : evB2 .and .i64 b .i64 ((2 ^ 4 - 1 : Nat) : Int) = some (.int .i64 (7 : Nat))) :
    Calls Try.prog 3 #[.int .i64 a, .int .i64 b, .int .i64 n] w fun e w' => e = .returned (.bool true) ∧ Below w.heap.size w w' :=
  back_of a b n w hn 4 7 8 false (by decide) h0 h1 (by kernel_rfl)
theorem back_4_8 (a b n : Int) (w : World) (hn : In64 n) (h0 : evB2 .rem .i64 (IntKind.i64.wrap (a.tmod (16 : Nat) + (16 : Nat))) .i64 (16 : Nat) = some (.int .i64 (4 : Nat))) (h1 : evB2 .and .i64 b .i64 ((2 ^ 4 - 1 : Nat) : Int) = some (.int .i64 (8 : Nat))) :
    Calls Try.prog 3 #[.int .i64 a, .int .i64 b, .int .i64 n] w fun e w' => e = .returned (.bool true) ∧ Below w.heap.size w w' :=
  back_of a b n w hn 4 8 1 true (by decide) h0 h1 (by kernel_rfl)
theorem back_4_9 (a b n : Int) (w : World) (hn : In64 n) (h0 : evB2 .rem .i64 (IntKind.i64.wrap (a.tmod (16 : Nat) + (16 : Nat))) .i64 (16 : Nat) = some (.int .i64 (4 : Nat))) (h1 : evB2 .and .i64 b .i64 ((2 ^ 4 - 1 : Nat) : Int) = some (.int .i64 (9 : Nat))) :
    Calls Try.prog 3 #[.int .i64 a, .int .i64 b, .int .i64 n] w fun e w' => e = .returned (.bool true) ∧ Below w.heap.size w w' :=
  back_of a b n w hn 4 9 2 true (by decide) h0 h1 (by kernel_rfl)
theorem back_4_10 (a b n : Int) (w : World) (hn : In64 n) (h0 : evB2 .rem .i64 (IntKind.i64.wrap (a.tmod (16 : Nat) + (16 : Nat))) .i64 (16 : Nat) = some (.int .i64 (4 : Nat))) (h1 : evB2 .and .i64 b .i64 ((2 ^ 4 - 1 : Nat) : Int) = some (.int .i64 (10 : Nat))) :
    Calls Try.prog 3 #[.int .i64 a, .int .i64 b, .int .i64 n] w fun e w' => e = .returned (.bool true) ∧ Below w.heap.size w w' :=
  back_of a b n w hn 4 10 4 true (by decide) h0 h1 (by kernel_rfl)
theorem back_4_11 (a b n : Int) (w : World) (hn : In64 n) (h0 : evB2 .rem .i64 (IntKind.i64.wrap (a.tmod (16 : Nat) + (16 : Nat))) .i64 (16 : Nat) = some (.int .i64 (4 : Nat))) (h1 : evB2 .and .i64 b .i64 ((2 ^ 4 - 1 : Nat) : Int) = some (.int .i64 (11 : Nat))) :
    Calls Try.prog 3 #[.int .i64 a, .int .i64 b, .int .i64 n] w fun e w' => e = .returned (.bool true) ∧ Below w.heap.size w w' :=
  back_of a b n w hn 4 11 8 true (by decide) h0 h1 (by kernel_rfl)
theorem back_4_12 (a b n : Int) (w : World) (hn : In64 n) (h0 : evB2 .rem .i64 (IntKind.i64.wrap (a.tmod (16 : Nat) + (16 : Nat))) .i64 (16 : Nat) = some (.int .i64 (4 : Nat))) (h1 : evB2 .and .i64 b .i64 ((2 ^ 4 - 1 : Nat) : Int) = some (.int .i64 (12 : Nat))) :
    Calls Try.prog 3 #[.int .i64 a, .int .i64 b, .int .i64 n] w fun e w' => e = .returned (.bool true) ∧ Below w.heap.size w w' :=
  back_of a b n w hn 4 12 1 false (by decide) h0 h1 (by kernel_rfl)
theorem back_4_13 (a b n : Int) (w : World) (hn : In64 n) (h0 : evB2 .rem .i64 (IntKind.i64.wrap (a.tmod (16 : Nat) + (16 : Nat))) .i64 (16 : Nat) = some (.int .i64 (4 : Nat))) (h1 : evB2 .and .i64 b .i64 ((2 ^ 4 - 1 : Nat) : Int) = some (.int .i64 (13 : Nat))) :
    Calls Try.prog 3 #[.int .i64 a, .int .i64 b, .int .i64 n] w fun e w' => e = .returned (.bool true) ∧ Below w.heap.size w w' :=
  back_of a b n w hn 4 13 2 false (by decide) h0 h1 (by kernel_rfl)
theorem back_4_14 (a b n : Int) (w : World) (hn : In64 n) (h0 : evB2 .rem .i64 (IntKind.i64.wrap (a.tmod (16 : Nat) + (16 : Nat))) .i64 (16 : Nat) = some (.int .i64 (4 : Nat))) (h1 : evB2 .and .i64 b .i64 ((2 ^ 4 - 1 : Nat) : Int) = some (.int .i64 (14 : Nat))) :
    Calls Try.prog 3 #[.int .i64 a, .int .i64 b, .int .i64 n] w fun e w' => e = .returned (.bool true) ∧ Below w.heap.size w w' :=
  back_of a b n w hn 4 14 4 false (by decide) h0 h1 (by kernel_rfl)
theorem back_4_15 (a b n : Int) (w : World) (hn : In64 n) (h0 : evB2 .rem .i64 (IntKind.i64.wrap (a.tmod (16 : Nat) + (16 : Nat))) .i64 (16 : Nat) = some (.int .i64 (4 : Nat))) (h1 : evB2 .and .i64 b .i64 ((2 ^ 4 - 1 : Nat) : Int) = some (.int .i64 (15 : Nat))) :
    Calls Try.prog 3 #[.int .i64 a, .int .i64 b, .int .i64 n] w fun e w' => e = .returned (.bool true) ∧ Below w.heap.size w w' :=
  back_of a b n w hn 4 15 8 false (by decide) h0 h1 (by kernel_rfl)
theorem back_4 (a b n : Int) (w : World) (hn : In64 n) (q : Nat) (hq : q < 16) (h0 : evB2 .rem .i64 (IntKind.i64.wrap (a.tmod (16 : Nat) + (16 : Nat))) .i64 (16 : Nat) = some (.int .i64 (4 : Nat))) (h1 : evB2 .and .i64 b .i64 ((2 ^ 4 - 1 : Nat) : Int) = some (.int .i64 (q : Nat))) :
    Calls Try.prog 3 #[.int .i64 a, .int .i64 b, .int .i64 n] w fun e w' => e = .returned (.bool true) ∧ Below w.heap.size w w' := by
  have hc : q = 0 ∨ q = 1 ∨ q = 2 ∨ q = 3 ∨ q = 4 ∨ q = 5 ∨ q = 6 ∨ q = 7 ∨ q = 8 ∨ q = 9 ∨ q = 10 ∨ q = 11 ∨ q = 12 ∨ q = 13 ∨ q = 14 ∨ q = 15 := by omega
  clear hq
  rcases hc with rfl | rfl | rfl | rfl | rfl | rfl | rfl | rfl | rfl | rfl | rfl | rfl | rfl | rfl | rfl | rfl
  · exact back_4_0 a b n w hn h0 h1
  · exact back_4_1 a b n w hn h0 h1
  · exact back_4_2 a b n w hn h0 h1
  · exact back_4_3 a b n w hn h0 h1
  · exact back_4_4 a b n w hn h0 h1
  · exact back_4_5 a b n w hn h0 h1
  · exact back_4_6 a b n w hn h0 h1
  · exact back_4_7 a b n w hn h0 h1
  · exact back_4_8 a b n w hn h0 h1
  · exact back_4_9 a b n w hn h0 h1
  · exact back_4_10 a b n w hn h0 h1
  · exact back_4_11 a b n w hn h0 h1
  · exact back_4_12 a b n w hn h0 h1
  · exact back_4_13 a b n w hn h0 h1
  · exact back_4_14 a b n w hn h0 h1
  · exact back_4_15 a b n w hn h0 h1
theorem back_5_0 (a b n : Int) (w : World) (hn : In64 n) (h0 : evB2 .rem .i64 (IntKind.i64.wrap (a.tmod (16 : Nat) + (16 : Nat))) .i64 (16 : Nat) = some (.int .i64 (5 : Nat))) (h1 : evB2 .and .i64 b .i64 ((2 ^ 4 - 1 : Nat) : Int) = some (.int .i64 (0 : Nat))) :
    Calls Try.prog 3 #[.int .i64 a, .int .i64 b, .int .i64 n] w fun e w' => e = .returned (.bool true) ∧ Below w.heap.size w w' :=
  back_of a b n w hn 5 0 1 true (by decide) h0 h1 (by kernel_rfl)
theorem back_5_1 (a b n : Int) (w : World) (hn : In64 n) (h0 : evB2 .rem .i64 (IntKind.i64.wrap (a.tmod (16 : Nat) + (16 : Nat))) .i64 (16 : Nat) = some (.int .i64 (5 : Nat))) (h1 : evB2 .and .i64 b .i64 ((2 ^ 4 - 1 : Nat) : Int) = some (.int .i64 (1 : Nat))) :
    Calls Try.prog 3 #[.int .i64 a, .int .i64 b, .int .i64 n] w fun e w' => e = .returned (.bool true) ∧ Below w.heap.size w w' :=
  back_of a b n w hn 5 1 2 true (by decide) h0 h1 (by kernel_rfl)
theorem back_5_2 (a b n : Int) (w : World) (hn : In64 n) (h0 : evB2 .rem .i64 (IntKind.i64.wrap (a.tmod (16 : Nat) + (16 : Nat))) .i64 (16 : Nat) = some (.int .i64 (5 : Nat))) (h1 : evB2 .and .i64 b .i64 ((2 ^ 4 - 1 : Nat) : Int) = some (.int .i64 (2 : Nat))) :
    Calls Try.prog 3 #[.int .i64 a, .int .i64 b, .int .i64 n] w fun e w' => e = .returned (.bool true) ∧ Below w.heap.size w w' :=
  back_of a b n w hn 5 2 4 true (by decide) h0 h1 (by kernel_rfl)
theorem back_5_3 (a b n : Int) (w : World) (hn : In64 n) (h0 : evB2 .rem .i64 (IntKind.i64.wrap (a.tmod (16 : Nat) + (16 : Nat))) .i64 (16 : Nat) = some (.int .i64 (5 : Nat))) (h1 : evB2 .and .i64 b .i64 ((2 ^ 4 - 1 : Nat) : Int) = some (.int .i64 (3 : Nat))) :
    Calls Try.prog 3 #[.int .i64 a, .int .i64 b, .int .i64 n] w fun e w' => e = .returned (.bool true) ∧ Below w.heap.size w w' :=
  back_of a b n w hn 5 3 8 true (by decide) h0 h1 (by kernel_rfl)
theorem back_5_4 (a b n : Int) (w : World) (hn : In64 n) (h0 : evB2 .rem .i64 (IntKind.i64.wrap (a.tmod (16 : Nat) + (16 : Nat))) .i64 (16 : Nat) = some (.int .i64 (5 : Nat))) (h1 : evB2 .and .i64 b .i64 ((2 ^ 4 - 1 : Nat) : Int) = some (.int .i64 (4 : Nat))) :
    Calls Try.prog 3 #[.int .i64 a, .int .i64 b, .int .i64 n] w fun e w' => e = .returned (.bool true) ∧ Below w.heap.size w w' :=
  back_of a b n w hn 5 4 1 false (by decide) h0 h1 (by kernel_rfl)
theorem back_5_5 (a b n : Int) (w : World) (hn : In64 n) (h0 : evB2 .rem .i64 (IntKind.i64.wrap (a.tmod (16 : Nat) + (16 : Nat))) .i64 (16 : Nat) = some (.int .i64 (5 : Nat))) (h1 : evB2 .and .i64 b .i64 ((2 ^ 4 - 1 : Nat) : Int) = some (.int .i64 (5 : Nat))) :
    Calls Try.prog 3 #[.int .i64 a, .int .i64 b, .int .i64 n] w fun e w' => e = .returned (.bool true) ∧ Below w.heap.size w w' :=
  back_of a b n w hn 5 5 2 false (by decide) h0 h1 (by kernel_rfl)
theorem back_5_6 (a b n : Int) (w : World) (hn : In64 n) (h0 : evB2 .rem .i64 (IntKind.i64.wrap (a.tmod (16 : Nat) + (16 : Nat))) .i64 (16 : Nat) = some (.int .i64 (5 : Nat))) (h1 : evB2 .and .i64 b .i64 ((2 ^ 4 - 1 : Nat) : Int) = some (.int .i64 (6 : Nat))) :
    Calls Try.prog 3 #[.int .i64 a, .int .i64 b, .int .i64 n] w fun e w' => e = .returned (.bool true) ∧ Below w.heap.size w w' :=
  back_of a b n w hn 5 6 4 false (by decide) h0 h1 (by kernel_rfl)
theorem back_5_7 (a b n : Int) (w : World) (hn : In64 n) (h0 : evB2 .rem .i64 (IntKind.i64.wrap (a.tmod (16 : Nat) + (16 : Nat))) .i64 (16 : Nat) = some (.int .i64 (5 : Nat))) (h1 : evB2 .and .i64 b .i64 ((2 ^ 4 - 1 : Nat) : Int) = some (.int .i64 (7 : Nat))) :
    Calls Try.prog 3 #[.int .i64 a, .int .i64 b, .int .i64 n] w fun e w' => e = .returned (.bool true) ∧ Below w.heap.size w w' :=
  back_of a b n w hn 5 7 8 false (by decide) h0 h1 (by kernel_rfl)
theorem back_5_8 (a b n : Int) (w : World) (hn : In64 n) (h0 : evB2 .rem .i64 (IntKind.i64.wrap (a.tmod (16 : Nat) + (16 : Nat))) .i64 (16 : Nat) = some (.int .i64 (5 : Nat))) (h1 : evB2 .and .i64 b .i64 ((2 ^ 4 - 1 : Nat) : Int) = some (.int .i64 (8 : Nat))) :
    Calls Try.prog 3 #[.int .i64 a, .int .i64 b, .int .i64 n] w fun e w' => e = .returned (.bool true) ∧ Below w.heap.size w w' :=
  back_of a b n w hn 5 8 1 true (by decide) h0 h1 (by kernel_rfl)
theorem back_5_9 (a b n : Int) (w : World) (hn : In64 n) (h0 : evB2 .rem .i64 (IntKind.i64.wrap (a.tmod (16 : Nat) + (16 : Nat))) .i64 (16 : Nat) = some (.int .i64 (5 : Nat))) (h1 : evB2 .and .i64 b .i64 ((2 ^ 4 - 1 : Nat) : Int) = some (.int .i64 (9 : Nat))) :
    Calls Try.prog 3 #[.int .i64 a, .int .i64 b, .int .i64 n] w fun e w' => e = .returned (.bool true) ∧ Below w.heap.size w w' :=
  back_of a b n w hn 5 9 2 true (by decide) h0 h1 (by kernel_rfl)
theorem back_5_10 (a b n : Int) (w : World) (hn : In64 n) (h0 : evB2 .rem .i64 (IntKind.i64.wrap (a.tmod (16 : Nat) + (16 : Nat))) .i64 (16 : Nat) = some (.int .i64 (5 : Nat))) (h1 : evB2 .and .i64 b .i64 ((2 ^ 4 - 1 : Nat) : Int) = some (.int .i64 (10 : Nat))) :
    Calls Try.prog 3 #[.int .i64 a, .int .i64 b, .int .i64 n] w fun e w' => e = .returned (.bool true) ∧ Below w.heap.size w w' :=
  back_of a b n w hn 5 10 4 true (by decide) h0 h1 (by kernel_rfl)
theorem back_5_11 (a b n : Int) (w : World) (hn : In64 n) (h0 : evB2 .rem .i64 (IntKind.i64.wrap (a.tmod (16 : Nat) + (16 : Nat))) .i64 (16 : Nat) = some (.int .i64 (5 : Nat))) (h1 : evB2 .and .i64 b .i64 ((2 ^ 4 - 1 : Nat) : Int) = some (.int .i64 (11 : Nat))) :
    Calls Try.prog 3 #[.int .i64 a, .int .i64 b, .int .i64 n] w fun e w' => e = .returned (.bool true) ∧ Below w.heap.size w w' :=
  back_of a b n w hn 5 11 8 true (by decide) h0 h1 (by kernel_rfl)
theorem back_5_12 (a b n : Int) (w : World) (hn : In64 n) (h0 : evB2 .rem .i64 (IntKind.i64.wrap (a.tmod (16 : Nat) + (16 : Nat))) .i64 (16 : Nat) = some (.int .i64 (5 : Nat))) (h1 : evB2 .and .i64 b .i64 ((2 ^ 4 - 1 : Nat) : Int) = some (.int .i64 (12 : Nat))) :
    Calls Try.prog 3 #[.int .i64 a, .int .i64 b, .int .i64 n] w fun e w' => e = .returned (.bool true) ∧ Below w.heap.size w w' :=
  back_of a b n w hn 5 12 1 false (by decide) h0 h1 (by kernel_rfl)
theorem back_5_13 (a b n : Int) (w : World) (hn : In64 n) (h0 : evB2 .rem .i64 (IntKind.i64.wrap (a.tmod (16 : Nat) + (16 : Nat))) .i64 (16 : Nat) = some (.int .i64 (5 : Nat))) (h1 : evB2 .and .i64 b .i64 ((2 ^ 4 - 1 : Nat) : Int) = some (.int .i64 (13 : Nat))) :
    Calls Try.prog 3 #[.int .i64 a, .int .i64 b, .int .i64 n] w fun e w' => e = .returned (.bool true) ∧ Below w.heap.size w w' :=
  back_of a b n w hn 5 13 2 false (by decide) h0 h1 (by kernel_rfl)
theorem back_5_14 (a b n : Int) (w : World) (hn : In64 n) (h0 : evB2 .rem .i64 (IntKind.i64.wrap (a.tmod (16 : Nat) + (16 : Nat))) .i64 (16 : Nat) = some (.int .i64 (5 : Nat))) (h1 : evB2 .and .i64 b .i64 ((2 ^ 4 - 1 : Nat) : Int) = some (.int .i64 (14 : Nat))) :
    Calls Try.prog 3 #[.int .i64 a, .int .i64 b, .int .i64 n] w fun e w' => e = .returned (.bool true) ∧ Below w.heap.size w w' :=
  back_of a b n w hn 5 14 4 false (by decide) h0 h1 (by kernel_rfl)
theorem back_5_15 (a b n : Int) (w : World) (hn : In64 n) (h0 : evB2 .rem .i64 (IntKind.i64.wrap (a.tmod (16 : Nat) + (16 : Nat))) .i64 (16 : Nat) = some (.int .i64 (5 : Nat))) (h1 : evB2 .and .i64 b .i64 ((2 ^ 4 - 1 : Nat) : Int) = some (.int .i64 (15 : Nat))) :
    Calls Try.prog 3 #[.int .i64 a, .int .i64 b, .int .i64 n] w fun e w' => e = .returned (.bool true) ∧ Below w.heap.size w w' :=
  back_of a b n w hn 5 15 8 false (by decide) h0 h1 (by kernel_rfl)
theorem back_5 (a b n : Int) (w : World) (hn : In64 n) (q : Nat) (hq : q < 16) (h0 : evB2 .rem .i64 (IntKind.i64.wrap (a.tmod (16 : Nat) + (16 : Nat))) .i64 (16 : Nat) = some (.int .i64 (5 : Nat))) (h1 : evB2 .and .i64 b .i64 ((2 ^ 4 - 1 : Nat) : Int) = some (.int .i64 (q : Nat))) :
    Calls Try.prog 3 #[.int .i64 a, .int .i64 b, .int .i64 n] w fun e w' => e = .returned (.bool true) ∧ Below w.heap.size w w' := by
  have hc : q = 0 ∨ q = 1 ∨ q = 2 ∨ q = 3 ∨ q = 4 ∨ q = 5 ∨ q = 6 ∨ q = 7 ∨ q = 8 ∨ q = 9 ∨ q = 10 ∨ q = 11 ∨ q = 12 ∨ q = 13 ∨ q = 14 ∨ q = 15 := by omega
  clear hq
  rcases hc with rfl | rfl | rfl | rfl | rfl | rfl | rfl | rfl | rfl | rfl | rfl | rfl | rfl | rfl | rfl | rfl
  · exact back_5_0 a b n w hn h0 h1
  · exact back_5_1 a b n w hn h0 h1
  · exact back_5_2 a b n w hn h0 h1
  · exact back_5_3 a b n w hn h0 h1
  · exact back_5_4 a b n w hn h0 h1
  · exact back_5_5 a b n w hn h0 h1
  · exact back_5_6 a b n w hn h0 h1
  · exact back_5_7 a b n w hn h0 h1
  · exact back_5_8 a b n w hn h0 h1
  · exact back_5_9 a b n w hn h0 h1
  · exact back_5_10 a b n w hn h0 h1
  · exact back_5_11 a b n w hn h0 h1
  · exact back_5_12 a b n w hn h0 h1
  · exact back_5_13 a b n w hn h0 h1
  · exact back_5_14 a b n w hn h0 h1
  · exact back_5_15 a b n w hn h0 h1
end Go.Proofs.Yteoemkkfplbiaaa
