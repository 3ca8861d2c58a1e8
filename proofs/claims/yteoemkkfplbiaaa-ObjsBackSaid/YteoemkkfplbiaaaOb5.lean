/- ObjsBack: runs, part 5. No condition. -/
import Derived.Test.YteoemkkfplbiaaaObK
namespace Go.Proofs.Yteoemkkfplbiaaa
open Go.RowKit
set_option linter.unusedVariables false
theorem back_10_0 (a b n : Int) (w : World) (hn : In64 n) (h0 : evB2 .rem .i64 (IntKind.i64.wrap (a.tmod (16 : Nat) + (16 : Nat))) .i64 (16 : Nat) = some (.int .i64 (10 : Nat))) (h1 : evB2 .and .i64 b .i64 ((2 ^ 4 - 1 : Nat) : Int) = some (.int .i64 (0 : Nat))) :
    Calls Try.prog 3 #[.int .i64 a, .int .i64 b, .int .i64 n] w fun e w' => e = .returned (.bool true) ∧ Below w.heap.size w w' :=
  back_of a b n w hn 10 0 1 true (by decide) h0 h1 (by kernel_rfl)
theorem back_10_1 (a b n : Int) (w : World) (hn : In64 n) (h0 : evB2 .rem .i64 (IntKind.i64.wrap (a.tmod (16 : Nat) + (16 : Nat))) .i64 (16 : Nat) = some (.int .i64 (10 : Nat))) (h1 : evB2 .and .i64 b .i64 ((2 ^ 4 - 1 : Nat) : Int) = some (.int .i64 (1 : Nat))) :
    Calls Try.prog 3 #[.int .i64 a, .int .i64 b, .int .i64 n] w fun e w' => e = .returned (.bool true) ∧ Below w.heap.size w w' :=
  back_of a b n w hn 10 1 2 true (by decide) h0 h1 (by kernel_rfl)
theorem back_10_2 (a b n : Int) (w : World) (hn : In64 n) (h0 : evB2 .rem .i64 (IntKind.i64.wrap (a.tmod (16 : Nat) + (16 : Nat))) .i64 (16 : Nat) = some (.int .i64 (10 : Nat))) (h1 : evB2 .and .i64 b .i64 ((2 ^ 4 - 1 : Nat) : Int) = some (.int .i64 (2 : Nat))) :
    Calls Try.prog 3 #[.int .i64 a, .int .i64 b, .int .i64 n] w fun e w' => e = .returned (.bool true) ∧ Below w.heap.size w w' :=
  back_of a b n w hn 10 2 4 true (by decide) h0 h1 (by kernel_rfl)
theorem back_10_3 (a b n : Int) (w : World) (hn : In64 n) (h0 : evB2 .rem .i64 (IntKind.i64.wrap (a.tmod (16 : Nat) + (16 : Nat))) .i64 (16 : Nat) = some (.int .i64 (10 : Nat))) (h1 : evB2 .and .i64 b .i64 ((2 ^ 4 - 1 : Nat) : Int) = some (.int .i64 (3 : Nat))) :
    Calls Try.prog 3 #[.int .i64 a, .int .i64 b, .int .i64 n] w fun e w' => e = .returned (.bool true) ∧ Below w.heap.size w w' :=
  back_of a b n w hn 10 3 8 true (by decide) h0 h1 (by kernel_rfl)
theorem back_10_4 (a b n : Int) (w : World) (hn : In64 n) (h0 : evB2 .rem .i64 (IntKind.i64.wrap (a.tmod (16 : Nat) + (16 : Nat))) .i64 (16 : Nat) = some (.int .i64 (10 : Nat))) (h1 : evB2 .and .i64 b .i64 ((2 ^ 4 - 1 : Nat) : Int) = some (.int .i64 (4 : Nat))) :
    Calls Try.prog 3 #[.int .i64 a, .int .i64 b, .int .i64 n] w fun e w' => e = .returned (.bool true) ∧ Below w.heap.size w w' :=
  back_of a b n w hn 10 4 1 false (by decide) h0 h1 (by kernel_rfl)
theorem back_10_5 (a b n : Int) (w : World) (hn : In64 n) (h0 : evB2 .rem .i64 (IntKind.i64.wrap (a.tmod (16 : Nat) + (16 : Nat))) .i64 (16 : Nat) = some (.int .i64 (10 : Nat))) (h1 : evB2 .and .i64 b .i64 ((2 ^ 4 - 1 : Nat) : Int) = some (.int .i64 (5 : Nat))) :
    Calls Try.prog 3 #[.int .i64 a, .int .i64 b, .int .i64 n] w fun e w' => e = .returned (.bool true) ∧ Below w.heap.size w w' :=
  back_of a b n w hn 10 5 2 false (by decide) h0 h1 (by kernel_rfl)
theorem back_10_6 (a b n : Int) (w : World) (hn : In64 n) (h0 : evB2 .rem .i64 (IntKind.i64.wrap (a.tmod (16 : Nat) + (16 : Nat))) .i64 (16 : Nat) = some (.int .i64 (10 : Nat))) (h1 : evB2 .and .i64 b .i64 ((2 ^ 4 - 1 : Nat) : Int) = some (.int .i64 (6 : Nat))) :
    Calls Try.prog 3 #[.int .i64 a, .int .i64 b, .int .i64 n] w fun e w' => e = .returned (.bool true) ∧ Below w.heap.size w w' :=
  back_of a b n w hn 10 6 4 false (by decide) h0 h1 (by kernel_rfl)
theorem back_10_7 (a b n : Int) (w : World) (hn : In64 n) (h0 : evB2 .rem .i64 (IntKind.i64.wrap (a.tmod (16 : Nat) + (16 : Nat))) .i64 (16 : Nat) = some (.int .i64 (10 : Nat))) (h1 : evB2 .and .i64 b .i64 ((2 ^ 4 - 1 : Nat) : Int) = some (.int .i64 (7 : Nat))) :
    Calls Try.prog 3 #[.int .i64 a, .int .i64 b, .int .i64 n] w fun e w' => e = .returned (.bool true) ∧ Below w.heap.size w w' :=
  back_of a b n w hn 10 7 8 false (by decide) h0 h1 (by kernel_rfl)
theorem back_10_8 (a b n : Int) (w : World) (hn : In64 n) (h0 : evB2 .rem .i64 (IntKind.i64.wrap (a.tmod (16 : Nat) + (16 : Nat))) .i64 (16 : Nat) = some (.int .i64 (10 : Nat))) (h1 : evB2 .and .i64 b .i64 ((2 ^ 4 - 1 : Nat) : Int) = some (.int .i64 (8 : Nat))) :
    Calls Try.prog 3 #[.int .i64 a, .int .i64 b, .int .i64 n] w fun e w' => e = .returned (.bool true) ∧ Below w.heap.size w w' :=
  back_of a b n w hn 10 8 1 true (by decide) h0 h1 (by kernel_rfl)
theorem back_10_9 (a b n : Int) (w : World) (hn : In64 n) (h0 : evB2 .rem .i64 (IntKind.i64.wrap (a.tmod (16 : Nat) + (16 : Nat))) .i64 (16 : Nat) = some (.int .i64 (10 : Nat))) (h1 : evB2 .and .i64 b .i64 ((2 ^ 4 - 1 : Nat) : Int) = some (.int .i64 (9 : Nat))) :
    Calls Try.prog 3 #[.int .i64 a, .int .i64 b, .int .i64 n] w fun e w' => e = .returned (.bool true) ∧ Below w.heap.size w w' :=
  back_of a b n w hn 10 9 2 true (by decide) h0 h1 (by kernel_rfl)
theorem back_10_10 (a b n : Int) (w : World) (hn : In64 n) (h0 : evB2 .rem .i64 (IntKind.i64.wrap (a.tmod (16 : Nat) + (16 : Nat))) .i64 (16 : Nat) = some (.int .i64 (10 : Nat))) (h1 : evB2 .and .i64 b .i64 ((2 ^ 4 - 1 : Nat) : Int) = some (.int .i64 (10 : Nat))) :
    Calls Try.prog 3 #[.int .i64 a, .int .i64 b, .int .i64 n] w fun e w' => e = .returned (.bool true) ∧ Below w.heap.size w w' :=
  back_of a b n w hn 10 10 4 true (by decide) h0 h1 (by kernel_rfl)
theorem back_10_11 (a b n : Int) (w : World) (hn : In64 n) (h0 : evB2 .rem .i64 (IntKind.i64.wrap (a.tmod (16 : Nat) + (16 : Nat))) .i64 (16 : Nat) = some (.int .i64 (10 : Nat))) (h1 : evB2 .and .i64 b .i64 ((2 ^ 4 - 1 : Nat) : Int) = some (.int .i64 (11 : Nat))) :
    Calls Try.prog 3 #[.int .i64 a, .int .i64 b, .int .i64 n] w fun e w' => e = .returned (.bool true) ∧ Below w.heap.size w w' :=
  back_of a b n w hn 10 11 8 true (by decide) h0 h1 (by kernel_rfl)
theorem back_10_12 (a b n : Int) (w : World) (hn : In64 n) (h0 : evB2 .rem .i64 (IntKind.i64.wrap (a.tmod (16 : Nat) + (16 : Nat))) .i64 (16 : Nat) = some (.int .i64 (10 : Nat))) (h1 : evB2 .and .i64 b .i64 ((2 ^ 4 - 1 : Nat) : Int) = some (.int .i64 (12 : Nat))) :
    Calls Try.prog 3 #[.int .i64 a, .int .i64 b, .int .i64 n] w fun e w' => e = .returned (.bool true) ∧ Below w.heap.size w w' :=
  back_of a b n w hn 10 12 1 false (by decide) h0 h1 (by kernel_rfl)
theorem back_10_13 (a b n : Int) (w : World) (hn : In64 n) (h0 : evB2 .rem .i64 (IntKind.i64.wrap (a.tmod (16 : Nat) + (16 : Nat))) .i64 (16 : Nat) = some (.int .i64 (10 : Nat))) (h1 : evB2 .and .i64 b .i64 ((2 ^ 4 - 1 : Nat) : Int) = some (.int .i64 (13 : Nat))) :
    Calls Try.prog 3 #[.int .i64 a, .int .i64 b, .int .i64 n] w fun e w' => e = .returned (.bool true) ∧ Below w.heap.size w w' :=
  back_of a b n w hn 10 13 2 false (by decide) h0 h1 (by kernel_rfl)
theorem back_10_14 (a b n : Int) (w : World) (hn : In64 n) (h0 : evB2 .rem .i64 (IntKind.i64.wrap (a.tmod (16 : Nat) + (16 : Nat))) .i64 (16 : Nat) = some (.int .i64 (10 : Nat))) (h1 : evB2 .and .i64 b .i64 ((2 ^ 4 - 1 : Nat) : Int) = some (.int .i64 (14 : Nat))) :
    Calls Try.prog 3 #[.int .i64 a, .int .i64 b, .int .i64 n] w fun e w' => e = .returned (.bool true) ∧ Below w.heap.size w w' :=
  back_of a b n w hn 10 14 4 false (by decide) h0 h1 (by kernel_rfl)
theorem back_10_15 (a b n : Int) (w : World) (hn : In64 n) (h0 : evB2 .rem .i64 (IntKind.i64.wrap (a.tmod (16 : Nat) + (16 : Nat))) .i64 (16 : Nat) = some (.int .i64 (10 : Nat))) (h1 : evB2 .and .i64 b .i64 ((2 ^ 4 - 1 : Nat) : Int) = some (.int .i64 (15 : Nat))) :
    Calls Try.prog 3 #[.int .i64 a, .int .i64 b, .int .i64 n] w fun e w' => e = .returned (.bool true) ∧ Below w.heap.size w w' :=
  back_of a b n w hn 10 15 8 false (by decide) h0 h1 (by kernel_rfl)
theorem back_10 (a b n : Int) (w : World) (hn : In64 n) (q : Nat) (hq : q < 16) (h0 : evB2 .rem .i64 (IntKind.i64.wrap (a.tmod (16 : Nat) + (16 : Nat))) .i64 (16 : Nat) = some (.int .i64 (10 : Nat))) (h1 : evB2 .and .i64 b .i64 ((2 ^ 4 - 1 : Nat) : Int) = some (.int .i64 (q : Nat))) :
    Calls Try.prog 3 #[.int .i64 a, .int .i64 b, .int .i64 n] w fun e w' => e = .returned (.bool true) ∧ Below w.heap.size w w' := by
  have hc : q = 0 ∨ q = 1 ∨ q = 2 ∨ q = 3 ∨ q = 4 ∨ q = 5 ∨ q = 6 ∨ q = 7 ∨ q = 8 ∨ q = 9 ∨ q = 10 ∨ q = 11 ∨ q = 12 ∨ q = 13 ∨ q = 14 ∨ q = 15 := by omega
  clear hq
  rcases hc with rfl | rfl | rfl | rfl | rfl | rfl | rfl | rfl | rfl | rfl | rfl | rfl | rfl | rfl | rfl | rfl
  · exact back_10_0 a b n w hn h0 h1
  · exact back_10_1 a b n w hn h0 h1
  · exact back_10_2 a b n w hn h0 h1
  · exact back_10_3 a b n w hn h0 h1
  · exact back_10_4 a b n w hn h0 h1
  · exact back_10_5 a b n w hn h0 h1
  · exact back_10_6 a b n w hn h0 h1
  · exact back_10_7 a b n w hn h0 h1
  · exact back_10_8 a b n w hn h0 h1
  · exact back_10_9 a b n w hn h0 h1
  · exact back_10_10 a b n w hn h0 h1
  · exact back_10_11 a b n w hn h0 h1
  · exact back_10_12 a b n w hn h0 h1
  · exact back_10_13 a b n w hn h0 h1
  · exact back_10_14 a b n w hn h0 h1
  · exact back_10_15 a b n w hn h0 h1
theorem back_11_0 (a b n : Int) (w : World) (hn : In64 n) (h0 : evB2 .rem .i64 (IntKind.i64.wrap (a.tmod (16 : Nat) + (16 : Nat))) .i64 (16 : Nat) = some (.int .i64 (11 : Nat))) (h1 : evB2 .and .i64 b .i64 ((2 ^ 4 - 1 : Nat) : Int) = some (.int .i64 (0 : Nat))) :
    Calls Try.prog 3 #[.int .i64 a, .int .i64 b, .int .i64 n] w fun e w' => e = .returned (.bool true) ∧ Below w.heap.size w w' :=
  back_of a b n w hn 11 0 1 true (by decide) h0 h1 (by kernel_rfl)
theorem back_11_1 (a b n : Int) (w : World) (hn : In64 n) (h0 : evB2 .rem .i64 (IntKind.i64.wrap (a.tmod (16 : Nat) + (16 : Nat))) .i64 (16 : Nat) = some (.int .i64 (11 : Nat))) (h1 : evB2 .and .i64 b .i64 ((2 ^ 4 - 1 : Nat) : Int) = some (.int .i64 (1 : Nat))) :
    Calls Try.prog 3 #[.int .i64 a, .int .i64 b, .int .i64 n] w fun e w' => e = .returned (.bool true) ∧ Below w.heap.size w w' :=
  back_of a b n w hn 11 1 2 true (by decide) h0 h1 (by kernel_rfl)
theorem back_11_2 (a b n : Int) (w : World) (hn : In64 n) (h0 : evB2 .rem .i64 (IntKind.i64.wrap (a.tmod (16 : Nat) + (16 : Nat))) .i64 (16 : Nat) = some (.int .i64 (11 : Nat))) (h1 : evB2 .and .i64 b .i64 ((2 ^ 4 - 1 : Nat) : Int) = some (.int .i64 (2 : Nat))) :
    Calls Try.prog 3 #[.int .i64 a, .int .i64 b, .int .i64 n] w fun e w' => e = .returned (.bool true) ∧ Below w.heap.size w w' :=
  back_of a b n w hn 11 2 4 true (by decide) h0 h1 (by kernel_rfl)
theorem back_11_3 (a b n : Int) (w : World) (hn : In64 n) (h0 : evB2 .rem .i64 (IntKind.i64.wrap (a.tmod (16 : Nat) + (16 : Nat))) .i64 (16 : Nat) = some (.int .i64 (11 : Nat))) (h1 : evB2 .and .i64 b .i64 ((2 ^ 4 - 1 : Nat) : Int) = some (.int .i64 (3 : Nat))) :
    Calls Try.prog 3 #[.int .i64 a, .int .i64 b, .int .i64 n] w fun e w' => e = .returned (.bool true) ∧ Below w.heap.size w w' :=
  back_of a b n w hn 11 3 8 true (by decide) h0 h1 (by kernel_rfl)
theorem back_11_4 (a b n : Int) (w : World) (hn : In64 n) (h0 : evB2 .rem .i64 (IntKind.i64.wrap (a.tmod (16 : Nat) + (16 : Nat))) .i64 (16 : Nat) = some (.int .i64 (11 : Nat))) (h1 : evB2 .and .i64 b .i64 ((2 ^ 4 - 1 : Nat) : Int) = some (.int .i64 (4 : Nat))) :
    Calls Try.prog 3 #[.int .i64 a, .int .i64 b, .int .i64 n] w fun e w' => e = .returned (.bool true) ∧ Below w.heap.size w w' :=
  back_of a b n w hn 11 4 1 false (by decide) h0 h1 (by kernel_rfl)
theorem back_11_5 (a b n : Int) (w : World) (hn : In64 n) (h0 : evB2 .rem .i64 (IntKind.i64.wrap (a.tmod (16 : Nat) + (16 : Nat))) .i64 (16 : Nat) = some (.int .i64 (11 : Nat))) (h1 : evB2 .and .i64 b .i64 ((2 ^ 4 - 1 : Nat) : Int) = some (.int .i64 (5 : Nat))) :
    Calls Try.prog 3 #[.int .i64 a, .int .i64 b, .int .i64 n] w fun e w' => e = .returned (.bool true) ∧ Below w.heap.size w w' :=
  back_of a b n w hn 11 5 2 false (by decide) h0 h1 (by kernel_rfl)
theorem back_11_6 (a b n : Int) (w : World) (hn : In64 n) (h0 : evB2 .rem .i64 (IntKind.i64.wrap (a.tmod (16 : Nat) + (16 : Nat))) .i64 (16 : Nat) = some (.int .i64 (11 : Nat))) (h1 : evB2 .and .i64 b .i64 ((2 ^ 4 - 1 : Nat) : Int) = some (.int .i64 (6 : Nat))) :
    Calls Try.prog 3 #[.int .i64 a, .int .i64 b, .int .i64 n] w fun e w' => e = .returned (.bool true) ∧ Below w.heap.size w w' :=
  back_of a b n w hn 11 6 4 false (by decide) h0 h1 (by kernel_rfl)
theorem back_11_7 (a b n : Int) (w : World) (hn : In64 n) (h0 : evB2 .rem .i64 (IntKind.i64.wrap (a.tmod (16 : Nat) + (16 : Nat))) .i64 (16 : Nat) = some (.int .i64 (11 : Nat))) (h1 : evB2 .and .i64 b .i64 ((2 ^ 4 - 1 : Nat) : Int) = some (.int .i64 (7 : Nat))) :
    Calls Try.prog 3 #[.int .i64 a, .int .i64 b, .int .i64 n] w fun e w' => e = .returned (.bool true) ∧ Below w.heap.size w w' :=
  back_of a b n w hn 11 7 8 false (by decide) h0 h1 (by kernel_rfl)
theorem back_11_8 (a b n : Int) (w : World) (hn : In64 n) (h0 : evB2 .rem .i64 (IntKind.i64.wrap (a.tmod (16 : Nat) + (16 : Nat))) .i64 (16 : Nat) = some (.int .i64 (11 : Nat))) (h1 : evB2 .and .i64 b .i64 ((2 ^ 4 - 1 : Nat) : Int) = some (.int .i64 (8 : Nat))) :
    Calls Try.prog 3 #[.int .i64 a, .int .i64 b, .int .i64 n] w fun e w' => e = .returned (.bool true) ∧ Below w.heap.size w w' :=
  back_of a b n w hn 11 8 1 true (by decide) h0 h1 (by kernel_rfl)
theorem back_11_9 (a b n : Int) (w : World) (hn : In64 n) (h0 : evB2 .rem .i64 (IntKind.i64.wrap (a.tmod (16 : Nat) + (16 : Nat))) .i64 (16 : Nat) = some (.int .i64 (11 : Nat))) (h1 : evB2 .and .i64 b .i64 ((2 ^ 4 - 1 : Nat) : Int) = some (.int .i64 (9 : Nat))) :
    Calls Try.prog 3 #[.int .i64 a, .int .i64 b, .int .i64 n] w fun e w' => e = .returned (.bool true) ∧ Below w.heap.size w w' :=
  back_of a b n w hn 11 9 2 true (by decide) h0 h1 (by kernel_rfl)
theorem back_11_10 (a b n : Int) (w : World) (hn : In64 n) (h0 : evB2 .rem .i64 (IntKind.i64.wrap (a.tmod (16 : Nat) + (16 : Nat))) .i64 (16 : Nat) = some (.int .i64 (11 : Nat))) (h1 : evB2 .and .i64 b .i64 ((2 ^ 4 - 1 : Nat) : Int) = some (.int .i64 (10 : Nat))) :
    Calls Try.prog 3 #[.int .i64 a, .int .i64 b, .int .i64 n] w fun e w' => e = .returned (.bool true) ∧ Below w.heap.size w w' :=
  back_of a b n w hn 11 10 4 true (by decide) h0 h1 (by kernel_rfl)
theorem back_11_11 (a b n : Int) (w : World) (hn : In64 n) (h0 : evB2 .rem .i64 (IntKind.i64.wrap (a.tmod (16 : Nat) + (16 : Nat))) .i64 (16 : Nat) = some (.int .i64 (11 : Nat))) (h1 : evB2 .and .i64 b .i64 ((2 ^ 4 - 1 : Nat) : Int) = some (.int .i64 (11 : Nat))) :
    Calls Try.prog 3 #[.int .i64 a, .int .i64 b, .int .i64 n] w fun e w' => e = .returned (.bool true) ∧ Below w.heap.size w w' :=
  back_of a b n w hn 11 11 8 true (by decide) h0 h1 (by kernel_rfl)
theorem back_11_12 (a b n : Int) (w : World) (hn : In64 n) (h0 : evB2 .rem .i64 (IntKind.i64.wrap (a.tmod (16 : Nat) + (16 : Nat))) .i64 (16 : Nat) = some (.int .i64 (11 : Nat))) (h1 : evB2 .and .i64 b .i64 ((2 ^ 4 - 1 : Nat) : Int) = some (.int .i64 (12 : Nat))) :
    Calls Try.prog 3 #[.int .i64 a, .int .i64 b, .int .i64 n] w fun e w' => e = .returned (.bool true) ∧ Below w.heap.size w w' :=
  back_of a b n w hn 11 12 1 false (by decide) h0 h1 (by kernel_rfl)
theorem back_11_13 (a b n : Int) (w : World) (hn : In64 n) (h0 : evB2 .rem .i64 (IntKind.i64.wrap (a.tmod (16 : Nat) + (16 : Nat))) .i64 (16 : Nat) = some (.int .i64 (11 : Nat))) (h1 : evB2 .and .i64 b .i64 ((2 ^ 4 - 1 : Nat) : Int) = some (.int .i64 (13 : Nat))) :
    Calls Try.prog 3 #[.int .i64 a, .int .i64 b, .int .i64 n] w fun e w' => e = .returned (.bool true) ∧ Below w.heap.size w w' :=
  back_of a b n w hn 11 13 2 false (by decide) h0 h1 (by kernel_rfl)
theorem back_11_14 (a b n : Int) (w : World) (hn : In64 n) (h0 : evB2 .rem .i64 (IntKind.i64.wrap (a.tmod (16 : Nat) + (16 : Nat))) .i64 (16 : Nat) = some (.int .i64 (11 : Nat))) (h1 : evB2 .and .i64 b .i64 ((2 ^ 4 - 1 : Nat) : Int) = some (.int .i64 (14 : Nat))) :
    Calls Try.prog 3 #[.int .i64 a, .int .i64 b, .int .i64 n] w fun e w' => e = .returned (.bool true) ∧ Below w.heap.size w w' :=
  back_of a b n w hn 11 14 4 false (by decide) h0 h1 (by kernel_rfl)
theorem back_11_15 (a b n : Int) (w : World) (hn : In64 n) (h0 : evB2 .rem .i64 (IntKind.i64.wrap (a.tmod (16 : Nat) + (16 : Nat))) .i64 (16 : Nat) = some (.int .i64 (11 : Nat))) (h1 : evB2 .and .i64 b .i64 ((2 ^ 4 - 1 : Nat) : Int) = some (.int .i64 (15 : Nat))) :
    Calls Try.prog 3 #[.int .i64 a, .int .i64 b, .int .i64 n] w fun e w' => e = .returned (.bool true) ∧ Below w.heap.size w w' :=
  back_of a b n w hn 11 15 8 false (by decide) h0 h1 (by kernel_rfl)
theorem back_11 (a b n : Int) (w : World) (hn : In64 n) (q : Nat) (hq : q < 16) (h0 : evB2 .rem .i64 (IntKind.i64.wrap (a.tmod (16 : Nat) + (16 : Nat))) .i64 (16 : Nat) = some (.int .i64 (11 : Nat))) (h1 : evB2 .and .i64 b .i64 ((2 ^ 4 - 1 : Nat) : Int) = some (.int .i64 (q : Nat))) :
    Calls Try.prog 3 #[.int .i64 a, .int .i64 b, .int .i64 n] w fun e w' => e = .returned (.bool true) ∧ Below w.heap.size w w' := by
  have hc : q = 0 ∨ q = 1 ∨ q = 2 ∨ q = 3 ∨ q = 4 ∨ q = 5 ∨ q = 6 ∨ q = 7 ∨ q = 8 ∨ q = 9 ∨ q = 10 ∨ q = 11 ∨ q = 12 ∨ q = 13 ∨ q = 14 ∨ q = 15 := by omega
  clear hq
  rcases hc with rfl | rfl | rfl | rfl | rfl | rfl | rfl | rfl | rfl | rfl | rfl | rfl | rfl | rfl | rfl | rfl
  · exact back_11_0 a b n w hn h0 h1
  · exact back_11_1 a b n w hn h0 h1
  · exact back_11_2 a b n w hn h0 h1
  · exact back_11_3 a b n w hn h0 h1
  · exact back_11_4 a b n w hn h0 h1
  · exact back_11_5 a b n w hn h0 h1
  · exact back_11_6 a b n w hn h0 h1
  · exact back_11_7 a b n w hn h0 h1
  · exact back_11_8 a b n w hn h0 h1
  · exact back_11_9 a b n w hn h0 h1
  · exact back_11_10 a b n w hn h0 h1
  · exact back_11_11 a b n w hn h0 h1
  · exact back_11_12 a b n w hn h0 h1
  · exact back_11_13 a b n w hn h0 h1
  · exact back_11_14 a b n w hn h0 h1
  · exact back_11_15 a b n w hn h0 h1
end Go.Proofs.Yteoemkkfplbiaaa
