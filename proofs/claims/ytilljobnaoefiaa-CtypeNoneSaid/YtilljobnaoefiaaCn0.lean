/- CtypeNone: runs, part 0. No condition. -/
import Derived.Test.YtilljobnaoefiaaCn
namespace Go.Proofs.Ytilljobnaoefiaa
open Go.RowKit
set_option linter.unusedVariables false
theorem none_0 (a b : Int) (w : World) (h : evB2 .and .i64 b .i64 ((2 ^ 8 - 1 : Nat) : Int) = some (.int .i64 (0 : Nat))) : Calls Try.prog 4 #[.int .i64 a, .int .i64 b] w fun e w' => e = .returned (.bool true) ∧ Below w.heap.size w w' :=
  none_of a b w 0 (by decide) h (by kernel_rfl)
theorem none_1 (a b : Int) (w : World) (h : evB2 .and .i64 b .i64 ((2 ^ 8 - 1 : Nat) : Int) = some (.int .i64 (1 : Nat))) : Calls Try.prog 4 #[.int .i64 a, .int .i64 b] w fun e w' => e = .returned (.bool true) ∧ Below w.heap.size w w' :=
  none_of a b w 1 (by decide) h (by kernel_rfl)
theorem none_2 (a b : Int) (w : World) (h : evB2 .and .i64 b .i64 ((2 ^ 8 - 1 : Nat) : Int) = some (.int .i64 (2 : Nat))) : Calls Try.prog 4 #[.int .i64 a, .int .i64 b] w fun e w' => e = .returned (.bool true) ∧ Below w.heap.size w w' :=
  none_of a b w 2 (by decide) h (by kernel_rfl)
theorem none_3 (a b : Int) (w : World) (h : evB2 .and .i64 b .i64 ((2 ^ 8 - 1 : Nat) : Int) = some (.int .i64 (3 : Nat))) : Calls Try.prog 4 #[.int .i64 a, .int .i64 b] w fun e w' => e = .returned (.bool true) ∧ Below w.heap.size w w' :=
  none_of a b w 3 (by decide) h (by kernel_rfl)
theorem none_4 (a b : Int) (w : World) (h : evB2 .and .i64 b .i64 ((2 ^ 8 - 1 : Nat) : Int) = some (.int .i64 (4 : Nat))) : Calls Try.prog 4 #[.int .i64 a, .int .i64 b] w fun e w' => e = .returned (.bool true) ∧ Below w.heap.size w w' :=
  none_of a b w 4 (by decide) h (by kernel_rfl)
theorem none_5 (a b : Int) (w : World) (h : evB2 .and .i64 b .i64 ((2 ^ 8 - 1 : Nat) : Int) = some (.int .i64 (5 : Nat))) : Calls Try.prog 4 #[.int .i64 a, .int .i64 b] w fun e w' => e = .returned (.bool true) ∧ Below w.heap.size w w' :=
  none_of a b w 5 (by decide) h (by kernel_rfl)
theorem none_6 (a b : Int) (w : World) (h : evB2 .and .i64 b .i64 ((2 ^ 8 - 1 : Nat) : Int) = some (.int .i64 (6 : Nat))) : Calls Try.prog 4 #[.int .i64 a, .int .i64 b] w fun e w' => e = .returned (.bool true) ∧ Below w.heap.size w w' :=
  none_of a b w 6 (by decide) h (by kernel_rfl)
theorem none_7 (a b : Int) (w : World) (h : evB2 .and .i64 b .i64 ((2 ^ 8 - 1 : Nat) : Int) = some (.int .i64 (7 : Nat))) : Calls Try.prog 4 #[.int .i64 a, .int .i64 b] w fun e w' => e = .returned (.bool true) ∧ Below w.heap.size w w' :=
  none_of a b w 7 (by decide) h (by kernel_rfl)
theorem none_8 (a b : Int) (w : World) (h : evB2 .and .i64 b .i64 ((2 ^ 8 - 1 : Nat) : Int) = some (.int .i64 (8 : Nat))) : Calls Try.prog 4 #[.int .i64 a, .int .i64 b] w fun e w' => e = .returned (.bool true) ∧ Below w.heap.size w w' :=
  none_of a b w 8 (by decide) h (by kernel_rfl)
theorem none_9 (a b : Int) (w : World) (h : evB2 .and .i64 b .i64 ((2 ^ 8 - 1 : Nat) : Int) = some (.int .i64 (9 : Nat))) : Calls Try.prog 4 #[.int .i64 a, .int .i64 b] w fun e w' => e = .returned (.bool true) ∧ Below w.heap.size w w' :=
  none_of a b w 9 (by decide) h (by kernel_rfl)
theorem none_10 (a b : Int) (w : World) (h : evB2 .and .i64 b .i64 ((2 ^ 8 - 1 : Nat) : Int) = some (.int .i64 (10 : Nat))) : Calls Try.prog 4 #[.int .i64 a, .int .i64 b] w fun e w' => e = .returned (.bool true) ∧ Below w.heap.size w w' :=
  none_of a b w 10 (by decide) h (by kernel_rfl)
theorem none_11 (a b : Int) (w : World) (h : evB2 .and .i64 b .i64 ((2 ^ 8 - 1 : Nat) : Int) = some (.int .i64 (11 : Nat))) : Calls Try.prog 4 #[.int .i64 a, .int .i64 b] w fun e w' => e = .returned (.bool true) ∧ Below w.heap.size w w' :=
  none_of a b w 11 (by decide) h (by kernel_rfl)
theorem none_12 (a b : Int) (w : World) (h : evB2 .and .i64 b .i64 ((2 ^ 8 - 1 : Nat) : Int) = some (.int .i64 (12 : Nat))) : Calls Try.prog 4 #[.int .i64 a, .int .i64 b] w fun e w' => e = .returned (.bool true) ∧ Below w.heap.size w w' :=
  none_of a b w 12 (by decide) h (by kernel_rfl)
theorem none_13 (a b : Int) (w : World) (h : evB2 .and .i64 b .i64 ((2 ^ 8 - 1 : Nat) : Int) = some (.int .i64 (13 : Nat))) : Calls Try.prog 4 #[.int .i64 a, .int .i64 b] w fun e w' => e = .returned (.bool true) ∧ Below w.heap.size w w' :=
  none_of a b w 13 (by decide) h (by kernel_rfl)
theorem none_14 (a b : Int) (w : World) (h : evB2 .and .i64 b .i64 ((2 ^ 8 - 1 : Nat) : Int) = some (.int .i64 (14 : Nat))) : Calls Try.prog 4 #[.int .i64 a, .int .i64 b] w fun e w' => e = .returned (.bool true) ∧ Below w.heap.size w w' :=
  none_of a b w 14 (by decide) h (by kernel_rfl)
theorem none_15 (a b : Int) (w : World) (h : evB2 .and .i64 b .i64 ((2 ^ 8 - 1 : Nat) : Int) = some (.int .i64 (15 : Nat))) : Calls Try.prog 4 #[.int .i64 a, .int .i64 b] w fun e w' => e = .returned (.bool true) ∧ Below w.heap.size w w' :=
  none_of a b w 15 (by decide) h (by kernel_rfl)
theorem none_16 (a b : Int) (w : World) (h : evB2 .and .i64 b .i64 ((2 ^ 8 - 1 : Nat) : Int) = some (.int .i64 (16 : Nat))) : Calls Try.prog 4 #[.int .i64 a, .int .i64 b] w fun e w' => e = .returned (.bool true) ∧ Below w.heap.size w w' :=
  none_of a b w 16 (by decide) h (by kernel_rfl)
theorem none_17 (a b : Int) (w : World) (h : evB2 .and .i64 b .i64 ((2 ^ 8 - 1 : Nat) : Int) = some (.int .i64 (17 : Nat))) : Calls Try.prog 4 #[.int .i64 a, .int .i64 b] w fun e w' => e = .returned (.bool true) ∧ Below w.heap.size w w' :=
  none_of a b w 17 (by decide) h (by kernel_rfl)
theorem none_18 (a b : Int) (w : World) (h : evB2 .and .i64 b .i64 ((2 ^ 8 - 1 : Nat) : Int) = some (.int .i64 (18 : Nat))) : Calls Try.prog 4 #[.int .i64 a, .int .i64 b] w fun e w' => e = .returned (.bool true) ∧ Below w.heap.size w w' :=
  none_of a b w 18 (by decide) h (by kernel_rfl)
theorem none_19 (a b : Int) (w : World) (h : evB2 .and .i64 b .i64 ((2 ^ 8 - 1 : Nat) : Int) = some (.int .i64 (19 : Nat))) : Calls Try.prog 4 #[.int .i64 a, .int .i64 b] w fun e w' => e = .returned (.bool true) ∧ Below w.heap.size w w' :=
  none_of a b w 19 (by decide) h (by kernel_rfl)
theorem none_20 (a b : Int) (w : World) (h : evB2 .and .i64 b .i64 ((2 ^ 8 - 1 : Nat) : Int) = some (.int .i64 (20 : Nat))) : Calls Try.prog 4 #[.int .i64 a, .int .i64 b] w fun e w' => e = .returned (.bool true) ∧ Below w.heap.size w w' :=
  none_of a b w 20 (by decide) h (by kernel_rfl)
theorem none_21 (a b : Int) (w : World) (h : evB2 .and .i64 b .i64 ((2 ^ 8 - 1 : Nat) : Int) = some (.int .i64 (21 : Nat))) : Calls Try.prog 4 #[.int .i64 a, .int .i64 b] w fun e w' => e = .returned (.bool true) ∧ Below w.heap.size w w' :=
  none_of a b w 21 (by decide) h (by kernel_rfl)
theorem none_22 (a b : Int) (w : World) (h : evB2 .and .i64 b .i64 ((2 ^ 8 - 1 : Nat) : Int) = some (.int .i64 (22 : Nat))) : Calls Try.prog 4 #[.int .i64 a, .int .i64 b] w fun e w' => e = .returned (.bool true) ∧ Below w.heap.size w w' :=
  none_of a b w 22 (by decide) h (by kernel_rfl)
theorem none_23 (a b : Int) (w : World) (h : evB2 .and .i64 b .i64 ((2 ^ 8 - 1 : Nat) : Int) = some (.int .i64 (23 : Nat))) : Calls Try.prog 4 #[.int .i64 a, .int .i64 b] w fun e w' => e = .returned (.bool true) ∧ Below w.heap.size w w' :=
  none_of a b w 23 (by decide) h (by kernel_rfl)
theorem none_24 (a b : Int) (w : World) (h : evB2 .and .i64 b .i64 ((2 ^ 8 - 1 : Nat) : Int) = some (.int .i64 (24 : Nat))) : Calls Try.prog 4 #[.int .i64 a, .int .i64 b] w fun e w' => e = .returned (.bool true) ∧ Below w.heap.size w w' :=
  none_of a b w 24 (by decide) h (by kernel_rfl)
theorem none_25 (a b : Int) (w : World) (h : evB2 .and .i64 b .i64 ((2 ^ 8 - 1 : Nat) : Int) = some (.int .i64 (25 : Nat))) : Calls Try.prog 4 #[.int .i64 a, .int .i64 b] w fun e w' => e = .returned (.bool true) ∧ Below w.heap.size w w' :=
  none_of a b w 25 (by decide) h (by kernel_rfl)
theorem none_26 (a b : Int) (w : World) (h : evB2 .and .i64 b .i64 ((2 ^ 8 - 1 : Nat) : Int) = some (.int .i64 (26 : Nat))) : Calls Try.prog 4 #[.int .i64 a, .int .i64 b] w fun e w' => e = .returned (.bool true) ∧ Below w.heap.size w w' :=
  none_of a b w 26 (by decide) h (by kernel_rfl)
theorem none_27 (a b : Int) (w : World) (h : evB2 .and .i64 b .i64 ((2 ^ 8 - 1 : Nat) : Int) = some (.int .i64 (27 : Nat))) : Calls Try.prog 4 #[.int .i64 a, .int .i64 b] w fun e w' => e = .returned (.bool true) ∧ Below w.heap.size w w' :=
  none_of a b w 27 (by decide) h (by kernel_rfl)
theorem none_28 (a b : Int) (w : World) (h : evB2 .and .i64 b .i64 ((2 ^ 8 - 1 : Nat) : Int) = some (.int .i64 (28 : Nat))) : Calls Try.prog 4 #[.int .i64 a, .int .i64 b] w fun e w' => e = .returned (.bool true) ∧ Below w.heap.size w w' :=
  none_of a b w 28 (by decide) h (by kernel_rfl)
theorem none_29 (a b : Int) (w : World) (h : evB2 .and .i64 b .i64 ((2 ^ 8 - 1 : Nat) : Int) = some (.int .i64 (29 : Nat))) : Calls Try.prog 4 #[.int .i64 a, .int .i64 b] w fun e w' => e = .returned (.bool true) ∧ Below w.heap.size w w' :=
  none_of a b w 29 (by decide) h (by kernel_rfl)
theorem none_30 (a b : Int) (w : World) (h : evB2 .and .i64 b .i64 ((2 ^ 8 - 1 : Nat) : Int) = some (.int .i64 (30 : Nat))) : Calls Try.prog 4 #[.int .i64 a, .int .i64 b] w fun e w' => e = .returned (.bool true) ∧ Below w.heap.size w w' :=
  none_of a b w 30 (by decide) h (by kernel_rfl)
theorem none_31 (a b : Int) (w : World) (h : evB2 .and .i64 b .i64 ((2 ^ 8 - 1 : Nat) : Int) = some (.int .i64 (31 : Nat))) : Calls Try.prog 4 #[.int .i64 a, .int .i64 b] w fun e w' => e = .returned (.bool true) ∧ Below w.heap.size w w' :=
  none_of a b w 31 (by decide) h (by kernel_rfl)
theorem none_32 (a b : Int) (w : World) (h : evB2 .and .i64 b .i64 ((2 ^ 8 - 1 : Nat) : Int) = some (.int .i64 (32 : Nat))) : Calls Try.prog 4 #[.int .i64 a, .int .i64 b] w fun e w' => e = .returned (.bool true) ∧ Below w.heap.size w w' :=
  none_of a b w 32 (by decide) h (by kernel_rfl)
theorem none_33 (a b : Int) (w : World) (h : evB2 .and .i64 b .i64 ((2 ^ 8 - 1 : Nat) : Int) = some (.int .i64 (33 : Nat))) : Calls Try.prog 4 #[.int .i64 a, .int .i64 b] w fun e w' => e = .returned (.bool true) ∧ Below w.heap.size w w' :=
  none_of a b w 33 (by decide) h (by kernel_rfl)
theorem none_34 (a b : Int) (w : World) (h : evB2 .and .i64 b .i64 ((2 ^ 8 - 1 : Nat) : Int) = some (.int .i64 (34 : Nat))) : Calls Try.prog 4 #[.int .i64 a, .int .i64 b] w fun e w' => e = .returned (.bool true) ∧ Below w.heap.size w w' :=
  none_of a b w 34 (by decide) h (by kernel_rfl)
theorem none_35 (a b : Int) (w : World) (h : evB2 .and .i64 b .i64 ((2 ^ 8 - 1 : Nat) : Int) = some (.int .i64 (35 : Nat))) : Calls Try.prog 4 #[.int .i64 a, .int .i64 b] w fun e w' => e = .returned (.bool true) ∧ Below w.heap.size w w' :=
  none_of a b w 35 (by decide) h (by kernel_rfl)
theorem none_36 (a b : Int) (w : World) (h : evB2 .and .i64 b .i64 ((2 ^ 8 - 1 : Nat) : Int) = some (.int .i64 (36 : Nat))) : Calls Try.prog 4 #[.int .i64 a, .int .i64 b] w fun e w' => e = .returned (.bool true) ∧ Below w.heap.size w w' :=
  none_of a b w 36 (by decide) h (by kernel_rfl)
theorem none_37 (a b : Int) (w : World) (h : evB2 .and .i64 b .i64 ((2 ^ 8 - 1 : Nat) : Int) = some (.int .i64 (37 : Nat))) : Calls Try.prog 4 #[.int .i64 a, .int .i64 b] w fun e w' => e = .returned (.bool true) ∧ Below w.heap.size w w' :=
  none_of a b w 37 (by decide) h (by kernel_rfl)
theorem none_38 (a b : Int) (w : World) (h : evB2 .and .i64 b .i64 ((2 ^ 8 - 1 : Nat) : Int) = some (.int .i64 (38 : Nat))) : Calls Try.prog 4 #[.int .i64 a, .int .i64 b] w fun e w' => e = .returned (.bool true) ∧ Below w.heap.size w w' :=
  none_of a b w 38 (by decide) h (by kernel_rfl)
theorem none_39 (a b : Int) (w : World) (h : evB2 .and .i64 b .i64 ((2 ^ 8 - 1 : Nat) : Int) = some (.int .i64 (39 : Nat))) : Calls Try.prog 4 #[.int .i64 a, .int .i64 b] w fun e w' => e = .returned (.bool true) ∧ Below w.heap.size w w' :=
  none_of a b w 39 (by decide) h (by kernel_rfl)
theorem none_40 (a b : Int) (w : World) (h : evB2 .and .i64 b .i64 ((2 ^ 8 - 1 : Nat) : Int) = some (.int .i64 (40 : Nat))) : Calls Try.prog 4 #[.int .i64 a, .int .i64 b] w fun e w' => e = .returned (.bool true) ∧ Below w.heap.size w w' :=
  none_of a b w 40 (by decide) h (by kernel_rfl)
theorem none_41 (a b : Int) (w : World) (h : evB2 .and .i64 b .i64 ((2 ^ 8 - 1 : Nat) : Int) = some (.int .i64 (41 : Nat))) : Calls Try.prog 4 #[.int .i64 a, .int .i64 b] w fun e w' => e = .returned (.bool true) ∧ Below w.heap.size w w' :=
  none_of a b w 41 (by decide) h (by kernel_rfl)
theorem none_42 (a b : Int) (w : World) (h : evB2 .and .i64 b .i64 ((2 ^ 8 - 1 : Nat) : Int) = some (.int .i64 (42 : Nat))) : Calls Try.prog 4 #[.int .i64 a, .int .i64 b] w fun e w' => e = .returned (.bool true) ∧ Below w.heap.size w w' :=
  none_of a b w 42 (by decide) h (by kernel_rfl)
theorem none_43 (a b : Int) (w : World) (h : evB2 .and .i64 b .i64 ((2 ^ 8 - 1 : Nat) : Int) = some (.int .i64 (43 : Nat))) : Calls Try.prog 4 #[.int .i64 a, .int .i64 b] w fun e w' => e = .returned (.bool true) ∧ Below w.heap.size w w' :=
  none_of a b w 43 (by decide) h (by kernel_rfl)
theorem none_44 (a b : Int) (w : World) (h : evB2 .and .i64 b .i64 ((2 ^ 8 - 1 : Nat) : Int) = some (.int .i64 (44 : Nat))) : Calls Try.prog 4 #[.int .i64 a, .int .i64 b] w fun e w' => e = .returned (.bool true) ∧ Below w.heap.size w w' :=
  none_of a b w 44 (by decide) h (by kernel_rfl)
theorem none_45 (a b : Int) (w : World) (h : evB2 .and .i64 b .i64 ((2 ^ 8 - 1 : Nat) : Int) = some (.int .i64 (45 : Nat))) : Calls Try.prog 4 #[.int .i64 a, .int .i64 b] w fun e w' => e = .returned (.bool true) ∧ Below w.heap.size w w' :=
  none_of a b w 45 (by decide) h (by kernel_rfl)
theorem none_46 (a b : Int) (w : World) (h : evB2 .and .i64 b .i64 ((2 ^ 8 - 1 : Nat) : Int) = some (.int .i64 (46 : Nat))) : Calls Try.prog 4 #[.int .i64 a, .int .i64 b] w fun e w' => e = .returned (.bool true) ∧ Below w.heap.size w w' :=
  none_of a b w 46 (by decide) h (by kernel_rfl)
theorem none_47 (a b : Int) (w : World) (h : evB2 .and .i64 b .i64 ((2 ^ 8 - 1 : Nat) : Int) = some (.int .i64 (47 : Nat))) : Calls Try.prog 4 #[.int .i64 a, .int .i64 b] w fun e w' => e = .returned (.bool true) ∧ Below w.heap.size w w' :=
  none_of a b w 47 (by decide) h (by kernel_rfl)
theorem none_48 (a b : Int) (w : World) (h : evB2 .and .i64 b .i64 ((2 ^ 8 - 1 : Nat) : Int) = some (.int .i64 (48 : Nat))) : Calls Try.prog 4 #[.int .i64 a, .int .i64 b] w fun e w' => e = .returned (.bool true) ∧ Below w.heap.size w w' :=
  none_of a b w 48 (by decide) h (by kernel_rfl)
theorem none_49 (a b : Int) (w : World) (h : evB2 .and .i64 b .i64 ((2 ^ 8 - 1 : Nat) : Int) = some (.int .i64 (49 : Nat))) : Calls Try.prog 4 #[.int .i64 a, .int .i64 b] w fun e w' => e = .returned (.bool true) ∧ Below w.heap.size w w' :=
  none_of a b w 49 (by decide) h (by kernel_rfl)
theorem none_50 (a b : Int) (w : World) (h : evB2 .and .i64 b .i64 ((2 ^ 8 - 1 : Nat) : Int) = some (.int .i64 (50 : Nat))) : Calls Try.prog 4 #[.int .i64 a, .int .i64 b] w fun e w' => e = .returned (.bool true) ∧ Below w.heap.size w w' :=
  none_of a b w 50 (by decide) h (by kernel_rfl)
theorem none_51 (a b : Int) (w : World) (h : evB2 .and .i64 b .i64 ((2 ^ 8 - 1 : Nat) : Int) = some (.int .i64 (51 : Nat))) : Calls Try.prog 4 #[.int .i64 a, .int .i64 b] w fun e w' => e = .returned (.bool true) ∧ Below w.heap.size w w' :=
  none_of a b w 51 (by decide) h (by kernel_rfl)
theorem none_52 (a b : Int) (w : World) (h : evB2 .and .i64 b .i64 ((2 ^ 8 - 1 : Nat) : Int) = some (.int .i64 (52 : Nat))) : Calls Try.prog 4 #[.int .i64 a, .int .i64 b] w fun e w' => e = .returned (.bool true) ∧ Below w.heap.size w w' :=
  none_of a b w 52 (by decide) h (by kernel_rfl)
theorem none_53 (a b : Int) (w : World) (h : evB2 .and .i64 b .i64 ((2 ^ 8 - 1 : Nat) : Int) = some (.int .i64 (53 : Nat))) : Calls Try.prog 4 #[.int .i64 a, .int .i64 b] w fun e w' => e = .returned (.bool true) ∧ Below w.heap.size w w' :=
  none_of a b w 53 (by decide) h (by kernel_rfl)
theorem none_54 (a b : Int) (w : World) (h : evB2 .and .i64 b .i64 ((2 ^ 8 - 1 : Nat) : Int) = some (.int .i64 (54 : Nat))) : Calls Try.prog 4 #[.int .i64 a, .int .i64 b] w fun e w' => e = .returned (.bool true) ∧ Below w.heap.size w w' :=
  none_of a b w 54 (by decide) h (by kernel_rfl)
theorem none_55 (a b : Int) (w : World) (h : evB2 .and .i64 b .i64 ((2 ^ 8 - 1 : Nat) : Int) = some (.int .i64 (55 : Nat))) : Calls Try.prog 4 #[.int .i64 a, .int .i64 b] w fun e w' => e = .returned (.bool true) ∧ Below w.heap.size w w' :=
  none_of a b w 55 (by decide) h (by kernel_rfl)
theorem none_56 (a b : Int) (w : World) (h : evB2 .and .i64 b .i64 ((2 ^ 8 - 1 : Nat) : Int) = some (.int .i64 (56 : Nat))) : Calls Try.prog 4 #[.int .i64 a, .int .i64 b] w fun e w' => e = .returned (.bool true) ∧ Below w.heap.size w w' :=
  none_of a b w 56 (by decide) h (by kernel_rfl)
theorem none_57 (a b : Int) (w : World) (h : evB2 .and .i64 b .i64 ((2 ^ 8 - 1 : Nat) : Int) = some (.int .i64 (57 : Nat))) : Calls Try.prog 4 #[.int .i64 a, .int .i64 b] w fun e w' => e = .returned (.bool true) ∧ Below w.heap.size w w' :=
  none_of a b w 57 (by decide) h (by kernel_rfl)
theorem none_58 (a b : Int) (w : World) (h : evB2 .and .i64 b .i64 ((2 ^ 8 - 1 : Nat) : Int) = some (.int .i64 (58 : Nat))) : Calls Try.prog 4 #[.int .i64 a, .int .i64 b] w fun e w' => e = .returned (.bool true) ∧ Below w.heap.size w w' :=
  none_of a b w 58 (by decide) h (by kernel_rfl)
theorem none_59 (a b : Int) (w : World) (h : evB2 .and .i64 b .i64 ((2 ^ 8 - 1 : Nat) : Int) = some (.int .i64 (59 : Nat))) : Calls Try.prog 4 #[.int .i64 a, .int .i64 b] w fun e w' => e = .returned (.bool true) ∧ Below w.heap.size w w' :=
  none_of a b w 59 (by decide) h (by kernel_rfl)
theorem none_60 (a b : Int) (w : World) (h : evB2 .and .i64 b .i64 ((2 ^ 8 - 1 : Nat) : Int) = some (.int .i64 (60 : Nat))) : Calls Try.prog 4 #[.int .i64 a, .int .i64 b] w fun e w' => e = .returned (.bool true) ∧ Below w.heap.size w w' :=
  none_of a b w 60 (by decide) h (by kernel_rfl)
theorem none_61 (a b : Int) (w : World) (h : evB2 .and .i64 b .i64 ((2 ^ 8 - 1 : Nat) : Int) = some (.int .i64 (61 : Nat))) : Calls Try.prog 4 #[.int .i64 a, .int .i64 b] w fun e w' => e = .returned (.bool true) ∧ Below w.heap.size w w' :=
  none_of a b w 61 (by decide) h (by kernel_rfl)
theorem none_62 (a b : Int) (w : World) (h : evB2 .and .i64 b .i64 ((2 ^ 8 - 1 : Nat) : Int) = some (.int .i64 (62 : Nat))) : Calls Try.prog 4 #[.int .i64 a, .int .i64 b] w fun e w' => e = .returned (.bool true) ∧ Below w.heap.size w w' :=
  none_of a b w 62 (by decide) h (by kernel_rfl)
theorem none_63 (a b : Int) (w : World) (h : evB2 .and .i64 b .i64 ((2 ^ 8 - 1 : Nat) : Int) = some (.int .i64 (63 : Nat))) : Calls Try.prog 4 #[.int .i64 a, .int .i64 b] w fun e w' => e = .returned (.bool true) ∧ Below w.heap.size w w' :=
  none_of a b w 63 (by decide) h (by kernel_rfl)
theorem nones_0 (a b : Int) (w : World) (q : Nat) (h1 : 0 ≤ q) (h2 : q < 16) (h : evB2 .and .i64 b .i64 ((2 ^ 8 - 1 : Nat) : Int) = some (.int .i64 (q : Nat))) : Calls Try.prog 4 #[.int .i64 a, .int .i64 b] w fun e w' => e = .returned (.bool true) ∧ Below w.heap.size w w' := by
  have hc : q = 0 ∨ q = 1 ∨ q = 2 ∨ q = 3 ∨ q = 4 ∨ q = 5 ∨ q = 6 ∨ q = 7 ∨ q = 8 ∨ q = 9 ∨ q = 10 ∨ q = 11 ∨ q = 12 ∨ q = 13 ∨ q = 14 ∨ q = 15 := by omega
  clear h1 h2
  rcases hc with rfl | rfl | rfl | rfl | rfl | rfl | rfl | rfl | rfl | rfl | rfl | rfl | rfl | rfl | rfl | rfl
  · exact none_0 a b w h
  · exact none_1 a b w h
  · exact none_2 a b w h
  · exact none_3 a b w h
  · exact none_4 a b w h
  · exact none_5 a b w h
  · exact none_6 a b w h
  · exact none_7 a b w h
  · exact none_8 a b w h
  · exact none_9 a b w h
  · exact none_10 a b w h
  · exact none_11 a b w h
  · exact none_12 a b w h
  · exact none_13 a b w h
  · exact none_14 a b w h
  · exact none_15 a b w h
theorem nones_16 (a b : Int) (w : World) (q : Nat) (h1 : 16 ≤ q) (h2 : q < 32) (h : evB2 .and .i64 b .i64 ((2 ^ 8 - 1 : Nat) : Int) = some (.int .i64 (q : Nat))) : Calls Try.prog 4 #[.int .i64 a, .int .i64 b] w fun e w' => e = .returned (.bool true) ∧ Below w.heap.size w w' := by
  have hc : q = 16 ∨ q = 17 ∨ q = 18 ∨ q = 19 ∨ q = 20 ∨ q = 21 ∨ q = 22 ∨ q = 23 ∨ q = 24 ∨ q = 25 ∨ q = 26 ∨ q = 27 ∨ q = 28 ∨ q = 29 ∨ q = 30 ∨ q = 31 := by omega
  clear h1 h2
  rcases hc with rfl | rfl | rfl | rfl | rfl | rfl | rfl | rfl | rfl | rfl | rfl | rfl | rfl | rfl | rfl | rfl
  · exact none_16 a b w h
  · exact none_17 a b w h
  · exact none_18 a b w h
  · exact none_19 a b w h
  · exact none_20 a b w h
  · exact none_21 a b w h
  · exact none_22 a b w h
  · exact none_23 a b w h
  · exact none_24 a b w h
  · exact none_25 a b w h
  · exact none_26 a b w h
  · exact none_27 a b w h
  · exact none_28 a b w h
  · exact none_29 a b w h
  · exact none_30 a b w h
  · exact none_31 a b w h
theorem nones_32 (a b : Int) (w : World) (q : Nat) (h1 : 32 ≤ q) (h2 : q < 48) (h : evB2 .and .i64 b .i64 ((2 ^ 8 - 1 : Nat) : Int) = some (.int .i64 (q : Nat))) : Calls Try.prog 4 #[.int .i64 a, .int .i64 b] w fun e w' => e = .returned (.bool true) ∧ Below w.heap.size w w' := by
  have hc : q = 32 ∨ q = 33 ∨ q = 34 ∨ q = 35 ∨ q = 36 ∨ q = 37 ∨ q = 38 ∨ q = 39 ∨ q = 40 ∨ q = 41 ∨ q = 42 ∨ q = 43 ∨ q = 44 ∨ q = 45 ∨ q = 46 ∨ q = 47 := by omega
  clear h1 h2
  rcases hc with rfl | rfl | rfl | rfl | rfl | rfl | rfl | rfl | rfl | rfl | rfl | rfl | rfl | rfl | rfl | rfl
  · exact none_32 a b w h
  · exact none_33 a b w h
  · exact none_34 a b w h
  · exact none_35 a b w h
  · exact none_36 a b w h
  · exact none_37 a b w h
  · exact none_38 a b w h
  · exact none_39 a b w h
  · exact none_40 a b w h
  · exact none_41 a b w h
  · exact none_42 a b w h
  · exact none_43 a b w h
  · exact none_44 a b w h
  · exact none_45 a b w h
  · exact none_46 a b w h
  · exact none_47 a b w h
theorem nones_48 (a b : Int) (w : World) (q : Nat) (h1 : 48 ≤ q) (h2 : q < 64) (h : evB2 .and .i64 b .i64 ((2 ^ 8 - 1 : Nat) : Int) = some (.int .i64 (q : Nat))) : Calls Try.prog 4 #[.int .i64 a, .int .i64 b] w fun e w' => e = .returned (.bool true) ∧ Below w.heap.size w w' := by
  have hc : q = 48 ∨ q = 49 ∨ q = 50 ∨ q = 51 ∨ q = 52 ∨ q = 53 ∨ q = 54 ∨ q = 55 ∨ q = 56 ∨ q = 57 ∨ q = 58 ∨ q = 59 ∨ q = 60 ∨ q = 61 ∨ q = 62 ∨ q = 63 := by omega
  clear h1 h2
  rcases hc with rfl | rfl | rfl | rfl | rfl | rfl | rfl | rfl | rfl | rfl | rfl | rfl | rfl | rfl | rfl | rfl
  · exact none_48 a b w h
  · exact none_49 a b w h
  · exact none_50 a b w h
  · exact none_51 a b w h
  · exact none_52 a b w h
  · exact none_53 a b w h
  · exact none_54 a b w h
  · exact none_55 a b w h
  · exact none_56 a b w h
  · exact none_57 a b w h
  · exact none_58 a b w h
  · exact none_59 a b w h
  · exact none_60 a b w h
  · exact none_61 a b w h
  · exact none_62 a b w h
  · exact none_63 a b w h
end Go.Proofs.Ytilljobnaoefiaa
