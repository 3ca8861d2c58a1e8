/- CtypeNone: runs, part 1. No condition. -/
import Derived.Test.YtilljobnaoefiaaCn
namespace Go.Proofs.Ytilljobnaoefiaa
open Go.RowKit
set_option linter.unusedVariables false
theorem none_64 (a b : Int) (w : World) (h : evB2 .and .i64 b .i64 ((2 ^ 8 - 1 : Nat) : Int) = some (.int .i64 (64 : Nat))) : Calls Try.prog 4 #[.int .i64 a, .int .i64 b] w fun e w' => e = .returned (.bool true) ∧ Below w.heap.size w w' :=
  none_of a b w 64 (by decide) h (by kernel_rfl)
theorem none_65 (a b : Int) (w : World) (h : evB2 .and .i64 b .i64 ((2 ^ 8 - 1 : Nat) : Int) = some (.int .i64 (65 : Nat))) : Calls Try.prog 4 #[.int .i64 a, .int .i64 b] w fun e w' => e = .returned (.bool true) ∧ Below w.heap.size w w' :=
  none_of a b w 65 (by decide) h (by kernel_rfl)
theorem none_66 (a b : Int) (w : World) (h : evB2 .and .i64 b .i64 ((2 ^ 8 - 1 : Nat) : Int) = some (.int .i64 (66 : Nat))) : Calls Try.prog 4 #[.int .i64 a, .int .i64 b] w fun e w' => e = .returned (.bool true) ∧ Below w.heap.size w w' :=
  none_of a b w 66 (by decide) h (by kernel_rfl)
theorem none_67 (a b : Int) (w : World) (h : evB2 .and .i64 b .i64 ((2 ^ 8 - 1 : Nat) : Int) = some (.int .i64 (67 : Nat))) : Calls Try.prog 4 #[.int .i64 a, .int .i64 b] w fun e w' => e = .returned (.bool true) ∧ Below w.heap.size w w' :=
  none_of a b w 67 (by decide) h (by kernel_rfl)
theorem none_68 (a b : Int) (w : World) (h : evB2 .and .i64 b .i64 ((2 ^ 8 - 1 : Nat) : Int) = some (.int .i64 (68 : Nat))) : Calls Try.prog 4 #[.int .i64 a, .int .i64 b] w fun e w' => e = .returned (.bool true) ∧ Below w.heap.size w w' :=
  none_of a b w 68 (by decide) h (by kernel_rfl)
theorem none_69 (a b : Int) (w : World) (h : evB2 .and .i64 b .i64 ((2 ^ 8 - 1 : Nat) : Int) = some (.int .i64 (69 : Nat))) : Calls Try.prog 4 #[.int .i64 a, .int .i64 b] w fun e w' => e = .returned (.bool true) ∧ Below w.heap.size w w' :=
  none_of a b w 69 (by decide) h (by kernel_rfl)
theorem none_70 (a b : Int) (w : World) (h : evB2 .and .i64 b .i64 ((2 ^ 8 - 1 : Nat) : Int) = some (.int .i64 (70 : Nat))) : Calls Try.prog 4 #[.int .i64 a, .int .i64 b] w fun e w' => e = .returned (.bool true) ∧ Below w.heap.size w w' :=
  none_of a b w 70 (by decide) h (by kernel_rfl)
theorem none_71 (a b : Int) (w : World) (h : evB2 .and .i64 b .i64 ((2 ^ 8 - 1 : Nat) : Int) = some (.int .i64 (71 : Nat))) : Calls Try.prog 4 #[.int .i64 a, .int .i64 b] w fun e w' => e = .returned (.bool true) ∧ Below w.heap.size w w' :=
  none_of a b w 71 (by decide) h (by kernel_rfl)
theorem none_72 (a b : Int) (w : World) (h : evB2 .and .i64 b .i64 ((2 ^ 8 - 1 : Nat) : Int) = some (.int .i64 (72 : Nat))) : Calls Try.prog 4 #[.int .i64 a, .int .i64 b] w fun e w' => e = .returned (.bool true) ∧ Below w.heap.size w w' :=
  none_of a b w 72 (by decide) h (by kernel_rfl)
theorem none_73 (a b : Int) (w : World) (h : evB2 .and .i64 b .i64 ((2 ^ 8 - 1 : Nat) : Int) = some (.int .i64 (73 : Nat))) : Calls Try.prog 4 #[.int .i64 a, .int .i64 b] w fun e w' => e = .returned (.bool true) ∧ Below w.heap.size w w' :=
  none_of a b w 73 (by decide) h (by kernel_rfl)
theorem none_74 (a b : Int) (w : World) (h : evB2 .and .i64 b .i64 ((2 ^ 8 - 1 : Nat) : Int) = some (.int .i64 (74 : Nat))) : Calls Try.prog 4 #[.int .i64 a, .int .i64 b] w fun e w' => e = .returned (.bool true) ∧ Below w.heap.size w w' :=
  none_of a b w 74 (by decide) h (by kernel_rfl)
theorem none_75 (a b : Int) (w : World) (h : evB2 .and .i64 b .i64 ((2 ^ 8 - 1 : Nat) : Int) = some (.int .i64 (75 : Nat))) : Calls Try.prog 4 #[.int .i64 a, .int .i64 b] w fun e w' => e = .returned (.bool true) ∧ Below w.heap.size w w' :=
  none_of a b w 75 (by decide) h (by kernel_rfl)
theorem none_76 (a b : Int) (w : World) (h : evB2 .and .i64 b .i64 ((2 ^ 8 - 1 : Nat) : Int) = some (.int .i64 (76 : Nat))) : Calls Try.prog 4 #[.int .i64 a, .int .i64 b] w fun e w' => e = .returned (.bool true) ∧ Below w.heap.size w w' :=
  none_of a b w 76 (by decide) h (by kernel_rfl)
theorem none_77 (a b : Int) (w : World) (h : evB2 .and .i64 b .i64 ((2 ^ 8 - 1 : Nat) : Int) = some (.int .i64 (77 : Nat))) : Calls Try.prog 4 #[.int .i64 a, .int .i64 b] w fun e w' => e = .returned (.bool true) ∧ Below w.heap.size w w' :=
  none_of a b w 77 (by decide) h (by kernel_rfl)
theorem none_78 (a b : Int) (w : World) (h : evB2 .and .i64 b .i64 ((2 ^ 8 - 1 : Nat) : Int) = some (.int .i64 (78 : Nat))) : Calls Try.prog 4 #[.int .i64 a, .int .i64 b] w fun e w' => e = .returned (.bool true) ∧ Below w.heap.size w w' :=
  none_of a b w 78 (by decide) h (by kernel_rfl)
theorem none_79 (a b : Int) (w : World) (h : evB2 .and .i64 b .i64 ((2 ^ 8 - 1 : Nat) : Int) = some (.int .i64 (79 : Nat))) : Calls Try.prog 4 #[.int .i64 a, .int .i64 b] w fun e w' => e = .returned (.bool true) ∧ Below w.heap.size w w' :=
  none_of a b w 79 (by decide) h (by kernel_rfl)
theorem none_80 (a b : Int) (w : World) (h : evB2 .and .i64 b .i64 ((2 ^ 8 - 1 : Nat) : Int) = some (.int .i64 (80 : Nat))) : Calls Try.prog 4 #[.int .i64 a, .int .i64 b] w fun e w' => e = .returned (.bool true) ∧ Below w.heap.size w w' :=
  none_of a b w 80 (by decide) h (by kernel_rfl)
theorem none_81 (a b : Int) (w : World) (h : evB2 .and .i64 b .i64 ((2 ^ 8 - 1 : Nat) : Int) = some (.int .i64 (81 : Nat))) : Calls Try.prog 4 #[.int .i64 a, .int .i64 b] w fun e w' => e = .returned (.bool true) ∧ Below w.heap.size w w' :=
  none_of a b w 81 (by decide) h (by kernel_rfl)
theorem none_82 (a b : Int) (w : World) (h : evB2 .and .i64 b .i64 ((2 ^ 8 - 1 : Nat) : Int) = some (.int .i64 (82 : Nat))) : Calls Try.prog 4 #[.int .i64 a, .int .i64 b] w fun e w' => e = .returned (.bool true) ∧ Below w.heap.size w w' :=
  none_of a b w 82 (by decide) h (by kernel_rfl)
theorem none_83 (a b : Int) (w : World) (h : evB2 .and .i64 b .i64 ((2 ^ 8 - 1 : Nat) : Int) = some (.int .i64 (83 : Nat))) : Calls Try.prog 4 #[.int .i64 a, .int .i64 b] w fun e w' => e = .returned (.bool true) ∧ Below w.heap.size w w' :=
  none_of a b w 83 (by decide) h (by kernel_rfl)
theorem none_84 (a b : Int) (w : World) (h : evB2 .and .i64 b .i64 ((2 ^ 8 - 1 : Nat) : Int) = some (.int .i64 (84 : Nat))) : Calls Try.prog 4 #[.int .i64 a, .int .i64 b] w fun e w' => e = .returned (.bool true) ∧ Below w.heap.size w w' :=
  none_of a b w 84 (by decide) h (by kernel_rfl)
theorem none_85 (a b : Int) (w : World) (h : evB2 .and .i64 b .i64 ((2 ^ 8 - 1 : Nat) : Int) = some (.int .i64 (85 : Nat))) : Calls Try.prog 4 #[.int .i64 a, .int .i64 b] w fun e w' => e = .returned (.bool true) ∧ Below w.heap.size w w' :=
  none_of a b w 85 (by decide) h (by kernel_rfl)
theorem none_86 (a b : Int) (w : World) (h : evB2 .and .i64 b .i64 ((2 ^ 8 - 1 : Nat) : Int) = some (.int .i64 (86 : Nat))) : Calls Try.prog 4 #[.int .i64 a, .int .i64 b] w fun e w' => e = .returned (.bool true) ∧ Below w.heap.size w w' :=
  none_of a b w 86 (by decide) h (by kernel_rfl)
theorem none_87 (a b : Int) (w : World) (h : evB2 .and .i64 b .i64 ((2 ^ 8 - 1 : Nat) : Int) = some (.int .i64 (87 : Nat))) : Calls Try.prog 4 #[.int .i64 a, .int .i64 b] w fun e w' => e = .returned (.bool true) ∧ Below w.heap.size w w' :=
  none_of a b w 87 (by decide) h (by kernel_rfl)
theorem none_88 (a b : Int) (w : World) (h : evB2 .and .i64 b .i64 ((2 ^ 8 - 1 : Nat) : Int) = some (.int .i64 (88 : Nat))) : Calls Try.prog 4 #[.int .i64 a, .int .i64 b] w fun e w' => e = .returned (.bool true) ∧ Below w.heap.size w w' :=
  none_of a b w 88 (by decide) h (by kernel_rfl)
theorem none_89 (a b : Int) (w : World) (h : evB2 .and .i64 b .i64 ((2 ^ 8 - 1 : Nat) : Int) = some (.int .i64 (89 : Nat))) : Calls Try.prog 4 #[.int .i64 a, .int .i64 b] w fun e w' => e = .returned (.bool true) ∧ Below w.heap.size w w' :=
  none_of a b w 89 (by decide) h (by kernel_rfl)
theorem none_90 (a b : Int) (w : World) (h : evB2 .and .i64 b .i64 ((2 ^ 8 - 1 : Nat) : Int) = some (.int .i64 (90 : Nat))) : Calls Try.prog 4 #[.int .i64 a, .int .i64 b] w fun e w' => e = .returned (.bool true) ∧ Below w.heap.size w w' :=
  none_of a b w 90 (by decide) h (by kernel_rfl)
theorem none_91 (a b : Int) (w : World) (h : evB2 .and .i64 b .i64 ((2 ^ 8 - 1 : Nat) : Int) = some (.int .i64 (91 : Nat))) : Calls Try.prog 4 #[.int .i64 a, .int .i64 b] w fun e w' => e = .returned (.bool true) ∧ Below w.heap.size w w' :=
  none_of a b w 91 (by decide) h (by kernel_rfl)
theorem none_92 (a b : Int) (w : World) (h : evB2 .and .i64 b .i64 ((2 ^ 8 - 1 : Nat) : Int) = some (.int .i64 (92 : Nat))) : Calls Try.prog 4 #[.int .i64 a, .int .i64 b] w fun e w' => e = .returned (.bool true) ∧ Below w.heap.size w w' :=
  none_of a b w 92 (by decide) h (by kernel_rfl)
theorem none_93 (a b : Int) (w : World) (h : evB2 .and .i64 b .i64 ((2 ^ 8 - 1 : Nat) : Int) = some (.int .i64 (93 : Nat))) : Calls Try.prog 4 #[.int .i64 a, .int .i64 b] w fun e w' => e = .returned (.bool true) ∧ Below w.heap.size w w' :=
  none_of a b w 93 (by decide) h (by kernel_rfl)
theorem none_94 (a b : Int) (w : World) (h : evB2 .and .i64 b .i64 ((2 ^ 8 - 1 : Nat) : Int) = some (.int .i64 (94 : Nat))) : Calls Try.prog 4 #[.int .i64 a, .int .i64 b] w fun e w' => e = .returned (.bool true) ∧ Below w.heap.size w w' :=
  none_of a b w 94 (by decide) h (by kernel_rfl)
theorem none_95 (a b : Int) (w : World) (h : evB2 .and .i64 b .i64 ((2 ^ 8 - 1 : Nat) : Int) = some (.int .i64 (95 : Nat))) : Calls Try.prog 4 #[.int .i64 a, .int .i64 b] w fun e w' => e = .returned (.bool true) ∧ Below w.heap.size w w' :=
  none_of a b w 95 (by decide) h (by kernel_rfl)
theorem none_96 (a b : Int) (w : World) (h : evB2 .and .i64 b .i64 ((2 ^ 8 - 1 : Nat) : Int) = some (.int .i64 (96 : Nat))) : Calls Try.prog 4 #[.int .i64 a, .int .i64 b] w fun e w' => e = .returned (.bool true) ∧ Below w.heap.size w w' :=
  none_of a b w 96 (by decide) h (by kernel_rfl)
theorem none_97 (a b : Int) (w : World) (h : evB2 .and .i64 b .i64 ((2 ^ 8 - 1 : Nat) : Int) = some (.int .i64 (97 : Nat))) : Calls Try.prog 4 #[.int .i64 a, .int .i64 b] w fun e w' => e = .returned (.bool true) ∧ Below w.heap.size w w' :=
  none_of a b w 97 (by decide) h (by kernel_rfl)
theorem none_98 (a b : Int) (w : World) (h : evB2 .and .i64 b .i64 ((2 ^ 8 - 1 : Nat) : Int) = some (.int .i64 (98 : Nat))) : Calls Try.prog 4 #[.int .i64 a, .int .i64 b] w fun e w' => e = .returned (.bool true) ∧ Below w.heap.size w w' :=
  none_of a b w 98 (by decide) h (by kernel_rfl)
theorem none_99 (a b : Int) (w : World) (h : evB2 .and .i64 b .i64 ((2 ^ 8 - 1 : Nat) : Int) = some (.int .i64 (99 : Nat))) : Calls Try.prog 4 #[.int .i64 a, .int .i64 b] w fun e w' => e = .returned (.bool true) ∧ Below w.heap.size w w' :=
  none_of a b w 99 (by decide) h (by kernel_rfl)
theorem none_100 (a b : Int) (w : World) (h : evB2 .and .i64 b .i64 ((2 ^ 8 - 1 : Nat) : Int) = some (.int .i64 (100 : Nat))) : Calls Try.prog 4 #[.int .i64 a, .int .i64 b] w fun e w' => e = .returned (.bool true) ∧ Below w.heap.size w w' :=
  none_of a b w 100 (by decide) h (by kernel_rfl)
theorem none_101 (a b : Int) (w : World) (h : evB2 .and .i64 b .i64 ((2 ^ 8 - 1 : Nat) : Int) = some (.int .i64 (101 : Nat))) : Calls Try.prog 4 #[.int .i64 a, .int .i64 b] w fun e w' => e = .returned (.bool true) ∧ Below w.heap.size w w' :=
  none_of a b w 101 (by decide) h (by kernel_rfl)
theorem none_102 (a b : Int) (w : World) (h : evB2 .and .i64 b .i64 ((2 ^ 8 - 1 : Nat) : Int) = some (.int .i64 (102 : Nat))) : Calls Try.prog 4 #[.int .i64 a, .int .i64 b] w fun e w' => e = .returned (.bool true) ∧ Below w.heap.size w w' :=
  none_of a b w 102 (by decide) h (by kernel_rfl)
theorem none_103 (a b : Int) (w : World) (h : evB2 .and .i64 b .i64 ((2 ^ 8 - 1 : Nat) : Int) = some (.int .i64 (103 : Nat))) : Calls Try.prog 4 #[.int .i64 a, .int .i64 b] w fun e w' => e = .returned (.bool true) ∧ Below w.heap.size w w' :=
  none_of a b w 103 (by decide) h (by kernel_rfl)
theorem none_104 (a b : Int) (w : World) (h : evB2 .and .i64 b .i64 ((2 ^ 8 - 1 : Nat) : Int) = some (.int .i64 (104 : Nat))) : Calls Try.prog 4 #[.int .i64 a, .int .i64 b] w fun e w' => e = .returned (.bool true) ∧ Below w.heap.size w w' :=
  none_of a b w 104 (by decide) h (by kernel_rfl)
theorem none_105 (a b : Int) (w : World) (h : evB2 .and .i64 b .i64 ((2 ^ 8 - 1 : Nat) : Int) = some (.int .i64 (105 : Nat))) : Calls Try.prog 4 #[.int .i64 a, .int .i64 b] w fun e w' => e = .returned (.bool true) ∧ Below w.heap.size w w' :=
  none_of a b w 105 (by decide) h (by kernel_rfl)
theorem none_106 (a b : Int) (w : World) (h : evB2 .and .i64 b .i64 ((2 ^ 8 - 1 : Nat) : Int) = some (.int .i64 (106 : Nat))) : Calls Try.prog 4 #[.int .i64 a, .int .i64 b] w fun e w' => e = .returned (.bool true) ∧ Below w.heap.size w w' :=
  none_of a b w 106 (by decide) h (by kernel_rfl)
theorem none_107 (a b : Int) (w : World) (h : evB2 .and .i64 b .i64 ((2 ^ 8 - 1 : Nat) : Int) = some (.int .i64 (107 : Nat))) : Calls Try.prog 4 #[.int .i64 a, .int .i64 b] w fun e w' => e = .returned (.bool true) ∧ Below w.heap.size w w' :=
  none_of a b w 107 (by decide) h (by kernel_rfl)
theorem none_108 (a b : Int) (w : World) (h : evB2 .and .i64 b .i64 ((2 ^ 8 - 1 : Nat) : Int) = some (.int .i64 (108 : Nat))) : Calls Try.prog 4 #[.int .i64 a, .int .i64 b] w fun e w' => e = .returned (.bool true) ∧ Below w.heap.size w w' :=
  none_of a b w 108 (by decide) h (by kernel_rfl)
theorem none_109 (a b : Int) (w : World) (h : evB2 .and .i64 b .i64 ((2 ^ 8 - 1 : Nat) : Int) = some (.int .i64 (109 : Nat))) : Calls Try.prog 4 #[.int .i64 a, .int .i64 b] w fun e w' => e = .returned (.bool true) ∧ Below w.heap.size w w' :=
  none_of a b w 109 (by decide) h (by kernel_rfl)
theorem none_110 (a b : Int) (w : World) (h : evB2 .and .i64 b .i64 ((2 ^ 8 - 1 : Nat) : Int) = some (.int .i64 (110 : Nat))) : Calls Try.prog 4 #[.int .i64 a, .int .i64 b] w fun e w' => e = .returned (.bool true) ∧ Below w.heap.size w w' :=
  none_of a b w 110 (by decide) h (by kernel_rfl)
theorem none_111 (a b : Int) (w : World) (h : evB2 .and .i64 b .i64 ((2 ^ 8 - 1 : Nat) : Int) = some (.int .i64 (111 : Nat))) : Calls Try.prog 4 #[.int .i64 a, .int .i64 b] w fun e w' => e = .returned (.bool true) ∧ Below w.heap.size w w' :=
  none_of a b w 111 (by decide) h (by kernel_rfl)
theorem none_112 (a b : Int) (w : World) (h : evB2 .and .i64 b .i64 ((2 ^ 8 - 1 : Nat) : Int) = some (.int .i64 (112 : Nat))) : Calls Try.prog 4 #[.int .i64 a, .int .i64 b] w fun e w' => e = .returned (.bool true) ∧ Below w.heap.size w w' :=
  none_of a b w 112 (by decide) h (by kernel_rfl)
theorem none_113 (a b : Int) (w : World) (h : evB2 .and .i64 b .i64 ((2 ^ 8 - 1 : Nat) : Int) = some (.int .i64 (113 : Nat))) : Calls Try.prog 4 #[.int .i64 a, .int .i64 b] w fun e w' => e = .returned (.bool true) ∧ Below w.heap.size w w' :=
  none_of a b w 113 (by decide) h (by kernel_rfl)
theorem none_114 (a b : Int) (w : World) (h : evB2 .and .i64 b .i64 ((2 ^ 8 - 1 : Nat) : Int) = some (.int .i64 (114 : Nat))) : Calls Try.prog 4 #[.int .i64 a, .int .i64 b] w fun e w' => e = .returned (.bool true) ∧ Below w.heap.size w w' :=
  none_of a b w 114 (by decide) h (by kernel_rfl)
theorem none_115 (a b : Int) (w : World) (h : evB2 .and .i64 b .i64 ((2 ^ 8 - 1 : Nat) : Int) = some (.int .i64 (115 : Nat))) : Calls Try.prog 4 #[.int .i64 a, .int .i64 b] w fun e w' => e = .returned (.bool true) ∧ Below w.heap.size w w' :=
  none_of a b w 115 (by decide) h (by kernel_rfl)
theorem none_116 (a b : Int) (w : World) (h : evB2 .and .i64 b .i64 ((2 ^ 8 - 1 : Nat) : Int) = some (.int .i64 (116 : Nat))) : Calls Try.prog 4 #[.int .i64 a, .int .i64 b] w fun e w' => e = .returned (.bool true) ∧ Below w.heap.size w w' :=
  none_of a b w 116 (by decide) h (by kernel_rfl)
theorem none_117 (a b : Int) (w : World) (h : evB2 .and .i64 b .i64 ((2 ^ 8 - 1 : Nat) : Int) = some (.int .i64 (117 : Nat))) : Calls Try.prog 4 #[.int .i64 a, .int .i64 b] w fun e w' => e = .returned (.bool true) ∧ Below w.heap.size w w' :=
  none_of a b w 117 (by decide) h (by kernel_rfl)
theorem none_118 (a b : Int) (w : World) (h : evB2 .and .i64 b .i64 ((2 ^ 8 - 1 : Nat) : Int) = some (.int .i64 (118 : Nat))) : Calls Try.prog 4 #[.int .i64 a, .int .i64 b] w fun e w' => e = .returned (.bool true) ∧ Below w.heap.size w w' :=
  none_of a b w 118 (by decide) h (by kernel_rfl)
theorem none_119 (a b : Int) (w : World) (h : evB2 .and .i64 b .i64 ((2 ^ 8 - 1 : Nat) : Int) = some (.int .i64 (119 : Nat))) : Calls Try.prog 4 #[.int .i64 a, .int .i64 b] w fun e w' => e = .returned (.bool true) ∧ Below w.heap.size w w' :=
  none_of a b w 119 (by decide) h (by kernel_rfl)
theorem none_120 (a b : Int) (w : World) (h : evB2 .and .i64 b .i64 ((2 ^ 8 - 1 : Nat) : Int) = some (.int .i64 (120 : Nat))) : Calls Try.prog 4 #[.int .i64 a, .int .i64 b] w fun e w' => e = .returned (.bool true) ∧ Below w.heap.size w w' :=
  none_of a b w 120 (by decide) h (by kernel_rfl)
theorem none_121 (a b : Int) (w : World) (h : evB2 .and .i64 b .i64 ((2 ^ 8 - 1 : Nat) : Int) = some (.int .i64 (121 : Nat))) : Calls Try.prog 4 #[.int .i64 a, .int .i64 b] w fun e w' => e = .returned (.bool true) ∧ Below w.heap.size w w' :=
  none_of a b w 121 (by decide) h (by kernel_rfl)
theorem none_122 (a b : Int) (w : World) (h : evB2 .and .i64 b .i64 ((2 ^ 8 - 1 : Nat) : Int) = some (.int .i64 (122 : Nat))) : Calls Try.prog 4 #[.int .i64 a, .int .i64 b] w fun e w' => e = .returned (.bool true) ∧ Below w.heap.size w w' :=
  none_of a b w 122 (by decide) h (by kernel_rfl)
theorem none_123 (a b : Int) (w : World) (h : evB2 .and .i64 b .i64 ((2 ^ 8 - 1 : Nat) : Int) = some (.int .i64 (123 : Nat))) : Calls Try.prog 4 #[.int .i64 a, .int .i64 b] w fun e w' => e = .returned (.bool true) ∧ Below w.heap.size w w' :=
  none_of a b w 123 (by decide) h (by kernel_rfl)
theorem none_124 (a b : Int) (w : World) (h : evB2 .and .i64 b .i64 ((2 ^ 8 - 1 : Nat) : Int) = some (.int .i64 (124 : Nat))) : Calls Try.prog 4 #[.int .i64 a, .int .i64 b] w fun e w' => e = .returned (.bool true) ∧ Below w.heap.size w w' :=
  none_of a b w 124 (by decide) h (by kernel_rfl)
theorem none_125 (a b : Int) (w : World) (h : evB2 .and .i64 b .i64 ((2 ^ 8 - 1 : Nat) : Int) = some (.int .i64 (125 : Nat))) : Calls Try.prog 4 #[.int .i64 a, .int .i64 b] w fun e w' => e = .returned (.bool true) ∧ Below w.heap.size w w' :=
  none_of a b w 125 (by decide) h (by kernel_rfl)
theorem none_126 (a b : Int) (w : World) (h : evB2 .and .i64 b .i64 ((2 ^ 8 - 1 : Nat) : Int) = some (.int .i64 (126 : Nat))) : Calls Try.prog 4 #[.int .i64 a, .int .i64 b] w fun e w' => e = .returned (.bool true) ∧ Below w.heap.size w w' :=
  none_of a b w 126 (by decide) h (by kernel_rfl)
theorem none_127 (a b : Int) (w : World) (h : evB2 .and .i64 b .i64 ((2 ^ 8 - 1 : Nat) : Int) = some (.int .i64 (127 : Nat))) : Calls Try.prog 4 #[.int .i64 a, .int .i64 b] w fun e w' => e = .returned (.bool true) ∧ Below w.heap.size w w' :=
  none_of a b w 127 (by decide) h (by kernel_rfl)
theorem nones_64 (a b : Int) (w : World) (q : Nat) (h1 : 64 ≤ q) (h2 : q < 80) (h : evB2 .and .i64 b .i64 ((2 ^ 8 - 1 : Nat) : Int) = some (.int .i64 (q : Nat))) : Calls Try.prog 4 #[.int .i64 a, .int .i64 b] w fun e w' => e = .returned (.bool true) ∧ Below w.heap.size w w' := by
  have hc : q = 64 ∨ q = 65 ∨ q = 66 ∨ q = 67 ∨ q = 68 ∨ q = 69 ∨ q = 70 ∨ q = 71 ∨ q = 72 ∨ q = 73 ∨ q = 74 ∨ q = 75 ∨ q = 76 ∨ q = 77 ∨ q = 78 ∨ q = 79 := by omega
  clear h1 h2
  rcases hc with rfl | rfl | rfl | rfl | rfl | rfl | rfl | rfl | rfl | rfl | rfl | rfl | rfl | rfl | rfl | rfl
  · exact none_64 a b w h
  · exact none_65 a b w h
  · exact none_66 a b w h
  · exact none_67 a b w h
  · exact none_68 a b w h
  · exact none_69 a b w h
  · exact none_70 a b w h
  · exact none_71 a b w h
  · exact none_72 a b w h
  · exact none_73 a b w h
  · exact none_74 a b w h
  · exact none_75 a b w h
  · exact none_76 a b w h
  · exact none_77 a b w h
  · exact none_78 a b w h
  · exact none_79 a b w h
theorem nones_80 (a b : Int) (w : World) (q : Nat) (h1 : 80 ≤ q) (h2 : q < 96) (h : evB2 .and .i64 b .i64 ((2 ^ 8 - 1 : Nat) : Int) = some (.int .i64 (q : Nat))) : Calls Try.prog 4 #[.int .i64 a, .int .i64 b] w fun e w' => e = .returned (.bool true) ∧ Below w.heap.size w w' := by
  have hc : q = 80 ∨ q = 81 ∨ q = 82 ∨ q = 83 ∨ q = 84 ∨ q = 85 ∨ q = 86 ∨ q = 87 ∨ q = 88 ∨ q = 89 ∨ q = 90 ∨ q = 91 ∨ q = 92 ∨ q = 93 ∨ q = 94 ∨ q = 95 := by omega
  clear h1 h2
  rcases hc with rfl | rfl | rfl | rfl | rfl | rfl | rfl | rfl | rfl | rfl | rfl | rfl | rfl | rfl | rfl | rfl
  · exact none_80 a b w h
  · exact none_81 a b w h
  · exact none_82 a b w h
  · exact none_83 a b w h
  · exact none_84 a b w h
  · exact none_85 a b w h
  · exact none_86 a b w h
  · exact none_87 a b w h
  · exact none_88 a b w h
  · exact none_89 a b w h
  · exact none_90 a b w h
  · exact none_91 a b w h
  · exact none_92 a b w h
  · exact none_93 a b w h
  · exact none_94 a b w h
  · exact none_95 a b w h
theorem nones_96 (a b : Int) (w : World) (q : Nat) (h1 : 96 ≤ q) (h2 : q < 112) (h : evB2 .and .i64 b .i64 ((2 ^ 8 - 1 : Nat) : Int) = some (.int .i64 (q : Nat))) : Calls Try.prog 4 #[.int .i64 a, .int .i64 b] w fun e w' => e = .returned (.bool true) ∧ Below w.heap.size w w' := by
  have hc : q = 96 ∨ q = 97 ∨ q = 98 ∨ q = 99 ∨ q = 100 ∨ q = 101 ∨ q = 102 ∨ q = 103 ∨ q = 104 ∨ q = 105 ∨ q = 106 ∨ q = 107 ∨ q = 108 ∨ q = 109 ∨ q = 110 ∨ q = 111 := by omega
  clear h1 h2
  rcases hc with rfl | rfl | rfl | rfl | rfl | rfl | rfl | rfl | rfl | rfl | rfl | rfl | rfl | rfl | rfl | rfl
  · exact none_96 a b w h
  · exact none_97 a b w h
  · exact none_98 a b w h
  · exact none_99 a b w h
  · exact none_100 a b w h
  · exact none_101 a b w h
  · exact none_102 a b w h
  · exact none_103 a b w h
  · exact none_104 a b w h
  · exact none_105 a b w h
  · exact none_106 a b w h
  · exact none_107 a b w h
  · exact none_108 a b w h
  · exact none_109 a b w h
  · exact none_110 a b w h
  · exact none_111 a b w h
theorem nones_112 (a b : Int) (w : World) (q : Nat) (h1 : 112 ≤ q) (h2 : q < 128) (h : evB2 .and .i64 b .i64 ((2 ^ 8 - 1 : Nat) : Int) = some (.int .i64 (q : Nat))) : Calls Try.prog 4 #[.int .i64 a, .int .i64 b] w fun e w' => e = .returned (.bool true) ∧ Below w.heap.size w w' := by
  have hc : q = 112 ∨ q = 113 ∨ q = 114 ∨ q = 115 ∨ q = 116 ∨ q = 117 ∨ q = 118 ∨ q = 119 ∨ q = 120 ∨ q = 121 ∨ q = 122 ∨ q = 123 ∨ q = 124 ∨ q = 125 ∨ q = 126 ∨ q = 127 := by omega
  clear h1 h2
  rcases hc with rfl | rfl | rfl | rfl | rfl | rfl | rfl | rfl | rfl | rfl | rfl | rfl | rfl | rfl | rfl | rfl
  · exact none_112 a b w h
  · exact none_113 a b w h
  · exact none_114 a b w h
  · exact none_115 a b w h
  · exact none_116 a b w h
  · exact none_117 a b w h
  · exact none_118 a b w h
  · exact none_119 a b w h
  · exact none_120 a b w h
  · exact none_121 a b w h
  · exact none_122 a b w h
  · exact none_123 a b w h
  · exact none_124 a b w h
  · exact none_125 a b w h
  · exact none_126 a b w h
  · exact none_127 a b w h
end Go.Proofs.Ytilljobnaoefiaa
