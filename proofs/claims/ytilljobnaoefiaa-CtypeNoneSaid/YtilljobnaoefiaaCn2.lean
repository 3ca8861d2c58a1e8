/- CtypeNone: runs, part 2. No condition. -/
import Derived.Test.YtilljobnaoefiaaCn
namespace Go.Proofs.Ytilljobnaoefiaa
open Go.RowKit
set_option linter.unusedVariables false
theorem none_128 (a b : Int) (w : World) (h : evB2 .and .i64 b .i64 ((2 ^ 8 - 1 : Nat) : Int) = some (.int .i64 (128 : Nat))) : Calls Try.prog 4 #[.int .i64 a, .int .i64 b] w fun e w' => e = .returned (.bool true) ∧ Below w.heap.size w w' :=
  none_of a b w 128 (by decide) h (by kernel_rfl)
theorem none_129 (a b : Int) (w : World) (h : evB2 .and .i64 b .i64 ((2 ^ 8 - 1 : Nat) : Int) = some (.int .i64 (129 : Nat))) : Calls Try.prog 4 #[.int .i64 a, .int .i64 b] w fun e w' => e = .returned (.bool true) ∧ Below w.heap.size w w' :=
  none_of a b w 129 (by decide) h (by kernel_rfl)
theorem none_130 (a b : Int) (w : World) (h : evB2 .and .i64 b .i64 ((2 ^ 8 - 1 : Nat) : Int) = some (.int .i64 (130 : Nat))) : Calls Try.prog 4 #[.int .i64 a, .int .i64 b] w fun e w' => e = .returned (.bool true) ∧ Below w.heap.size w w' :=
  none_of a b w 130 (by decide) h (by kernel_rfl)
theorem none_131 (a b : Int) (w : World) (h : evB2 .and .i64 b .i64 ((2 ^ 8 - 1 : Nat) : Int) = some (.int .i64 (131 : Nat))) : Calls Try.prog 4 #[.int .i64 a, .int .i64 b] w fun e w' => e = .returned (.bool true) ∧ Below w.heap.size w w' :=
  none_of a b w 131 (by decide) h (by kernel_rfl)
theorem none_132 (a b : Int) (w : World) (h : evB2 .and .i64 b .i64 ((2 ^ 8 - 1 : Nat) : Int) = some (.int .i64 (132 : Nat))) : Calls Try.prog 4 #[.int .i64 a, .int .i64 b] w fun e w' => e = .returned (.bool true) ∧ Below w.heap.size w w' :=
  none_of a b w 132 (by decide) h (by kernel_rfl)
theorem none_133 (a b : Int) (w : World) (h : evB2 .and .i64 b .i64 ((2 ^ 8 - 1 : Nat) : Int) = some (.int .i64 (133 : Nat))) : Calls Try.prog 4 #[.int .i64 a, .int .i64 b] w fun e w' => e = .returned (.bool true) ∧ Below w.heap.size w w' :=
  none_of a b w 133 (by decide) h (by kernel_rfl)
theorem none_134 (a b : Int) (w : World) (h : evB2 .and .i64 b .i64 ((2 ^ 8 - 1 : Nat) : Int) = some (.int .i64 (134 : Nat))) : Calls Try.prog 4 #[.int .i64 a, .int .i64 b] w fun e w' => e = .returned (.bool true) ∧ Below w.heap.size w w' :=
  none_of a b w 134 (by decide) h (by kernel_rfl)
theorem none_135 (a b : Int) (w : World) (h : evB2 .and .i64 b .i64 ((2 ^ 8 - 1 : Nat) : Int) = some (.int .i64 (135 : Nat))) : Calls Try.prog 4 #[.int .i64 a, .int .i64 b] w fun e w' => e = .returned (.bool true) ∧ Below w.heap.size w w' :=
  none_of a b w 135 (by decide) h (by kernel_rfl)
theorem none_136 (a b : Int) (w : World) (h : evB2 .and .i64 b .i64 ((2 ^ 8 - 1 : Nat) : Int) = some (.int .i64 (136 : Nat))) : Calls Try.prog 4 #[.int .i64 a, .int .i64 b] w fun e w' => e = .returned (.bool true) ∧ Below w.heap.size w w' :=
  none_of a b w 136 (by decide) h (by kernel_rfl)
theorem none_137 (a b : Int) (w : World) (h : evB2 .and .i64 b .i64 ((2 ^ 8 - 1 : Nat) : Int) = some (.int .i64 (137 : Nat))) : Calls Try.prog 4 #[.int .i64 a, .int .i64 b] w fun e w' => e = .returned (.bool true) ∧ Below w.heap.size w w' :=
  none_of a b w 137 (by decide) h (by kernel_rfl)
theorem none_138 (a b : Int) (w : World) (h : evB2 .and .i64 b .i64 ((2 ^ 8 - 1 : Nat) : Int) = some (.int .i64 (138 : Nat))) : Calls Try.prog 4 #[.int .i64 a, .int .i64 b] w fun e w' => e = .returned (.bool true) ∧ Below w.heap.size w w' :=
  none_of a b w 138 (by decide) h (by kernel_rfl)
theorem none_139 (a b : Int) (w : World) (h : evB2 .and .i64 b .i64 ((2 ^ 8 - 1 : Nat) : Int) = some (.int .i64 (139 : Nat))) : Calls Try.prog 4 #[.int .i64 a, .int .i64 b] w fun e w' => e = .returned (.bool true) ∧ Below w.heap.size w w' :=
  none_of a b w 139 (by decide) h (by kernel_rfl)
theorem none_140 (a b : Int) (w : World) (h : evB2 .and .i64 b .i64 ((2 ^ 8 - 1 : Nat) : Int) = some (.int .i64 (140 : Nat))) : Calls Try.prog 4 #[.int .i64 a, .int .i64 b] w fun e w' => e = .returned (.bool true) ∧ Below w.heap.size w w' :=
  none_of a b w 140 (by decide) h (by kernel_rfl)
theorem none_141 (a b : Int) (w : World) (h : evB2 .and .i64 b .i64 ((2 ^ 8 - 1 : Nat) : Int) = some (.int .i64 (141 : Nat))) : Calls Try.prog 4 #[.int .i64 a, .int .i64 b] w fun e w' => e = .returned (.bool true) ∧ Below w.heap.size w w' :=
  none_of a b w 141 (by decide) h (by kernel_rfl)
theorem none_142 (a b : Int) (w : World) (h : evB2 .and .i64 b .i64 ((2 ^ 8 - 1 : Nat) : Int) = some (.int .i64 (142 : Nat))) : Calls Try.prog 4 #[.int .i64 a, .int .i64 b] w fun e w' => e = .returned (.bool true) ∧ Below w.heap.size w w' :=
  none_of a b w 142 (by decide) h (by kernel_rfl)
theorem none_143 (a b : Int) (w : World) (h : evB2 .and .i64 b .i64 ((2 ^ 8 - 1 : Nat) : Int) = some (.int .i64 (143 : Nat))) : Calls Try.prog 4 #[.int .i64 a, .int .i64 b] w fun e w' => e = .returned (.bool true) ∧ Below w.heap.size w w' :=
  none_of a b w 143 (by decide) h (by kernel_rfl)
theorem none_144 (a b : Int) (w : World) (h : evB2 .and .i64 b .i64 ((2 ^ 8 - 1 : Nat) : Int) = some (.int .i64 (144 : Nat))) : Calls Try.prog 4 #[.int .i64 a, .int .i64 b] w fun e w' => e = .returned (.bool true) ∧ Below w.heap.size w w' :=
  none_of a b w 144 (by decide) h (by kernel_rfl)
theorem none_145 (a b : Int) (w : World) (h : evB2 .and .i64 b .i64 ((2 ^ 8 - 1 : Nat) : Int) = some (.int .i64 (145 : Nat))) : Calls Try.prog 4 #[.int .i64 a, .int .i64 b] w fun e w' => e = .returned (.bool true) ∧ Below w.heap.size w w' :=
  none_of a b w 145 (by decide) h (by kernel_rfl)
theorem none_146 (a b : Int) (w : World) (h : evB2 .and .i64 b .i64 ((2 ^ 8 - 1 : Nat) : Int) = some (.int .i64 (146 : Nat))) : Calls Try.prog 4 #[.int .i64 a, .int .i64 b] w fun e w' => e = .returned (.bool true) ∧ Below w.heap.size w w' :=
  none_of a b w 146 (by decide) h (by kernel_rfl)
theorem none_147 (a b : Int) (w : World) (h : evB2 .and .i64 b .i64 ((2 ^ 8 - 1 : Nat) : Int) = some (.int .i64 (147 : Nat))) : Calls Try.prog 4 #[.int .i64 a, .int .i64 b] w fun e w' => e = .returned (.bool true) ∧ Below w.heap.size w w' :=
  none_of a b w 147 (by decide) h (by kernel_rfl)
theorem none_148 (a b : Int) (w : World) (h : evB2 .and .i64 b .i64 ((2 ^ 8 - 1 : Nat) : Int) = some (.int .i64 (148 : Nat))) : Calls Try.prog 4 #[.int .i64 a, .int .i64 b] w fun e w' => e = .returned (.bool true) ∧ Below w.heap.size w w' :=
  none_of a b w 148 (by decide) h (by kernel_rfl)
theorem none_149 (a b : Int) (w : World) (h : evB2 .and .i64 b .i64 ((2 ^ 8 - 1 : Nat) : Int) = some (.int .i64 (149 : Nat))) : Calls Try.prog 4 #[.int .i64 a, .int .i64 b] w fun e w' => e = .returned (.bool true) ∧ Below w.heap.size w w' :=
  none_of a b w 149 (by decide) h (by kernel_rfl)
theorem none_150 (a b : Int) (w : World) (h : evB2 .and .i64 b .i64 ((2 ^ 8 - 1 : Nat) : Int) = some (.int .i64 (150 : Nat))) : Calls Try.prog 4 #[.int .i64 a, .int .i64 b] w fun e w' => e = .returned (.bool true) ∧ Below w.heap.size w w' :=
  none_of a b w 150 (by decide) h (by kernel_rfl)
theorem none_151 (a b : Int) (w : World) (h : evB2 .and .i64 b .i64 ((2 ^ 8 - 1 : Nat) : Int) = some (.int .i64 (151 : Nat))) : Calls Try.prog 4 #[.int .i64 a, .int .i64 b] w fun e w' => e = .returned (.bool true) ∧ Below w.heap.size w w' :=
  none_of a b w 151 (by decide) h (by kernel_rfl)
theorem none_152 (a b : Int) (w : World) (h : evB2 .and .i64 b .i64 ((2 ^ 8 - 1 : Nat) : Int) = some (.int .i64 (152 : Nat))) : Calls Try.prog 4 #[.int .i64 a, .int .i64 b] w fun e w' => e = .returned (.bool true) ∧ Below w.heap.size w w' :=
  none_of a b w 152 (by decide) h (by kernel_rfl)
theorem none_153 (a b : Int) (w : World) (h : evB2 .and .i64 b .i64 ((2 ^ 8 - 1 : Nat) : Int) = some (.int .i64 (153 : Nat))) : Calls Try.prog 4 #[.int .i64 a, .int .i64 b] w fun e w' => e = .returned (.bool true) ∧ Below w.heap.size w w' :=
  none_of a b w 153 (by decide) h (by kernel_rfl)
theorem none_154 (a b : Int) (w : World) (h : evB2 .and .i64 b .i64 ((2 ^ 8 - 1 : Nat) : Int) = some (.int .i64 (154 : Nat))) : Calls Try.prog 4 #[.int .i64 a, .int .i64 b] w fun e w' => e = .returned (.bool true) ∧ Below w.heap.size w w' :=
  none_of a b w 154 (by decide) h (by kernel_rfl)
theorem none_155 (a b : Int) (w : World) (h : evB2 .and .i64 b .i64 ((2 ^ 8 - 1 : Nat) : Int) = some (.int .i64 (155 : Nat))) : Calls Try.prog 4 #[.int .i64 a, .int .i64 b] w fun e w' => e = .returned (.bool true) ∧ Below w.heap.size w w' :=
  none_of a b w 155 (by decide) h (by kernel_rfl)
theorem none_156 (a b : Int) (w : World) (h : evB2 .and .i64 b .i64 ((2 ^ 8 - 1 : Nat) : Int) = some (.int .i64 (156 : Nat))) : Calls Try.prog 4 #[.int .i64 a, .int .i64 b] w fun e w' => e = .returned (.bool true) ∧ Below w.heap.size w w' :=
  none_of a b w 156 (by decide) h (by kernel_rfl)
theorem none_157 (a b : Int) (w : World) (h : evB2 .and .i64 b .i64 ((2 ^ 8 - 1 : Nat) : Int) = some (.int .i64 (157 : Nat))) : Calls Try.prog 4 #[.int .i64 a, .int .i64 b] w fun e w' => e = .returned (.bool true) ∧ Below w.heap.size w w' :=
  none_of a b w 157 (by decide) h (by kernel_rfl)
theorem none_158 (a b : Int) (w : World) (h : evB2 .and .i64 b .i64 ((2 ^ 8 - 1 : Nat) : Int) = some (.int .i64 (158 : Nat))) : Calls Try.prog 4 #[.int .i64 a, .int .i64 b] w fun e w' => e = .returned (.bool true) ∧ Below w.heap.size w w' :=
  none_of a b w 158 (by decide) h (by kernel_rfl)
theorem none_159 (a b : Int) (w : World) (h : evB2 .and .i64 b .i64 ((2 ^ 8 - 1 : Nat) : Int) = some (.int .i64 (159 : Nat))) : Calls Try.prog 4 #[.int .i64 a, .int .i64 b] w fun e w' => e = .returned (.bool true) ∧ Below w.heap.size w w' :=
  none_of a b w 159 (by decide) h (by kernel_rfl)
theorem none_160 (a b : Int) (w : World) (h : evB2 .and .i64 b .i64 ((2 ^ 8 - 1 : Nat) : Int) = some (.int .i64 (160 : Nat))) : Calls Try.prog 4 #[.int .i64 a, .int .i64 b] w fun e w' => e = .returned (.bool true) ∧ Below w.heap.size w w' :=
  none_of a b w 160 (by decide) h (by kernel_rfl)
theorem none_161 (a b : Int) (w : World) (h : evB2 .and .i64 b .i64 ((2 ^ 8 - 1 : Nat) : Int) = some (.int .i64 (161 : Nat))) : Calls Try.prog 4 #[.int .i64 a, .int .i64 b] w fun e w' => e = .returned (.bool true) ∧ Below w.heap.size w w' :=
  none_of a b w 161 (by decide) h (by kernel_rfl)
theorem none_162 (a b : Int) (w : World) (h : evB2 .and .i64 b .i64 ((2 ^ 8 - 1 : Nat) : Int) = some (.int .i64 (162 : Nat))) : Calls Try.prog 4 #[.int .i64 a, .int .i64 b] w fun e w' => e = .returned (.bool true) ∧ Below w.heap.size w w' :=
  none_of a b w 162 (by decide) h (by kernel_rfl)
theorem none_163 (a b : Int) (w : World) (h : evB2 .and .i64 b .i64 ((2 ^ 8 - 1 : Nat) : Int) = some (.int .i64 (163 : Nat))) : Calls Try.prog 4 #[.int .i64 a, .int .i64 b] w fun e w' => e = .returned (.bool true) ∧ Below w.heap.size w w' :=
  none_of a b w 163 (by decide) h (by kernel_rfl)
theorem none_164 (a b : Int) (w : World) (h : evB2 .and .i64 b .i64 ((2 ^ 8 - 1 : Nat) : Int) = some (.int .i64 (164 : Nat))) : Calls Try.prog 4 #[.int .i64 a, .int .i64 b] w fun e w' => e = .returned (.bool true) ∧ Below w.heap.size w w' :=
  none_of a b w 164 (by decide) h (by kernel_rfl)
theorem none_165 (a b : Int) (w : World) (h : evB2 .and .i64 b .i64 ((2 ^ 8 - 1 : Nat) : Int) = some (.int .i64 (165 : Nat))) : Calls Try.prog 4 #[.int .i64 a, .int .i64 b] w fun e w' => e = .returned (.bool true) ∧ Below w.heap.size w w' :=
  none_of a b w 165 (by decide) h (by kernel_rfl)
theorem none_166 (a b : Int) (w : World) (h : evB2 .and .i64 b .i64 ((2 ^ 8 - 1 : Nat) : Int) = some (.int .i64 (166 : Nat))) : Calls Try.prog 4 #[.int .i64 a, .int .i64 b] w fun e w' => e = .returned (.bool true) ∧ Below w.heap.size w w' :=
  none_of a b w 166 (by decide) h (by kernel_rfl)
theorem none_167 (a b : Int) (w : World) (h : evB2 .and .i64 b .i64 ((2 ^ 8 - 1 : Nat) : Int) = some (.int .i64 (167 : Nat))) : Calls Try.prog 4 #[.int .i64 a, .int .i64 b] w fun e w' => e = .returned (.bool true) ∧ Below w.heap.size w w' :=
  none_of a b w 167 (by decide) h (by kernel_rfl)
theorem none_168 (a b : Int) (w : World) (h : evB2 .and .i64 b .i64 ((2 ^ 8 - 1 : Nat) : Int) = some (.int .i64 (168 : Nat))) : Calls Try.prog 4 #[.int .i64 a, .int .i64 b] w fun e w' => e = .returned (.bool true) ∧ Below w.heap.size w w' :=
  none_of a b w 168 (by decide) h (by kernel_rfl)
theorem none_169 (a b : Int) (w : World) (h : evB2 .and .i64 b .i64 ((2 ^ 8 - 1 : Nat) : Int) = some (.int .i64 (169 : Nat))) : Calls Try.prog 4 #[.int .i64 a, .int .i64 b] w fun e w' => e = .returned (.bool true) ∧ Below w.heap.size w w' :=
  none_of a b w 169 (by decide) h (by kernel_rfl)
theorem none_170 (a b : Int) (w : World) (h : evB2 .and .i64 b .i64 ((2 ^ 8 - 1 : Nat) : Int) = some (.int .i64 (170 : Nat))) : Calls Try.prog 4 #[.int .i64 a, .int .i64 b] w fun e w' => e = .returned (.bool true) ∧ Below w.heap.size w w' :=
  none_of a b w 170 (by decide) h (by kernel_rfl)
theorem none_171 (a b : Int) (w : World) (h : evB2 .and .i64 b .i64 ((2 ^ 8 - 1 : Nat) : Int) = some (.int .i64 (171 : Nat))) : Calls Try.prog 4 #[.int .i64 a, .int .i64 b] w fun e w' => e = .returned (.bool true) ∧ Below w.heap.size w w' :=
  none_of a b w 171 (by decide) h (by kernel_rfl)
theorem none_172 (a b : Int) (w : World) (h : evB2 .and .i64 b .i64 ((2 ^ 8 - 1 : Nat) : Int) = some (.int .i64 (172 : Nat))) : Calls Try.prog 4 #[.int .i64 a, .int .i64 b] w fun e w' => e = .returned (.bool true) ∧ Below w.heap.size w w' :=
  none_of a b w 172 (by decide) h (by kernel_rfl)
theorem none_173 (a b : Int) (w : World) (h : evB2 .and .i64 b .i64 ((2 ^ 8 - 1 : Nat) : Int) = some (.int .i64 (173 : Nat))) : Calls Try.prog 4 #[.int .i64 a, .int .i64 b] w fun e w' => e = .returned (.bool true) ∧ Below w.heap.size w w' :=
  none_of a b w 173 (by decide) h (by kernel_rfl)
theorem none_174 (a b : Int) (w : World) (h : evB2 .and .i64 b .i64 ((2 ^ 8 - 1 : Nat) : Int) = some (.int .i64 (174 : Nat))) : Calls Try.prog 4 #[.int .i64 a, .int .i64 b] w fun e w' => e = .returned (.bool true) ∧ Below w.heap.size w w' :=
  none_of a b w 174 (by decide) h (by kernel_rfl)
theorem none_175 (a b : Int) (w : World) (h : evB2 .and .i64 b .i64 ((2 ^ 8 - 1 : Nat) : Int) = some (.int .i64 (175 : Nat))) : Calls Try.prog 4 #[.int .i64 a, .int .i64 b] w fun e w' => e = .returned (.bool true) ∧ Below w.heap.size w w' :=
  none_of a b w 175 (by decide) h (by kernel_rfl)
theorem none_176 (a b : Int) (w : World) (h : evB2 .and .i64 b .i64 ((2 ^ 8 - 1 : Nat) : Int) = some (.int .i64 (176 : Nat))) : Calls Try.prog 4 #[.int .i64 a, .int .i64 b] w fun e w' => e = .returned (.bool true) ∧ Below w.heap.size w w' :=
  none_of a b w 176 (by decide) h (by kernel_rfl)
theorem none_177 (a b : Int) (w : World) (h : evB2 .and .i64 b .i64 ((2 ^ 8 - 1 : Nat) : Int) = some (.int .i64 (177 : Nat))) : Calls Try.prog 4 #[.int .i64 a, .int .i64 b] w fun e w' => e = .returned (.bool true) ∧ Below w.heap.size w w' :=
  none_of a b w 177 (by decide) h (by kernel_rfl)
theorem none_178 (a b : Int) (w : World) (h : evB2 .and .i64 b .i64 ((2 ^ 8 - 1 : Nat) : Int) = some (.int .i64 (178 : Nat))) : Calls Try.prog 4 #[.int .i64 a, .int .i64 b] w fun e w' => e = .returned (.bool true) ∧ Below w.heap.size w w' :=
  none_of a b w 178 (by decide) h (by kernel_rfl)
theorem none_179 (a b : Int) (w : World) (h : evB2 .and .i64 b .i64 ((2 ^ 8 - 1 : Nat) : Int) = some (.int .i64 (179 : Nat))) : Calls Try.prog 4 #[.int .i64 a, .int .i64 b] w fun e w' => e = .returned (.bool true) ∧ Below w.heap.size w w' :=
  none_of a b w 179 (by decide) h (by kernel_rfl)
theorem none_180 (a b : Int) (w : World) (h : evB2 .and .i64 b .i64 ((2 ^ 8 - 1 : Nat) : Int) = some (.int .i64 (180 : Nat))) : Calls Try.prog 4 #[.int .i64 a, .int .i64 b] w fun e w' => e = .returned (.bool true) ∧ Below w.heap.size w w' :=
  none_of a b w 180 (by decide) h (by kernel_rfl)
theorem none_181 (a b : Int) (w : World) (h : evB2 .and .i64 b .i64 ((2 ^ 8 - 1 : Nat) : Int) = some (.int .i64 (181 : Nat))) : Calls Try.prog 4 #[.int .i64 a, .int .i64 b] w fun e w' => e = .returned (.bool true) ∧ Below w.heap.size w w' :=
  none_of a b w 181 (by decide) h (by kernel_rfl)
theorem none_182 (a b : Int) (w : World) (h : evB2 .and .i64 b .i64 ((2 ^ 8 - 1 : Nat) : Int) = some (.int .i64 (182 : Nat))) : Calls Try.prog 4 #[.int .i64 a, .int .i64 b] w fun e w' => e = .returned (.bool true) ∧ Below w.heap.size w w' :=
  none_of a b w 182 (by decide) h (by kernel_rfl)
theorem none_183 (a b : Int) (w : World) (h : evB2 .and .i64 b .i64 ((2 ^ 8 - 1 : Nat) : Int) = some (.int .i64 (183 : Nat))) : Calls Try.prog 4 #[.int .i64 a, .int .i64 b] w fun e w' => e = .returned (.bool true) ∧ Below w.heap.size w w' :=
  none_of a b w 183 (by decide) h (by kernel_rfl)
theorem none_184 (a b : Int) (w : World) (h : evB2 .and .i64 b .i64 ((2 ^ 8 - 1 : Nat) : Int) = some (.int .i64 (184 : Nat))) : Calls Try.prog 4 #[.int .i64 a, .int .i64 b] w fun e w' => e = .returned (.bool true) ∧ Below w.heap.size w w' :=
  none_of a b w 184 (by decide) h (by kernel_rfl)
theorem none_185 (a b : Int) (w : World) (h : evB2 .and .i64 b .i64 ((2 ^ 8 - 1 : Nat) : Int) = some (.int .i64 (185 : Nat))) : Calls Try.prog 4 #[.int .i64 a, .int .i64 b] w fun e w' => e = .returned (.bool true) ∧ Below w.heap.size w w' :=
  none_of a b w 185 (by decide) h (by kernel_rfl)
theorem none_186 (a b : Int) (w : World) (h : evB2 .and .i64 b .i64 ((2 ^ 8 - 1 : Nat) : Int) = some (.int .i64 (186 : Nat))) : Calls Try.prog 4 #[.int .i64 a, .int .i64 b] w fun e w' => e = .returned (.bool true) ∧ Below w.heap.size w w' :=
  none_of a b w 186 (by decide) h (by kernel_rfl)
theorem none_187 (a b : Int) (w : World) (h : evB2 .and .i64 b .i64 ((2 ^ 8 - 1 : Nat) : Int) = some (.int .i64 (187 : Nat))) : Calls Try.prog 4 #[.int .i64 a, .int .i64 b] w fun e w' => e = .returned (.bool true) ∧ Below w.heap.size w w' :=
  none_of a b w 187 (by decide) h (by kernel_rfl)
theorem none_188 (a b : Int) (w : World) (h : evB2 .and .i64 b .i64 ((2 ^ 8 - 1 : Nat) : Int) = some (.int .i64 (188 : Nat))) : Calls Try.prog 4 #[.int .i64 a, .int .i64 b] w fun e w' => e = .returned (.bool true) ∧ Below w.heap.size w w' :=
  none_of a b w 188 (by decide) h (by kernel_rfl)
theorem none_189 (a b : Int) (w : World) (h : evB2 .and .i64 b .i64 ((2 ^ 8 - 1 : Nat) : Int) = some (.int .i64 (189 : Nat))) : Calls Try.prog 4 #[.int .i64 a, .int .i64 b] w fun e w' => e = .returned (.bool true) ∧ Below w.heap.size w w' :=
  none_of a b w 189 (by decide) h (by kernel_rfl)
theorem none_190 (a b : Int) (w : World) (h : evB2 .and .i64 b .i64 ((2 ^ 8 - 1 : Nat) : Int) = some (.int .i64 (190 : Nat))) : Calls Try.prog 4 #[.int .i64 a, .int .i64 b] w fun e w' => e = .returned (.bool true) ∧ Below w.heap.size w w' :=
  none_of a b w 190 (by decide) h (by kernel_rfl)
theorem none_191 (a b : Int) (w : World) (h : evB2 .and .i64 b .i64 ((2 ^ 8 - 1 : Nat) : Int) = some (.int .i64 (191 : Nat))) : Calls Try.prog 4 #[.int .i64 a, .int .i64 b] w fun e w' => e = .returned (.bool true) ∧ Below w.heap.size w w' :=
  none_of a b w 191 (by decide) h (by kernel_rfl)
theorem nones_128 (a b : Int) (w : World) (q : Nat) (h1 : 128 ≤ q) (h2 : q < 144) (h : evB2 .and .i64 b .i64 ((2 ^ 8 - 1 : Nat) : Int) = some (.int .i64 (q : Nat))) : Calls Try.prog 4 #[.int .i64 a, .int .i64 b] w fun e w' => e = .returned (.bool true) ∧ Below w.heap.size w w' := by
  have hc : q = 128 ∨ q = 129 ∨ q = 130 ∨ q = 131 ∨ q = 132 ∨ q = 133 ∨ q = 134 ∨ q = 135 ∨ q = 136 ∨ q = 137 ∨ q = 138 ∨ q = 139 ∨ q = 140 ∨ q = 141 ∨ q = 142 ∨ q = 143 := by omega
  clear h1 h2
  rcases hc with rfl | rfl | rfl | rfl | rfl | rfl | rfl | rfl | rfl | rfl | rfl | rfl | rfl | rfl | rfl | rfl
  · exact none_128 a b w h
  · exact none_129 a b w h
  · exact none_130 a b w h
  · exact none_131 a b w h
  · exact none_132 a b w h
  · exact none_133 a b w h
  · exact none_134 a b w h
  · exact none_135 a b w h
  · exact none_136 a b w h
  · exact none_137 a b w h
  · exact none_138 a b w h
  · exact none_139 a b w h
  · exact none_140 a b w h
  · exact none_141 a b w h
  · exact none_142 a b w h
  · exact none_143 a b w h
theorem nones_144 (a b : Int) (w : World) (q : Nat) (h1 : 144 ≤ q) (h2 : q < 160) (h : evB2 .and .i64 b .i64 ((2 ^ 8 - 1 : Nat) : Int) = some (.int .i64 (q : Nat))) : Calls Try.prog 4 #[.int .i64 a, .int .i64 b] w fun e w' => e = .returned (.bool true) ∧ Below w.heap.size w w' := by
  have hc : q = 144 ∨ q = 145 ∨ q = 146 ∨ q = 147 ∨ q = 148 ∨ q = 149 ∨ q = 150 ∨ q = 151 ∨ q = 152 ∨ q = 153 ∨ q = 154 ∨ q = 155 ∨ q = 156 ∨ q = 157 ∨ q = 158 ∨ q = 159 := by omega
  clear h1 h2
  rcases hc with rfl | rfl | rfl | rfl | rfl | rfl | rfl | rfl | rfl | rfl | rfl | rfl | rfl | rfl | rfl | rfl
  · exact none_144 a b w h
  · exact none_145 a b w h
  · exact none_146 a b w h
  · exact none_147 a b w h
  · exact none_148 a b w h
  · exact none_149 a b w h
  · exact none_150 a b w h
  · exact none_151 a b w h
  · exact none_152 a b w h
  · exact none_153 a b w h
  · exact none_154 a b w h
  · exact none_155 a b w h
  · exact none_156 a b w h
  · exact none_157 a b w h
  · exact none_158 a b w h
  · exact none_159 a b w h
theorem nones_160 (a b : Int) (w : World) (q : Nat) (h1 : 160 ≤ q) (h2 : q < 176) (h : evB2 .and .i64 b .i64 ((2 ^ 8 - 1 : Nat) : Int) = some (.int .i64 (q : Nat))) : Calls Try.prog 4 #[.int .i64 a, .int .i64 b] w fun e w' => e = .returned (.bool true) ∧ Below w.heap.size w w' := by
  have hc : q = 160 ∨ q = 161 ∨ q = 162 ∨ q = 163 ∨ q = 164 ∨ q = 165 ∨ q = 166 ∨ q = 167 ∨ q = 168 ∨ q = 169 ∨ q = 170 ∨ q = 171 ∨ q = 172 ∨ q = 173 ∨ q = 174 ∨ q = 175 := by omega
  clear h1 h2
  rcases hc with rfl | rfl | rfl | rfl | rfl | rfl | rfl | rfl | rfl | rfl | rfl | rfl | rfl | rfl | rfl | rfl
  · exact none_160 a b w h
  · exact none_161 a b w h
  · exact none_162 a b w h
  · exact none_163 a b w h
  · exact none_164 a b w h
  · exact none_165 a b w h
  · exact none_166 a b w h
  · exact none_167 a b w h
  · exact none_168 a b w h
  · exact none_169 a b w h
  · exact none_170 a b w h
  · exact none_171 a b w h
  · exact none_172 a b w h
  · exact none_173 a b w h
  · exact none_174 a b w h
  · exact none_175 a b w h
theorem nones_176 (a b : Int) (w : World) (q : Nat) (h1 : 176 ≤ q) (h2 : q < 192) (h : evB2 .and .i64 b .i64 ((2 ^ 8 - 1 : Nat) : Int) = some (.int .i64 (q : Nat))) : Calls Try.prog 4 #[.int .i64 a, .int .i64 b] w fun e w' => e = .returned (.bool true) ∧ Below w.heap.size w w' := by
  have hc : q = 176 ∨ q = 177 ∨ q = 178 ∨ q = 179 ∨ q = 180 ∨ q = 181 ∨ q = 182 ∨ q = 183 ∨ q = 184 ∨ q = 185 ∨ q = 186 ∨ q = 187 ∨ q = 188 ∨ q = 189 ∨ q = 190 ∨ q = 191 := by omega
  clear h1 h2
  rcases hc with rfl | rfl | rfl | rfl | rfl | rfl | rfl | rfl | rfl | rfl | rfl | rfl | rfl | rfl | rfl | rfl
  · exact none_176 a b w h
  · exact none_177 a b w h
  · exact none_178 a b w h
  · exact none_179 a b w h
  · exact none_180 a b w h
  · exact none_181 a b w h
  · exact none_182 a b w h
  · exact none_183 a b w h
  · exact none_184 a b w h
  · exact none_185 a b w h
  · exact none_186 a b w h
  · exact none_187 a b w h
  · exact none_188 a b w h
  · exact none_189 a b w h
  · exact none_190 a b w h
  · exact none_191 a b w h
end Go.Proofs.Ytilljobnaoefiaa
