/- CtypeNone: runs, part 3. No condition. -/
import Derived.Test.YtilljobnaoefiaaCn
namespace Go.Proofs.Ytilljobnaoefiaa
open Go.RowKit
set_option linter.unusedVariables false
theorem none_192 (a b : Int) (w : World) (h : evB2 .and .i64 b .i64 ((2 ^ 8 - 1 : Nat) : Int) = some (.int .i64 (192 : Nat))) : Calls Try.prog 4 #[.int .i64 a, .int .i64 b] w fun e w' => e = .returned (.bool true) ∧ Below w.heap.size w w' :=
  none_of a b w 192 (by decide) h (by kernel_rfl)
theorem none_193 (a b : Int) (w : World) (h : evB2 .and .i64 b .i64 ((2 ^ 8 - 1 : Nat) : Int) = some (.int .i64 (193 : Nat))) : Calls Try.prog 4 #[.int .i64 a, .int .i64 b] w fun e w' => e = .returned (.bool true) ∧ Below w.heap.size w w' :=
  none_of a b w 193 (by decide) h (by kernel_rfl)
theorem none_194 (a b : Int) (w : World) (h : evB2 .and .i64 b .i64 ((2 ^ 8 - 1 : Nat) : Int) = some (.int .i64 (194 : Nat))) : Calls Try.prog 4 #[.int .i64 a, .int .i64 b] w fun e w' => e = .returned (.bool true) ∧ Below w.heap.size w w' :=
  none_of a b w 194 (by decide) h (by kernel_rfl)
theorem none_195 (a b : Int) (w : World) (h : evB2 .and .i64 b .i64 ((2 ^ 8 - 1 : Nat) : Int) = some (.int .i64 (195 : Nat))) : Calls Try.prog 4 #[.int .i64 a, .int .i64 b] w fun e w' => e = .returned (.bool true) ∧ Below w.heap.size w w' :=
  none_of a b w 195 (by decide) h (by kernel_rfl)
theorem none_196 (a b : Int) (w : World) (h : evB2 .and .i64 b .i64 ((2 ^ 8 - 1 : Nat) : Int) = some (.int .i64 (196 : Nat))) : Calls Try.prog 4 #[.int .i64 a, .int .i64 b] w fun e w' => e = .returned (.bool true) ∧ Below w.heap.size w w' :=
  none_of a b w 196 (by decide) h (by kernel_rfl)
theorem none_197 (a b : Int) (w : World) (h : evB2 .and .i64 b .i64 ((2 ^ 8 - 1 : Nat) : Int) = some (.int .i64 (197 : Nat))) : Calls Try.prog 4 #[.int .i64 a, .int .i64 b] w fun e w' => e = .returned (.bool true) ∧ Below w.heap.size w w' :=
  none_of a b w 197 (by decide) h (by kernel_rfl)
theorem none_198 (a b : Int) (w : World) (h : evB2 .and .i64 b .i64 ((2 ^ 8 - 1 : Nat) : Int) = some (.int .i64 (198 : Nat))) : Calls Try.prog 4 #[.int .i64 a, .int .i64 b] w fun e w' => e = .returned (.bool true) ∧ Below w.heap.size w w' :=
  none_of a b w 198 (by decide) h (by kernel_rfl)
theorem none_199 (a b : Int) (w : World) (h : evB2 .and .i64 b .i64 ((2 ^ 8 - 1 : Nat) : Int) = some (.int .i64 (199 : Nat))) : Calls Try.prog 4 #[.int .i64 a, .int .i64 b] w fun e w' => e = .returned (.bool true) ∧ Below w.heap.size w w' :=
  none_of a b w 199 (by decide) h (by kernel_rfl)
theorem none_200 (a b : Int) (w : World) (h : evB2 .and .i64 b .i64 ((2 ^ 8 - 1 : Nat) : Int) = some (.int .i64 (200 : Nat))) : Calls Try.prog 4 #[.int .i64 a, .int .i64 b] w fun e w' => e = .returned (.bool true) ∧ Below w.heap.size w w' :=
  none_of a b w 200 (by decide) h (by kernel_rfl)
theorem none_201 (a b : Int) (w : World) (h : evB2 .and .i64 b .i64 ((2 ^ 8 - 1 : Nat) : Int) = some (.int .i64 (201 : Nat))) : Calls Try.prog 4 #[.int .i64 a, .int .i64 b] w fun e w' => e = .returned (.bool true) ∧ Below w.heap.size w w' :=
  none_of a b w 201 (by decide) h (by kernel_rfl)
theorem none_202 (a b : Int) (w : World) (h : evB2 .and .i64 b .i64 ((2 ^ 8 - 1 : Nat) : Int) = some (.int .i64 (202 : Nat))) : Calls Try.prog 4 #[.int .i64 a, .int .i64 b] w fun e w' => e = .returned (.bool true) ∧ Below w.heap.size w w' :=
  none_of a b w 202 (by decide) h (by kernel_rfl)
theorem none_203 (a b : Int) (w : World) (h : evB2 .and .i64 b .i64 ((2 ^ 8 - 1 : Nat) : Int) = some (.int .i64 (203 : Nat))) : Calls Try.prog 4 #[.int .i64 a, .int .i64 b] w fun e w' => e = .returned (.bool true) ∧ Below w.heap.size w w' :=
  none_of a b w 203 (by decide) h (by kernel_rfl)
theorem none_204 (a b : Int) (w : World) (h : evB2 .and .i64 b .i64 ((2 ^ 8 - 1 : Nat) : Int) = some (.int .i64 (204 : Nat))) : Calls Try.prog 4 #[.int .i64 a, .int .i64 b] w fun e w' => e = .returned (.bool true) ∧ Below w.heap.size w w' :=
  none_of a b w 204 (by decide) h (by kernel_rfl)
theorem none_205 (a b : Int) (w : World) (h : evB2 .and .i64 b .i64 ((2 ^ 8 - 1 : Nat) : Int) = some (.int .i64 (205 : Nat))) : Calls Try.prog 4 #[.int .i64 a, .int .i64 b] w fun e w' => e = .returned (.bool true) ∧ Below w.heap.size w w' :=
  none_of a b w 205 (by decide) h (by kernel_rfl)
theorem none_206 (a b : Int) (w : World) (h : evB2 .and .i64 b .i64 ((2 ^ 8 - 1 : Nat) : Int) = some (.int .i64 (206 : Nat))) : Calls Try.prog 4 #[.int .i64 a, .int .i64 b] w fun e w' => e = .returned (.bool true) ∧ Below w.heap.size w w' :=
  none_of a b w 206 (by decide) h (by kernel_rfl)
theorem none_207 (a b : Int) (w : World) (h : evB2 .and .i64 b .i64 ((2 ^ 8 - 1 : Nat) : Int) = some (.int .i64 (207 : Nat))) : Calls Try.prog 4 #[.int .i64 a, .int .i64 b] w fun e w' => e = .returned (.bool true) ∧ Below w.heap.size w w' :=
  none_of a b w 207 (by decide) h (by kernel_rfl)
theorem none_208 (a b : Int) (w : World) (h : evB2 .and .i64 b .i64 ((2 ^ 8 - 1 : Nat) : Int) = some (.int .i64 (208 : Nat))) : Calls Try.prog 4 #[.int .i64 a, .int .i64 b] w fun e w' => e = .returned (.bool true) ∧ Below w.heap.size w w' :=
  none_of a b w 208 (by decide) h (by kernel_rfl)
theorem none_209 (a b : Int) (w : World) (h : evB2 .and .i64 b .i64 ((2 ^ 8 - 1 : Nat) : Int) = some (.int .i64 (209 : Nat))) : Calls Try.prog 4 #[.int .i64 a, .int .i64 b] w fun e w' => e = .returned (.bool true) ∧ Below w.heap.size w w' :=
  none_of a b w 209 (by decide) h (by kernel_rfl)
theorem none_210 (a b : Int) (w : World) (h : evB2 .and .i64 b .i64 ((2 ^ 8 - 1 : Nat) : Int) = some (.int .i64 (210 : Nat))) : Calls Try.prog 4 #[.int .i64 a, .int .i64 b] w fun e w' => e = .returned (.bool true) ∧ Below w.heap.size w w' :=
  none_of a b w 210 (by decide) h (by kernel_rfl)
theorem none_211 (a b : Int) (w : World) (h : evB2 .and .i64 b .i64 ((2 ^ 8 - 1 : Nat) : Int) = some (.int .i64 (211 : Nat))) : Calls Try.prog 4 #[.int .i64 a, .int .i64 b] w fun e w' => e = .returned (.bool true) ∧ Below w.heap.size w w' :=
  none_of a b w 211 (by decide) h (by kernel_rfl)
theorem none_212 (a b : Int) (w : World) (h : evB2 .and .i64 b .i64 ((2 ^ 8 - 1 : Nat) : Int) = some (.int .i64 (212 : Nat))) : Calls Try.prog 4 #[.int .i64 a, .int .i64 b] w fun e w' => e = .returned (.bool true) ∧ Below w.heap.size w w' :=
  none_of a b w 212 (by decide) h (by kernel_rfl)
theorem none_213 (a b : Int) (w : World) (h : evB2 .and .i64 b .i64 ((2 ^ 8 - 1 : Nat) : Int) = some (.int .i64 (213 : Nat))) : Calls Try.prog 4 #[.int .i64 a, .int .i64 b] w fun e w' => e = .returned (.bool true) ∧ Below w.heap.size w w' :=
  none_of a b w 213 (by decide) h (by kernel_rfl)
theorem none_214 (a b : Int) (w : World) (h : evB2 .and .i64 b .i64 ((2 ^ 8 - 1 : Nat) : Int) = some (.int .i64 (214 : Nat))) : Calls Try.prog 4 #[.int .i64 a, .int .i64 b] w fun e w' => e = .returned (.bool true) ∧ Below w.heap.size w w' :=
  none_of a b w 214 (by decide) h (by kernel_rfl)
theorem none_215 (a b : Int) (w : World) (h : evB2 .and .i64 b .i64 ((2 ^ 8 - 1 : Nat) : Int) = some (.int .i64 (215 : Nat))) : Calls Try.prog 4 #[.int .i64 a, .int .i64 b] w fun e w' => e = .returned (.bool true) ∧ Below w.heap.size w w' :=
  none_of a b w 215 (by decide) h (by kernel_rfl)
theorem none_216 (a b : Int) (w : World) (h : evB2 .and .i64 b .i64 ((2 ^ 8 - 1 : Nat) : Int) = some (.int .i64 (216 : Nat))) : Calls Try.prog 4 #[.int .i64 a, .int .i64 b] w fun e w' => e = .returned (.bool true) ∧ Below w.heap.size w w' :=
  none_of a b w 216 (by decide) h (by kernel_rfl)
theorem none_217 (a b : Int) (w : World) (h : evB2 .and .i64 b .i64 ((2 ^ 8 - 1 : Nat) : Int) = some (.int .i64 (217 : Nat))) : Calls Try.prog 4 #[.int .i64 a, .int .i64 b] w fun e w' => e = .returned (.bool true) ∧ Below w.heap.size w w' :=
  none_of a b w 217 (by decide) h (by kernel_rfl)
theorem none_218 (a b : Int) (w : World) (h : evB2 .and .i64 b .i64 ((2 ^ 8 - 1 : Nat) : Int) = some (.int .i64 (218 : Nat))) : Calls Try.prog 4 #[.int .i64 a, .int .i64 b] w fun e w' => e = .returned (.bool true) ∧ Below w.heap.size w w' :=
  none_of a b w 218 (by decide) h (by kernel_rfl)
theorem none_219 (a b : Int) (w : World) (h : evB2 .and .i64 b .i64 ((2 ^ 8 - 1 : Nat) : Int) = some (.int .i64 (219 : Nat))) : Calls Try.prog 4 #[.int .i64 a, .int .i64 b] w fun e w' => e = .returned (.bool true) ∧ Below w.heap.size w w' :=
  none_of a b w 219 (by decide) h (by kernel_rfl)
theorem none_220 (a b : Int) (w : World) (h : evB2 .and .i64 b .i64 ((2 ^ 8 - 1 : Nat) : Int) = some (.int .i64 (220 : Nat))) : Calls Try.prog 4 #[.int .i64 a, .int .i64 b] w fun e w' => e = .returned (.bool true) ∧ Below w.heap.size w w' :=
  none_of a b w 220 (by decide) h (by kernel_rfl)
theorem none_221 (a b : Int) (w : World) (h : evB2 .and .i64 b .i64 ((2 ^ 8 - 1 : Nat) : Int) = some (.int .i64 (221 : Nat))) : Calls Try.prog 4 #[.int .i64 a, .int .i64 b] w fun e w' => e = .returned (.bool true) ∧ Below w.heap.size w w' :=
  none_of a b w 221 (by decide) h (by kernel_rfl)
theorem none_222 (a b : Int) (w : World) (h : evB2 .and .i64 b .i64 ((2 ^ 8 - 1 : Nat) : Int) = some (.int .i64 (222 : Nat))) : Calls Try.prog 4 #[.int .i64 a, .int .i64 b] w fun e w' => e = .returned (.bool true) ∧ Below w.heap.size w w' :=
  none_of a b w 222 (by decide) h (by kernel_rfl)
theorem none_223 (a b : Int) (w : World) (h : evB2 .and .i64 b .i64 ((2 ^ 8 - 1 : Nat) : Int) = some (.int .i64 (223 : Nat))) : Calls Try.prog 4 #[.int .i64 a, .int .i64 b] w fun e w' => e = .returned (.bool true) ∧ Below w.heap.size w w' :=
  none_of a b w 223 (by decide) h (by kernel_rfl)
theorem none_224 (a b : Int) (w : World) (h : evB2 .and .i64 b .i64 ((2 ^ 8 - 1 : Nat) : Int) = some (.int .i64 (224 : Nat))) : Calls Try.prog 4 #[.int .i64 a, .int .i64 b] w fun e w' => e = .returned (.bool true) ∧ Below w.heap.size w w' :=
  none_of a b w 224 (by decide) h (by kernel_rfl)
theorem none_225 (a b : Int) (w : World) (h : evB2 .and .i64 b .i64 ((2 ^ 8 - 1 : Nat) : Int) = some (.int .i64 (225 : Nat))) : Calls Try.prog 4 #[.int .i64 a, .int .i64 b] w fun e w' => e = .returned (.bool true) ∧ Below w.heap.size w w' :=
  none_of a b w 225 (by decide) h (by kernel_rfl)
theorem none_226 (a b : Int) (w : World) (h : evB2 .and .i64 b .i64 ((2 ^ 8 - 1 : Nat) : Int) = some (.int .i64 (226 : Nat))) : Calls Try.prog 4 #[.int .i64 a, .int .i64 b] w fun e w' => e = .returned (.bool true) ∧ Below w.heap.size w w' :=
  none_of a b w 226 (by decide) h (by kernel_rfl)
theorem none_227 (a b : Int) (w : World) (h : evB2 .and .i64 b .i64 ((2 ^ 8 - 1 : Nat) : Int) = some (.int .i64 (227 : Nat))) : Calls Try.prog 4 #[.int .i64 a, .int .i64 b] w fun e w' => e = .returned (.bool true) ∧ Below w.heap.size w w' :=
  none_of a b w 227 (by decide) h (by kernel_rfl)
theorem none_228 (a b : Int) (w : World) (h : evB2 .and .i64 b .i64 ((2 ^ 8 - 1 : Nat) : Int) = some (.int .i64 (228 : Nat))) : Calls Try.prog 4 #[.int .i64 a, .int .i64 b] w fun e w' => e = .returned (.bool true) ∧ Below w.heap.size w w' :=
  none_of a b w 228 (by decide) h (by kernel_rfl)
theorem none_229 (a b : Int) (w : World) (h : evB2 .and .i64 b .i64 ((2 ^ 8 - 1 : Nat) : Int) = some (.int .i64 (229 : Nat))) : Calls Try.prog 4 #[.int .i64 a, .int .i64 b] w fun e w' => e = .returned (.bool true) ∧ Below w.heap.size w w' :=
  none_of a b w 229 (by decide) h (by kernel_rfl)
theorem none_230 (a b : Int) (w : World) (h : evB2 .and .i64 b .i64 ((2 ^ 8 - 1 : Nat) : Int) = some (.int .i64 (230 : Nat))) : Calls Try.prog 4 #[.int .i64 a, .int .i64 b] w fun e w' => e = .returned (.bool true) ∧ Below w.heap.size w w' :=
  none_of a b w 230 (by decide) h (by kernel_rfl)
theorem none_231 (a b : Int) (w : World) (h : evB2 .and .i64 b .i64 ((2 ^ 8 - 1 : Nat) : Int) = some (.int .i64 (231 : Nat))) : Calls Try.prog 4 #[.int .i64 a, .int .i64 b] w fun e w' => e = .returned (.bool true) ∧ Below w.heap.size w w' :=
  none_of a b w 231 (by decide) h (by kernel_rfl)
theorem none_232 (a b : Int) (w : World) (h : evB2 .and .i64 b .i64 ((2 ^ 8 - 1 : Nat) : Int) = some (.int .i64 (232 : Nat))) : Calls Try.prog 4 #[.int .i64 a, .int .i64 b] w fun e w' => e = .returned (.bool true) ∧ Below w.heap.size w w' :=
  none_of a b w 232 (by decide) h (by kernel_rfl)
theorem none_233 (a b : Int) (w : World) (h : evB2 .and .i64 b .i64 ((2 ^ 8 - 1 : Nat) : Int) = some (.int .i64 (233 : Nat))) : Calls Try.prog 4 #[.int .i64 a, .int .i64 b] w fun e w' => e = .returned (.bool true) ∧ Below w.heap.size w w' :=
  none_of a b w 233 (by decide) h (by kernel_rfl)
theorem none_234 (a b : Int) (w : World) (h : evB2 .and .i64 b .i64 ((2 ^ 8 - 1 : Nat) : Int) = some (.int .i64 (234 : Nat))) : Calls Try.prog 4 #[.int .i64 a, .int .i64 b] w fun e w' => e = .returned (.bool true) ∧ Below w.heap.size w w' :=
  none_of a b w 234 (by decide) h (by kernel_rfl)
theorem none_235 (a b : Int) (w : World) (h : evB2 .and .i64 b .i64 ((2 ^ 8 - 1 : Nat) : Int) = some (.int .i64 (235 : Nat))) : Calls Try.prog 4 #[.int .i64 a, .int .i64 b] w fun e w' => e = .returned (.bool true) ∧ Below w.heap.size w w' :=
  none_of a b w 235 (by decide) h (by kernel_rfl)
theorem none_236 (a b : Int) (w : World) (h : evB2 .and .i64 b .i64 ((2 ^ 8 - 1 : Nat) : Int) = some (.int .i64 (236 : Nat))) : Calls Try.prog 4 #[.int .i64 a, .int .i64 b] w fun e w' => e = .returned (.bool true) ∧ Below w.heap.size w w' :=
  none_of a b w 236 (by decide) h (by kernel_rfl)
theorem none_237 (a b : Int) (w : World) (h : evB2 .and .i64 b .i64 ((2 ^ 8 - 1 : Nat) : Int) = some (.int .i64 (237 : Nat))) : Calls Try.prog 4 #[.int .i64 a, .int .i64 b] w fun e w' => e = .returned (.bool true) ∧ Below w.heap.size w w' :=
  none_of a b w 237 (by decide) h (by kernel_rfl)
theorem none_238 (a b : Int) (w : World) (h : evB2 .and .i64 b .i64 ((2 ^ 8 - 1 : Nat) : Int) = some (.int .i64 (238 : Nat))) : Calls Try.prog 4 #[.int .i64 a, .int .i64 b] w fun e w' => e = .returned (.bool true) ∧ Below w.heap.size w w' :=
  none_of a b w 238 (by decide) h (by kernel_rfl)
theorem none_239 (a b : Int) (w : World) (h : evB2 .and .i64 b .i64 ((2 ^ 8 - 1 : Nat) : Int) = some (.int .i64 (239 : Nat))) : Calls Try.prog 4 #[.int .i64 a, .int .i64 b] w fun e w' => e = .returned (.bool true) ∧ Below w.heap.size w w' :=
  none_of a b w 239 (by decide) h (by kernel_rfl)
theorem none_240 (a b : Int) (w : World) (h : evB2 .and .i64 b .i64 ((2 ^ 8 - 1 : Nat) : Int) = some (.int .i64 (240 : Nat))) : Calls Try.prog 4 #[.int .i64 a, .int .i64 b] w fun e w' => e = .returned (.bool true) ∧ Below w.heap.size w w' :=
  none_of a b w 240 (by decide) h (by kernel_rfl)
theorem none_241 (a b : Int) (w : World) (h : evB2 .and .i64 b .i64 ((2 ^ 8 - 1 : Nat) : Int) = some (.int .i64 (241 : Nat))) : Calls Try.prog 4 #[.int .i64 a, .int .i64 b] w fun e w' => e = .returned (.bool true) ∧ Below w.heap.size w w' :=
  none_of a b w 241 (by decide) h (by kernel_rfl)
theorem none_242 (a b : Int) (w : World) (h : evB2 .and .i64 b .i64 ((2 ^ 8 - 1 : Nat) : Int) = some (.int .i64 (242 : Nat))) : Calls Try.prog 4 #[.int .i64 a, .int .i64 b] w fun e w' => e = .returned (.bool true) ∧ Below w.heap.size w w' :=
  none_of a b w 242 (by decide) h (by kernel_rfl)
theorem none_243 (a b : Int) (w : World) (h : evB2 .and .i64 b .i64 ((2 ^ 8 - 1 : Nat) : Int) = some (.int .i64 (243 : Nat))) : Calls Try.prog 4 #[.int .i64 a, .int .i64 b] w fun e w' => e = .returned (.bool true) ∧ Below w.heap.size w w' :=
  none_of a b w 243 (by decide) h (by kernel_rfl)
theorem none_244 (a b : Int) (w : World) (h : evB2 .and .i64 b .i64 ((2 ^ 8 - 1 : Nat) : Int) = some (.int .i64 (244 : Nat))) : Calls Try.prog 4 #[.int .i64 a, .int .i64 b] w fun e w' => e = .returned (.bool true) ∧ Below w.heap.size w w' :=
  none_of a b w 244 (by decide) h (by kernel_rfl)
theorem none_245 (a b : Int) (w : World) (h : evB2 .and .i64 b .i64 ((2 ^ 8 - 1 : Nat) : Int) = some (.int .i64 (245 : Nat))) : Calls Try.prog 4 #[.int .i64 a, .int .i64 b] w fun e w' => e = .returned (.bool true) ∧ Below w.heap.size w w' :=
  none_of a b w 245 (by decide) h (by kernel_rfl)
theorem none_246 (a b : Int) (w : World) (h : evB2 .and .i64 b .i64 ((2 ^ 8 - 1 : Nat) : Int) = some (.int .i64 (246 : Nat))) : Calls Try.prog 4 #[.int .i64 a, .int .i64 b] w fun e w' => e = .returned (.bool true) ∧ Below w.heap.size w w' :=
  none_of a b w 246 (by decide) h (by kernel_rfl)
theorem none_247 (a b : Int) (w : World) (h : evB2 .and .i64 b .i64 ((2 ^ 8 - 1 : Nat) : Int) = some (.int .i64 (247 : Nat))) : Calls Try.prog 4 #[.int .i64 a, .int .i64 b] w fun e w' => e = .returned (.bool true) ∧ Below w.heap.size w w' :=
  none_of a b w 247 (by decide) h (by kernel_rfl)
theorem none_248 (a b : Int) (w : World) (h : evB2 .and .i64 b .i64 ((2 ^ 8 - 1 : Nat) : Int) = some (.int .i64 (248 : Nat))) : Calls Try.prog 4 #[.int .i64 a, .int .i64 b] w fun e w' => e = .returned (.bool true) ∧ Below w.heap.size w w' :=
  none_of a b w 248 (by decide) h (by kernel_rfl)
theorem none_249 (a b : Int) (w : World) (h : evB2 .and .i64 b .i64 ((2 ^ 8 - 1 : Nat) : Int) = some (.int .i64 (249 : Nat))) : Calls Try.prog 4 #[.int .i64 a, .int .i64 b] w fun e w' => e = .returned (.bool true) ∧ Below w.heap.size w w' :=
  none_of a b w 249 (by decide) h (by kernel_rfl)
theorem none_250 (a b : Int) (w : World) (h : evB2 .and .i64 b .i64 ((2 ^ 8 - 1 : Nat) : Int) = some (.int .i64 (250 : Nat))) : Calls Try.prog 4 #[.int .i64 a, .int .i64 b] w fun e w' => e = .returned (.bool true) ∧ Below w.heap.size w w' :=
  none_of a b w 250 (by decide) h (by kernel_rfl)
theorem none_251 (a b : Int) (w : World) (h : evB2 .and .i64 b .i64 ((2 ^ 8 - 1 : Nat) : Int) = some (.int .i64 (251 : Nat))) : Calls Try.prog 4 #[.int .i64 a, .int .i64 b] w fun e w' => e = .returned (.bool true) ∧ Below w.heap.size w w' :=
  none_of a b w 251 (by decide) h (by kernel_rfl)
theorem none_252 (a b : Int) (w : World) (h : evB2 .and .i64 b .i64 ((2 ^ 8 - 1 : Nat) : Int) = some (.int .i64 (252 : Nat))) : Calls Try.prog 4 #[.int .i64 a, .int .i64 b] w fun e w' => e = .returned (.bool true) ∧ Below w.heap.size w w' :=
  none_of a b w 252 (by decide) h (by kernel_rfl)
theorem none_253 (a b : Int) (w : World) (h : evB2 .and .i64 b .i64 ((2 ^ 8 - 1 : Nat) : Int) = some (.int .i64 (253 : Nat))) : Calls Try.prog 4 #[.int .i64 a, .int .i64 b] w fun e w' => e = .returned (.bool true) ∧ Below w.heap.size w w' :=
  none_of a b w 253 (by decide) h (by kernel_rfl)
theorem none_254 (a b : Int) (w : World) (h : evB2 .and .i64 b .i64 ((2 ^ 8 - 1 : Nat) : Int) = some (.int .i64 (254 : Nat))) : Calls Try.prog 4 #[.int .i64 a, .int .i64 b] w fun e w' => e = .returned (.bool true) ∧ Below w.heap.size w w' :=
  none_of a b w 254 (by decide) h (by kernel_rfl)
theorem none_255 (a b : Int) (w : World) (h : evB2 .and .i64 b .i64 ((2 ^ 8 - 1 : Nat) : Int) = some (.int .i64 (255 : Nat))) : Calls Try.prog 4 #[.int .i64 a, .int .i64 b] w fun e w' => e = .returned (.bool true) ∧ Below w.heap.size w w' :=
  none_of a b w 255 (by decide) h (by kernel_rfl)
theorem nones_192 (a b : Int) (w : World) (q : Nat) (h1 : 192 ≤ q) (h2 : q < 208) (h : evB2 .and .i64 b .i64 ((2 ^ 8 - 1 : Nat) : Int) = some (.int .i64 (q : Nat))) : Calls Try.prog 4 #[.int .i64 a, .int .i64 b] w fun e w' => e = .returned (.bool true) ∧ Below w.heap.size w w' := by
  have hc : q = 192 ∨ q = 193 ∨ q = 194 ∨ q = 195 ∨ q = 196 ∨ q = 197 ∨ q = 198 ∨ q = 199 ∨ q = 200 ∨ q = 201 ∨ q = 202 ∨ q = 203 ∨ q = 204 ∨ q = 205 ∨ q = 206 ∨ q = 207 := by omega
  clear h1 h2
  rcases hc with rfl | rfl | rfl | rfl | rfl | rfl | rfl | rfl | rfl | rfl | rfl | rfl | rfl | rfl | rfl | rfl
  · exact none_192 a b w h
  · exact none_193 a b w h
  · exact none_194 a b w h
  · exact none_195 a b w h
  · exact none_196 a b w h
  · exact none_197 a b w h
  · exact none_198 a b w h
  · exact none_199 a b w h
  · exact none_200 a b w h
  · exact none_201 a b w h
  · exact none_202 a b w h
  · exact none_203 a b w h
  · exact none_204 a b w h
  · exact none_205 a b w h
  · exact none_206 a b w h
  · exact none_207 a b w h
theorem nones_208 (a b : Int) (w : World) (q : Nat) (h1 : 208 ≤ q) (h2 : q < 224) (h : evB2 .and .i64 b .i64 ((2 ^ 8 - 1 : Nat) : Int) = some (.int .i64 (q : Nat))) : Calls Try.prog 4 #[.int .i64 a, .int .i64 b] w fun e w' => e = .returned (.bool true) ∧ Below w.heap.size w w' := by
  have hc : q = 208 ∨ q = 209 ∨ q = 210 ∨ q = 211 ∨ q = 212 ∨ q = 213 ∨ q = 214 ∨ q = 215 ∨ q = 216 ∨ q = 217 ∨ q = 218 ∨ q = 219 ∨ q = 220 ∨ q = 221 ∨ q = 222 ∨ q = 223 := by omega
  clear h1 h2
  rcases hc with rfl | rfl | rfl | rfl | rfl | rfl | rfl | rfl | rfl | rfl | rfl | rfl | rfl | rfl | rfl | rfl
  · exact none_208 a b w h
  · exact none_209 a b w h
  · exact none_210 a b w h
  · exact none_211 a b w h
  · exact none_212 a b w h
  · exact none_213 a b w h
  · exact none_214 a b w h
  · exact none_215 a b w h
  · exact none_216 a b w h
  · exact none_217 a b w h
  · exact none_218 a b w h
  · exact none_219 a b w h
  · exact none_220 a b w h
  · exact none_221 a b w h
  · exact none_222 a b w h
  · exact none_223 a b w h
theorem nones_224 (a b : Int) (w : World) (q : Nat) (h1 : 224 ≤ q) (h2 : q < 240) (h : evB2 .and .i64 b .i64 ((2 ^ 8 - 1 : Nat) : Int) = some (.int .i64 (q : Nat))) : Calls Try.prog 4 #[.int .i64 a, .int .i64 b] w fun e w' => e = .returned (.bool true) ∧ Below w.heap.size w w' := by
  have hc : q = 224 ∨ q = 225 ∨ q = 226 ∨ q = 227 ∨ q = 228 ∨ q = 229 ∨ q = 230 ∨ q = 231 ∨ q = 232 ∨ q = 233 ∨ q = 234 ∨ q = 235 ∨ q = 236 ∨ q = 237 ∨ q = 238 ∨ q = 239 := by omega
  clear h1 h2
  rcases hc with rfl | rfl | rfl | rfl | rfl | rfl | rfl | rfl | rfl | rfl | rfl | rfl | rfl | rfl | rfl | rfl
  · exact none_224 a b w h
  · exact none_225 a b w h
  · exact none_226 a b w h
  · exact none_227 a b w h
  · exact none_228 a b w h
  · exact none_229 a b w h
  · exact none_230 a b w h
  · exact none_231 a b w h
  · exact none_232 a b w h
  · exact none_233 a b w h
  · exact none_234 a b w h
  · exact none_235 a b w h
  · exact none_236 a b w h
  · exact none_237 a b w h
  · exact none_238 a b w h
  · exact none_239 a b w h
theorem nones_240 (a b : Int) (w : World) (q : Nat) (h1 : 240 ≤ q) (h2 : q < 256) (h : evB2 .and .i64 b .i64 ((2 ^ 8 - 1 : Nat) : Int) = some (.int .i64 (q : Nat))) : Calls Try.prog 4 #[.int .i64 a, .int .i64 b] w fun e w' => e = .returned (.bool true) ∧ Below w.heap.size w w' := by
  have hc : q = 240 ∨ q = 241 ∨ q = 242 ∨ q = 243 ∨ q = 244 ∨ q = 245 ∨ q = 246 ∨ q = 247 ∨ q = 248 ∨ q = 249 ∨ q = 250 ∨ q = 251 ∨ q = 252 ∨ q = 253 ∨ q = 254 ∨ q = 255 := by omega
  clear h1 h2
  rcases hc with rfl | rfl | rfl | rfl | rfl | rfl | rfl | rfl | rfl | rfl | rfl | rfl | rfl | rfl | rfl | rfl
  · exact none_240 a b w h
  · exact none_241 a b w h
  · exact none_242 a b w h
  · exact none_243 a b w h
  · exact none_244 a b w h
  · exact none_245 a b w h
  · exact none_246 a b w h
  · exact none_247 a b w h
  · exact none_248 a b w h
  · exact none_249 a b w h
  · exact none_250 a b w h
  · exact none_251 a b w h
  · exact none_252 a b w h
  · exact none_253 a b w h
  · exact none_254 a b w h
  · exact none_255 a b w h
end Go.Proofs.Ytilljobnaoefiaa
