/- CtypeCommon: runs, part 0. No condition. -/
import Derived.Test.YtilljobnaoefiaaCtC
namespace Go.Proofs.Ytilljobnaoefiaa
open Go.RowKit
set_option linter.unusedVariables false
theorem common_0 (a b : Int) (w : World) (r1 : Nat) (hr : r1 < 16) (h0 : evB2 .and .i64 a .i64 15 = some (.int .i64 (0 : Nat))) (h1 : evB2 .and .i64 b .i64 15 = some (.int .i64 r1)) :
    Calls Try.prog 5 #[.int .i64 a, .int .i64 b] w fun e w' => e = .returned (.bool true) ∧ Below w.heap.size w w' := by
  match r1, hr, h1 with
  | 0, _, h1 => exact common_of a b w 0 0 h0 h1 (by kernel_rfl)
  | 1, _, h1 => exact common_of a b w 0 1 h0 h1 (by kernel_rfl)
  | 2, _, h1 => exact common_of a b w 0 2 h0 h1 (by kernel_rfl)
  | 3, _, h1 => exact common_of a b w 0 3 h0 h1 (by kernel_rfl)
  | 4, _, h1 => exact common_of a b w 0 4 h0 h1 (by kernel_rfl)
  | 5, _, h1 => exact common_of a b w 0 5 h0 h1 (by kernel_rfl)
  | 6, _, h1 => exact common_of a b w 0 6 h0 h1 (by kernel_rfl)
  | 7, _, h1 => exact common_of a b w 0 7 h0 h1 (by kernel_rfl)
  | 8, _, h1 => exact common_of a b w 0 8 h0 h1 (by kernel_rfl)
  | 9, _, h1 => exact common_of a b w 0 9 h0 h1 (by kernel_rfl)
  | 10, _, h1 => exact common_of a b w 0 10 h0 h1 (by kernel_rfl)
  | 11, _, h1 => exact common_of a b w 0 11 h0 h1 (by kernel_rfl)
  | 12, _, h1 => exact common_of a b w 0 12 h0 h1 (by kernel_rfl)
  | 13, _, h1 => exact common_of a b w 0 13 h0 h1 (by kernel_rfl)
  | 14, _, h1 => exact common_of a b w 0 14 h0 h1 (by kernel_rfl)
  | 15, _, h1 => exact common_of a b w 0 15 h0 h1 (by kernel_rfl)
  | n + 16, h, _ => exact absurd h (by omega)
theorem common_1 (a b : Int) (w : World) (r1 : Nat) (hr : r1 < 16) (h0 : evB2 .and .i64 a .i64 15 = some (.int .i64 (1 : Nat))) (h1 : evB2 .and .i64 b .i64 15 = some (.int .i64 r1)) :
    Calls Try.prog 5 #[.int .i64 a, .int .i64 b] w fun e w' => e = .returned (.bool true) ∧ Below w.heap.size w w' := by
  match r1, hr, h1 with
  | 0, _, h1 => exact common_of a b w 1 0 h0 h1 (by kernel_rfl)
  | 1, _, h1 => exact common_of a b w 1 1 h0 h1 (by kernel_rfl)
  | 2, _, h1 => exact common_of a b w 1 2 h0 h1 (by kernel_rfl)
  | 3, _, h1 => exact common_of a b w 1 3 h0 h1 (by kernel_rfl)
  | 4, _, h1 => exact common_of a b w 1 4 h0 h1 (by kernel_rfl)
  | 5, _, h1 => exact common_of a b w 1 5 h0 h1 (by kernel_rfl)
  | 6, _, h1 => exact common_of a b w 1 6 h0 h1 (by kernel_rfl)
  | 7, _, h1 => exact common_of a b w 1 7 h0 h1 (by kernel_rfl)
  | 8, _, h1 => exact common_of a b w 1 8 h0 h1 (by kernel_rfl)
  | 9, _, h1 => exact common_of a b w 1 9 h0 h1 (by kernel_rfl)
  | 10, _, h1 => exact common_of a b w 1 10 h0 h1 (by kernel_rfl)
  | 11, _, h1 => exact common_of a b w 1 11 h0 h1 (by kernel_rfl)
  | 12, _, h1 => exact common_of a b w 1 12 h0 h1 (by kernel_rfl)
  | 13, _, h1 => exact common_of a b w 1 13 h0 h1 (by kernel_rfl)
  | 14, _, h1 => exact common_of a b w 1 14 h0 h1 (by kernel_rfl)
  | 15, _, h1 => exact common_of a b w 1 15 h0 h1 (by kernel_rfl)
  | n + 16, h, _ => exact absurd h (by omega)
theorem common_2 (a b : Int) (w : World) (r1 : Nat) (hr : r1 < 16) (h0 : evB2 .and .i64 a .i64 15 = some (.int .i64 (2 : Nat))) (h1 : evB2 .and .i64 b .i64 15 = some (.int .i64 r1)) :
    Calls Try.prog 5 #[.int .i64 a, .int .i64 b] w fun e w' => e = .returned (.bool true) ∧ Below w.heap.size w w' := by
  match r1, hr, h1 with
  | 0, _, h1 => exact common_of a b w 2 0 h0 h1 (by kernel_rfl)
  | 1, _, h1 => exact common_of a b w 2 1 h0 h1 (by kernel_rfl)
  | 2, _, h1 => exact common_of a b w 2 2 h0 h1 (by kernel_rfl)
  | 3, _, h1 => exact common_of a b w 2 3 h0 h1 (by kernel_rfl)
  | 4, _, h1 => exact common_of a b w 2 4 h0 h1 (by kernel_rfl)
  | 5, _, h1 => exact common_of a b w 2 5 h0 h1 (by kernel_rfl)
  | 6, _, h1 => exact common_of a b w 2 6 h0 h1 (by kernel_rfl)
  | 7, _, h1 => exact common_of a b w 2 7 h0 h1 (by kernel_rfl)
  | 8, _, h1 => exact common_of a b w 2 8 h0 h1 (by kernel_rfl)
  | 9, _, h1 => exact common_of a b w 2 9 h0 h1 (by kernel_rfl)
  | 10, _, h1 => exact common_of a b w 2 10 h0 h1 (by kernel_rfl)
  | 11, _, h1 => exact common_of a b w 2 11 h0 h1 (by kernel_rfl)
  | 12, _, h1 => exact common_of a b w 2 12 h0 h1 (by kernel_rfl)
  | 13, _, h1 => exact common_of a b w 2 13 h0 h1 (by kernel_rfl)
  | 14, _, h1 => exact common_of a b w 2 14 h0 h1 (by kernel_rfl)
  | 15, _, h1 => exact common_of a b w 2 15 h0 h1 (by kernel_rfl)
  | n + 16, h, _ => exact absurd h (by omega)
theorem common_3 (a b : Int) (w : World) (r1 : Nat) (hr : r1 < 16) (h0 : evB2 .and .i64 a .i64 15 = some (.int .i64 (3 : Nat))) (h1 : evB2 .and .i64 b .i64 15 = some (.int .i64 r1)) :
    Calls Try.prog 5 #[.int .i64 a, .int .i64 b] w fun e w' => e = .returned (.bool true) ∧ Below w.heap.size w w' := by
  match r1, hr, h1 with
  | 0, _, h1 => exact common_of a b w 3 0 h0 h1 (by kernel_rfl)
  | 1, _, h1 => exact common_of a b w 3 1 h0 h1 (by kernel_rfl)
  | 2, _, h1 => exact common_of a b w 3 2 h0 h1 (by kernel_rfl)
  | 3, _, h1 => exact common_of a b w 3 3 h0 h1 (by kernel_rfl)
  | 4, _, h1 => exact common_of a b w 3 4 h0 h1 (by kernel_rfl)
  | 5, _, h1 => exact common_of a b w 3 5 h0 h1 (by kernel_rfl)
  | 6, _, h1 => exact common_of a b w 3 6 h0 h1 (by kernel_rfl)
  | 7, _, h1 => exact common_of a b w 3 7 h0 h1 (by kernel_rfl)
  | 8, _, h1 => exact common_of a b w 3 8 h0 h1 (by kernel_rfl)
  | 9, _, h1 => exact common_of a b w 3 9 h0 h1 (by kernel_rfl)
  | 10, _, h1 => exact common_of a b w 3 10 h0 h1 (by kernel_rfl)
  | 11, _, h1 => exact common_of a b w 3 11 h0 h1 (by kernel_rfl)
  | 12, _, h1 => exact common_of a b w 3 12 h0 h1 (by kernel_rfl)
  | 13, _, h1 => exact common_of a b w 3 13 h0 h1 (by kernel_rfl)
  | 14, _, h1 => exact common_of a b w 3 14 h0 h1 (by kernel_rfl)
  | 15, _, h1 => exact common_of a b w 3 15 h0 h1 (by kernel_rfl)
  | n + 16, h, _ => exact absurd h (by omega)
end Go.Proofs.Ytilljobnaoefiaa
