/- CtypeCommon: runs, part 2. No condition. -/
import Derived.Test.YtilljobnaoefiaaCtC
namespace Go.Proofs.Ytilljobnaoefiaa
open Go.RowKit
set_option linter.unusedVariables false
theorem common_8 (a b : Int) (w : World) (r1 : Nat) (hr : r1 < 16) (h0 : evB2 .and .i64 a .i64 15 = some (.int .i64 (8 : Nat))) (h1 : evB2 .and .i64 b .i64 15 = some (.int .i64 r1)) :
    Calls Try.prog 5 #[.int .i64 a, .int .i64 b] w fun e w' => e = .returned (.bool true) ∧ Below w.heap.size w w' := by
  match r1, hr, h1 with
  | 0, _, h1 => exact common_of a b w 8 0 h0 h1 (by kernel_rfl)
  | 1, _, h1 => exact common_of a b w 8 1 h0 h1 (by kernel_rfl)
  | 2, _, h1 => exact common_of a b w 8 2 h0 h1 (by kernel_rfl)
  | 3, _, h1 => exact common_of a b w 8 3 h0 h1 (by kernel_rfl)
  | 4, _, h1 => exact common_of a b w 8 4 h0 h1 (by kernel_rfl)
  | 5, _, h1 => exact common_of a b w 8 5 h0 h1 (by kernel_rfl)
  | 6, _, h1 => exact common_of a b w 8 6 h0 h1 (by kernel_rfl)
  | 7, _, h1 => exact common_of a b w 8 7 h0 h1 (by kernel_rfl)
  | 8, _, h1 => exact common_of a b w 8 8 h0 h1 (by kernel_rfl)
  | 9, _, h1 => exact common_of a b w 8 9 h0 h1 (by kernel_rfl)
  | 10, _, h1 => exact common_of a b w 8 10 h0 h1 (by kernel_rfl)
  | 11, _, h1 => exact common_of a b w 8 11 h0 h1 (by kernel_rfl)
  | 12, _, h1 => exact common_of a b w 8 12 h0 h1 (by kernel_rfl)
  | 13, _, h1 => exact common_of a b w 8 13 h0 h1 (by kernel_rfl)
  | 14, _, h1 => exact common_of a b w 8 14 h0 h1 (by kernel_rfl)
  | 15, _, h1 => exact common_of a b w 8 15 h0 h1 (by kernel_rfl)
  | n + 16, h, _ => exact absurd h (by omega)
theorem common_9 (a b : Int) (w : World) (r1 : Nat) (hr : r1 < 16) (h0 : evB2 .and .i64 a .i64 15 = some (.int .i64 (9 : Nat))) (h1 : evB2 .and .i64 b .i64 15 = some (.int .i64 r1)) :
    Calls Try.prog 5 #[.int .i64 a, .int .i64 b] w fun e w' => e = .returned (.bool true) ∧ Below w.heap.size w w' := by
  match r1, hr, h1 with
  | 0, _, h1 => exact common_of a b w 9 0 h0 h1 (by kernel_rfl)
  | 1, _, h1 => exact common_of a b w 9 1 h0 h1 (by kernel_rfl)
  | 2, _, h1 => exact common_of a b w 9 2 h0 h1 (by kernel_rfl)
  | 3, _, h1 => exact common_of a b w 9 3 h0 h1 (by kernel_rfl)
  | 4, _, h1 => exact common_of a b w 9 4 h0 h1 (by kernel_rfl)
  | 5, _, h1 => exact common_of a b w 9 5 h0 h1 (by kernel_rfl)
  | 6, _, h1 => exact common_of a b w 9 6 h0 h1 (by kernel_rfl)
  | 7, _, h1 => exact common_of a b w 9 7 h0 h1 (by kernel_rfl)
  | 8, _, h1 => exact common_of a b w 9 8 h0 h1 (by kernel_rfl)
  | 9, _, h1 => exact common_of a b w 9 9 h0 h1 (by kernel_rfl)
  | 10, _, h1 => exact common_of a b w 9 10 h0 h1 (by kernel_rfl)
  | 11, _, h1 => exact common_of a b w 9 11 h0 h1 (by kernel_rfl)
  | 12, _, h1 => exact common_of a b w 9 12 h0 h1 (by kernel_rfl)
  | 13, _, h1 => exact common_of a b w 9 13 h0 h1 (by kernel_rfl)
  | 14, _, h1 => exact common_of a b w 9 14 h0 h1 (by kernel_rfl)
  | 15, _, h1 => exact common_of a b w 9 15 h0 h1 (by kernel_rfl)
  | n + 16, h, _ => exact absurd h (by omega)
theorem common_10 (a b : Int) (w : World) (r1 : Nat) (hr : r1 < 16) (h0 : evB2 .and .i64 a .i64 15 = some (.int .i64 (10 : Nat))) (h1 : evB2 .and .i64 b .i64 15 = some (.int .i64 r1)) :
    Calls Try.prog 5 #[.int .i64 a, .int .i64 b] w fun e w' => e = .returned (.bool true) ∧ Below w.heap.size w w' := by
  match r1, hr, h1 with
  | 0, _, h1 => exact common_of a b w 10 0 h0 h1 (by kernel_rfl)
  | 1, _, h1 => exact common_of a b w 10 1 h0 h1 (by kernel_rfl)
  | 2, _, h1 => exact common_of a b w 10 2 h0 h1 (by kernel_rfl)
  | 3, _, h1 => exact common_of a b w 10 3 h0 h1 (by kernel_rfl)
  | 4, _, h1 => exact common_of a b w 10 4 h0 h1 (by kernel_rfl)
  | 5, _, h1 => exact common_of a b w 10 5 h0 h1 (by kernel_rfl)
  | 6, _, h1 => exact common_of a b w 10 6 h0 h1 (by kernel_rfl)
  | 7, _, h1 => exact common_of a b w 10 7 h0 h1 (by kernel_rfl)
  | 8, _, h1 => exact common_of a b w 10 8 h0 h1 (by kernel_rfl)
  | 9, _, h1 => exact common_of a b w 10 9 h0 h1 (by kernel_rfl)
  | 10, _, h1 => exact common_of a b w 10 10 h0 h1 (by kernel_rfl)
  | 11, _, h1 => exact common_of a b w 10 11 h0 h1 (by kernel_rfl)
  | 12, _, h1 => exact common_of a b w 10 12 h0 h1 (by kernel_rfl)
  | 13, _, h1 => exact common_of a b w 10 13 h0 h1 (by kernel_rfl)
  | 14, _, h1 => exact common_of a b w 10 14 h0 h1 (by kernel_rfl)
  | 15, _, h1 => exact common_of a b w 10 15 h0 h1 (by kernel_rfl)
  | n + 16, h, _ => exact absurd h (by omega)
theorem common_11 (a b : Int) (w : World) (r1 : Nat) (hr : r1 < 16) (h0 : evB2 .and .i64 a .i64 15 = some (.int .i64 (11 : Nat))) (h1 : evB2 .and .i64 b .i64 15 = some (.int .i64 r1)) :
    Calls Try.prog 5 #[.int .i64 a, .int .i64 b] w fun e w' => e = .returned (.bool true) ∧ Below w.heap.size w w' := by
  match r1, hr, h1 with
  | 0, _, h1 => exact common_of a b w 11 0 h0 h1 (by kernel_rfl)
  | 1, _, h1 => exact common_of a b w 11 1 h0 h1 (by kernel_rfl)
  | 2, _, h1 => exact common_of a b w 11 2 h0 h1 (by kernel_rfl)
  | 3, _, h1 => exact common_of a b w 11 3 h0 h1 (by kernel_rfl)
  | 4, _, h1 => exact common_of a b w 11 4 h0 h1 (by kernel_rfl)
  | 5, _, h1 => exact common_of a b w 11 5 h0 h1 (by kernel_rfl)
  | 6, _, h1 => exact common_of a b w 11 6 h0 h1 (by kernel_rfl)
  | 7, _, h1 => exact common_of a b w 11 7 h0 h1 (by kernel_rfl)
  | 8, _, h1 => exact common_of a b w 11 8 h0 h1 (by kernel_rfl)
  | 9, _, h1 => exact common_of a b w 11 9 h0 h1 (by kernel_rfl)
  | 10, _, h1 => exact common_of a b w 11 10 h0 h1 (by kernel_rfl)
  | 11, _, h1 => exact common_of a b w 11 11 h0 h1 (by kernel_rfl)
  | 12, _, h1 => exact common_of a b w 11 12 h0 h1 (by kernel_rfl)
  | 13, _, h1 => exact common_of a b w 11 13 h0 h1 (by kernel_rfl)
  | 14, _, h1 => exact common_of a b w 11 14 h0 h1 (by kernel_rfl)
  | 15, _, h1 => exact common_of a b w 11 15 h0 h1 (by kernel_rfl)
  | n + 16, h, _ => exact absurd h (by omega)
end Go.Proofs.Ytilljobnaoefiaa
