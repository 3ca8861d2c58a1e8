/- CtypeCommon: runs, part 1. No condition. -/
import Derived.Test.YtilljobnaoefiaaCtC
namespace Go.Proofs.Ytilljobnaoefiaa
open Go.RowKit
set_option linter.unusedVariables false
theorem common_4 (a b : Int) (w : World) (r1 : Nat) (hr : r1 < 16) (h0 : evB2 .and .i64 a .i64 15 = some (.int .i64 (4 : Nat))) (h1 : evB2 .and .i64 b .i64 15 = some (.int .i64 r1)) :
    Calls Try.prog 5 #[.int .i64 a, .int .i64 b] w fun e w' => e = .returned (.bool true) ∧ Below w.heap.size w w' := by
  match r1, hr, h1 with
  | 0, _, h1 => exact common_of a b w 4 0 h0 h1 (by kernel_rfl)
  | 1, _, h1 => exact common_of a b w 4 1 h0 h1 (by kernel_rfl)
  | 2, _, h1 => exact common_of a b w 4 2 h0 h1 (by kernel_rfl)
  | 3, _, h1 => exact common_of a b w 4 3 h0 h1 (by kernel_rfl)
  | 4, _, h1 => exact common_of a b w 4 4 h0 h1 (by kernel_rfl)
  | 5, _, h1 => exact common_of a b w 4 5 h0 h1 (by kernel_rfl)
  | 6, _, h1 => exact common_of a b w 4 6 h0 h1 (by kernel_rfl)
  | 7, _, h1 => exact common_of a b w 4 7 h0 h1 (by kernel_rfl)
  | 8, _, h1 => exact common_of a b w 4 8 h0 h1 (by kernel_rfl)
  | 9, _, h1 => exact common_of a b w 4 9 h0 h1 (by kernel_rfl)
  | 10, _, h1 => exact common_of a b w 4 10 h0 h1 (by kernel_rfl)
  | 11, _, h1 => exact common_of a b w 4 11 h0 h1 (by kernel_rfl)
  | 12, _, h1 => exact common_of a b w 4 12 h0 h1 (by kernel_rfl)
  | 13, _, h1 => exact common_of a b w 4 13 h0 h1 (by kernel_rfl)
  | 14, _, h1 => exact common_of a b w 4 14 h0 h1 (by kernel_rfl)
  | 15, _, h1 => exact common_of a b w 4 15 h0 h1 (by kernel_rfl)
  | n + 16, h, _ => exact absurd h (by omega)
theorem common_5 (a b : Int) (w : World) (r1 : Nat) (hr : r1 < 16) (h0 : evB2 .and .i64 a .i64 15 = some (.int .i64 (5 : Nat))) (h1 : evB2 .and .i64 b .i64 15 = some (.int .i64 r1)) :
    Calls Try.prog 5 #[.int .i64 a, .int .i64 b] w fun e w' => e = .returned (.bool true) ∧ Below w.heap.size w w' := by
  match r1, hr, h1 with
  | 0, _, h1 => exact common_of a b w 5 0 h0 h1 (by kernel_rfl)
  | 1, _, h1 => exact common_of a b w 5 1 h0 h1 (by kernel_rfl)
  | 2, _, h1 => exact common_of a b w 5 2 h0 h1 (by kernel_rfl)
  | 3, _, h1 => exact common_of a b w 5 3 h0 h1 (by kernel_rfl)
  | 4, _, h1 => exact common_of a b w 5 4 h0 h1 (by kernel_rfl)
  | 5, _, h1 => exact common_of a b w 5 5 h0 h1 (by kernel_rfl)
  | 6, _, h1 => exact common_of a b w 5 6 h0 h1 (by kernel_rfl)
  | 7, _, h1 => exact common_of a b w 5 7 h0 h1 (by kernel_rfl)
  | 8, _, h1 => exact common_of a b w 5 8 h0 h1 (by kernel_rfl)
  | 9, _, h1 => exact common_of a b w 5 9 h0 h1 (by kernel_rfl)
  | 10, _, h1 => exact common_of a b w 5 10 h0 h1 (by kernel_rfl)
  | 11, _, h1 => exact common_of a b w 5 11 h0 h1 (by kernel_rfl)
  | 12, _, h1 => exact common_of a b w 5 12 h0 h1 (by kernel_rfl)
  | 13, _, h1 => exact common_of a b w 5 13 h0 h1 (by kernel_rfl)
  | 14, _, h1 => exact common_of a b w 5 14 h0 h1 (by kernel_rfl)
  | 15, _, h1 => exact common_of a b w 5 15 h0 h1 (by kernel_rfl)
  | n + 16, h, _ => exact absurd h (by omega)
theorem common_6 (a b : Int) (w : World) (r1 : Nat) (hr : r1 < 16) (h0 : evB2 .and .i64 a .i64 15 = some (.int .i64 (6 : Nat))) (h1 : evB2 .and .i64 b .i64 15 = some (.int .i64 r1)) :
    Calls Try.prog 5 #[.int .i64 a, .int .i64 b] w fun e w' => e = .returned (.bool true) ∧ Below w.heap.size w w' := by
  match r1, hr, h1 with
  | 0, _, h1 => exact common_of a b w 6 0 h0 h1 (by kernel_rfl)
  | 1, _, h1 => exact common_of a b w 6 1 h0 h1 (by kernel_rfl)
  | 2, _, h1 => exact common_of a b w 6 2 h0 h1 (by kernel_rfl)
  | 3, _, h1 => exact common_of a b w 6 3 h0 h1 (by kernel_rfl)
  | 4, _, h1 => exact common_of a b w 6 4 h0 h1 (by kernel_rfl)
  | 5, _, h1 => exact common_of a b w 6 5 h0 h1 (by kernel_rfl)
  | 6, _, h1 => exact common_of a b w 6 6 h0 h1 (by kernel_rfl)
  | 7, _, h1 => exact common_of a b w 6 7 h0 h1 (by kernel_rfl)
  | 8, _, h1 => exact common_of a b w 6 8 h0 h1 (by kernel_rfl)
  | 9, _, h1 => exact common_of a b w 6 9 h0 h1 (by kernel_rfl)
  | 10, _, h1 => exact common_of a b w 6 10 h0 h1 (by kernel_rfl)
  | 11, _, h1 => exact common_of a b w 6 11 h0 h1 (by kernel_rfl)
  | 12, _, h1 => exact common_of a b w 6 12 h0 h1 (by kernel_rfl)
  | 13, _, h1 => exact common_of a b w 6 13 h0 h1 (by kernel_rfl)
  | 14, _, h1 => exact common_of a b w 6 14 h0 h1 (by kernel_rfl)
  | 15, _, h1 => exact common_of a b w 6 15 h0 h1 (by kernel_rfl)
  | n + 16, h, _ => exact absurd h (by omega)
theorem common_7 (a b : Int) (w : World) (r1 : Nat) (hr : r1 < 16) (h0 : evB2 .and .i64 a .i64 15 = some (.int .i64 (7 : Nat))) (h1 : evB2 .and .i64 b .i64 15 = some (.int .i64 r1)) :
    Calls Try.prog 5 #[.int .i64 a, .int .i64 b] w fun e w' => e = .returned (.bool true) ∧ Below w.heap.size w w' := by
  match r1, hr, h1 with
  | 0, _, h1 => exact common_of a b w 7 0 h0 h1 (by kernel_rfl)
  | 1, _, h1 => exact common_of a b w 7 1 h0 h1 (by kernel_rfl)
  | 2, _, h1 => exact common_of a b w 7 2 h0 h1 (by kernel_rfl)
  | 3, _, h1 => exact common_of a b w 7 3 h0 h1 (by kernel_rfl)
  | 4, _, h1 => exact common_of a b w 7 4 h0 h1 (by kernel_rfl)
  | 5, _, h1 => exact common_of a b w 7 5 h0 h1 (by kernel_rfl)
  | 6, _, h1 => exact common_of a b w 7 6 h0 h1 (by kernel_rfl)
  | 7, _, h1 => exact common_of a b w 7 7 h0 h1 (by kernel_rfl)
  | 8, _, h1 => exact common_of a b w 7 8 h0 h1 (by kernel_rfl)
  | 9, _, h1 => exact common_of a b w 7 9 h0 h1 (by kernel_rfl)
  | 10, _, h1 => exact common_of a b w 7 10 h0 h1 (by kernel_rfl)
  | 11, _, h1 => exact common_of a b w 7 11 h0 h1 (by kernel_rfl)
  | 12, _, h1 => exact common_of a b w 7 12 h0 h1 (by kernel_rfl)
  | 13, _, h1 => exact common_of a b w 7 13 h0 h1 (by kernel_rfl)
  | 14, _, h1 => exact common_of a b w 7 14 h0 h1 (by kernel_rfl)
  | 15, _, h1 => exact common_of a b w 7 15 h0 h1 (by kernel_rfl)
  | n + 16, h, _ => exact absurd h (by omega)
end Go.Proofs.Ytilljobnaoefiaa
