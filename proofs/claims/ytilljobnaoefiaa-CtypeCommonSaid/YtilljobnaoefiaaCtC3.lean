/- CtypeCommon: runs, part 3. No condition. -/
import Derived.Test.YtilljobnaoefiaaCtC
namespace Go.Proofs.Ytilljobnaoefiaa
open Go.RowKit
set_option linter.unusedVariables false
theorem common_12 (a b : Int) (w : World) (r1 : Nat) (hr : r1 < 16) (h0 : evB2 .and .i64 a .i64 15 = some (.int .i64 (12 : Nat))) (h1 : evB2 .and .i64 b .i64 15 = some (.int .i64 r1)) :
    Calls Try.prog 5 #[.int .i64 a, .int .i64 b] w fun e w' => e = .returned (.bool true) ∧ Below w.heap.size w w' := by
  match r1, hr, h1 with
  | 0, _, h1 => exact common_of a b w 12 0 h0 h1 (by kernel_rfl)
  | 1, _, h1 => exact common_of a b w 12 1 h0 h1 (by kernel_rfl)
  | 2, _, h1 => exact common_of a b w 12 2 h0 h1 (by kernel_rfl)
  | 3, _, h1 => exact common_of a b w 12 3 h0 h1 (by kernel_rfl)
  | 4, _, h1 => exact common_of a b w 12 4 h0 h1 (by kernel_rfl)
  | 5, _, h1 => exact common_of a b w 12 5 h0 h1 (by kernel_rfl)
  | 6, _, h1 => exact common_of a b w 12 6 h0 h1 (by kernel_rfl)
  | 7, _, h1 => exact common_of a b w 12 7 h0 h1 (by kernel_rfl)
  | 8, _, h1 => exact common_of a b w 12 8 h0 h1 (by kernel_rfl)
  | 9, _, h1 => exact common_of a b w 12 9 h0 h1 (by kernel_rfl)
  | 10, _, h1 => exact common_of a b w 12 10 h0 h1 (by kernel_rfl)
  | 11, _, h1 => exact common_of a b w 12 11 h0 h1 (by kernel_rfl)
  | 12, _, h1 => exact common_of a b w 12 12 h0 h1 (by kernel_rfl)
  | 13, _, h1 => exact common_of a b w 12 13 h0 h1 (by kernel_rfl)
  | 14, _, h1 => exact common_of a b w 12 14 h0 h1 (by kernel_rfl)
  | 15, _, h1 => exact common_of a b w 12 15 h0 h1 (by kernel_rfl)
  | n + 16, h, _ => exact absurd h (by omega)
theorem common_13 (a b : Int) (w : World) (r1 : Nat) (hr : r1 < 16) (h0 : evB2 .and .i64 a .i64 15 = some (.int .i64 (13 : Nat))) (h1 : evB2 .and .i64 b .i64 15 = some (.int .i64 r1)) :
    Calls Try.prog 5 #[.int .i64 a, .int .i64 b] w fun e w' => e = .returned (.bool true) ∧ Below w.heap.size w w' := by
  match r1, hr, h1 with
  | 0, _, h1 => exact common_of a b w 13 0 h0 h1 (by kernel_rfl)
  | 1, _, h1 => exact common_of a b w 13 1 h0 h1 (by kernel_rfl)
  | 2, _, h1 => exact common_of a b w 13 2 h0 h1 (by kernel_rfl)
  | 3, _, h1 => exact common_of a b w 13 3 h0 h1 (by kernel_rfl)
  | 4, _, h1 => exact common_of a b w 13 4 h0 h1 (by kernel_rfl)
  | 5, _, h1 => exact common_of a b w 13 5 h0 h1 (by kernel_rfl)
  | 6, _, h1 => exact common_of a b w 13 6 h0 h1 (by kernel_rfl)
  | 7, _, h1 => exact common_of a b w 13 7 h0 h1 (by kernel_rfl)
  | 8, _, h1 => exact common_of a b w 13 8 h0 h1 (by kernel_rfl)
  | 9, _, h1 => exact common_of a b w 13 9 h0 h1 (by kernel_rfl)
  | 10, _, h1 => exact common_of a b w 13 10 h0 h1 (by kernel_rfl)
  | 11, _, h1 => exact common_of a b w 13 11 h0 h1 (by kernel_rfl)
  | 12, _, h1 => exact common_of a b w 13 12 h0 h1 (by kernel_rfl)
  | 13, _, h1 => exact common_of a b w 13 13 h0 h1 (by kernel_rfl)
  | 14, _, h1 => exact common_of a b w 13 14 h0 h1 (by kernel_rfl)
  | 15, _, h1 => exact common_of a b w 13 15 h0 h1 (by kernel_rfl)
  | n + 16, h, _ => exact absurd h (by omega)
theorem common_14 (a b : Int) (w : World) (r1 : Nat) (hr : r1 < 16) (h0 : evB2 .and .i64 a .i64 15 = some (.int .i64 (14 : Nat))) (h1 : evB2 .and .i64 b .i64 15 = some (.int .i64 r1)) :
    Calls Try.prog 5 #[.int .i64 a, .int .i64 b] w fun e w' => e = .returned (.bool true) ∧ Below w.heap.size w w' := by
  match r1, hr, h1 with
  | 0, _, h1 => exact common_of a b w 14 0 h0 h1 (by kernel_rfl)
  | 1, _, h1 => exact common_of a b w 14 1 h0 h1 (by kernel_rfl)
  | 2, _, h1 => exact common_of a b w 14 2 h0 h1 (by kernel_rfl)
  | 3, _, h1 => exact common_of a b w 14 3 h0 h1 (by kernel_rfl)
  | 4, _, h1 => exact common_of a b w 14 4 h0 h1 (by kernel_rfl)
  | 5, _, h1 => exact common_of a b w 14 5 h0 h1 (by kernel_rfl)
  | 6, _, h1 => exact common_of a b w 14 6 h0 h1 (by kernel_rfl)
  | 7, _, h1 => exact common_of a b w 14 7 h0 h1 (by kernel_rfl)
  | 8, _, h1 => exact common_of a b w 14 8 h0 h1 (by kernel_rfl)
  | 9, _, h1 => exact common_of a b w 14 9 h0 h1 (by kernel_rfl)
  | 10, _, h1 => exact common_of a b w 14 10 h0 h1 (by kernel_rfl)
  | 11, _, h1 => exact common_of a b w 14 11 h0 h1 (by kernel_rfl)
  | 12, _, h1 => exact common_of a b w 14 12 h0 h1 (by kernel_rfl)
  | 13, _, h1 => exact common_of a b w 14 13 h0 h1 (by kernel_rfl)
  | 14, _, h1 => exact common_of a b w 14 14 h0 h1 (by kernel_rfl)
  | 15, _, h1 => exact common_of a b w 14 15 h0 h1 (by kernel_rfl)
  | n + 16, h, _ => exact absurd h (by omega)
theorem common_15 (a b : Int) (w : World) (r1 : Nat) (hr : r1 < 16) (h0 : evB2 .and .i64 a .i64 15 = some (.int .i64 (15 : Nat))) (h1 : evB2 .and .i64 b .i64 15 = some (.int .i64 r1)) :
    Calls Try.prog 5 #[.int .i64 a, .int .i64 b] w fun e w' => e = .returned (.bool true) ∧ Below w.heap.size w w' := by
  match r1, hr, h1 with
  | 0, _, h1 => exact common_of a b w 15 0 h0 h1 (by kernel_rfl)
  | 1, _, h1 => exact common_of a b w 15 1 h0 h1 (by kernel_rfl)
  | 2, _, h1 => exact common_of a b w 15 2 h0 h1 (by kernel_rfl)
  | 3, _, h1 => exact common_of a b w 15 3 h0 h1 (by kernel_rfl)
  | 4, _, h1 => exact common_of a b w 15 4 h0 h1 (by kernel_rfl)
  | 5, _, h1 => exact common_of a b w 15 5 h0 h1 (by kernel_rfl)
  | 6, _, h1 => exact common_of a b w 15 6 h0 h1 (by kernel_rfl)
  | 7, _, h1 => exact common_of a b w 15 7 h0 h1 (by kernel_rfl)
  | 8, _, h1 => exact common_of a b w 15 8 h0 h1 (by kernel_rfl)
  | 9, _, h1 => exact common_of a b w 15 9 h0 h1 (by kernel_rfl)
  | 10, _, h1 => exact common_of a b w 15 10 h0 h1 (by kernel_rfl)
  | 11, _, h1 => exact common_of a b w 15 11 h0 h1 (by kernel_rfl)
  | 12, _, h1 => exact common_of a b w 15 12 h0 h1 (by kernel_rfl)
  | 13, _, h1 => exact common_of a b w 15 13 h0 h1 (by kernel_rfl)
  | 14, _, h1 => exact common_of a b w 15 14 h0 h1 (by kernel_rfl)
  | 15, _, h1 => exact common_of a b w 15 15 h0 h1 (by kernel_rfl)
  | n + 16, h, _ => exact absurd h (by omega)
end Go.Proofs.Ytilljobnaoefiaa
