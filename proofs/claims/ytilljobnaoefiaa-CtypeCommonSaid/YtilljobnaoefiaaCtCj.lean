/- CtypeCommon answers true. No condition. -/
import Derived.Test.YtilljobnaoefiaaCtC0
import Derived.Test.YtilljobnaoefiaaCtC1
import Derived.Test.YtilljobnaoefiaaCtC2
import Derived.Test.YtilljobnaoefiaaCtC3
namespace Go.Proofs.Ytilljobnaoefiaa
open Go.RowKit
set_option linter.unusedVariables false
theorem common_law (a b : Int) (w : World) (ha : In64 a) (hb : In64 b) : Calls Try.prog 5 #[.int .i64 a, .int .i64 b] w fun e w' => e = .returned (.bool true) ∧ Below w.heap.size w w' := by
  obtain ⟨r0, l0, h0⟩ := and15 a
  obtain ⟨r1, l1, h1⟩ := and15 b
  match r0, l0, h0 with
  | 0, _, h0 => exact common_0 a b w r1 l1 h0 h1
  | 1, _, h0 => exact common_1 a b w r1 l1 h0 h1
  | 2, _, h0 => exact common_2 a b w r1 l1 h0 h1
  | 3, _, h0 => exact common_3 a b w r1 l1 h0 h1
  | 4, _, h0 => exact common_4 a b w r1 l1 h0 h1
  | 5, _, h0 => exact common_5 a b w r1 l1 h0 h1
  | 6, _, h0 => exact common_6 a b w r1 l1 h0 h1
  | 7, _, h0 => exact common_7 a b w r1 l1 h0 h1
  | 8, _, h0 => exact common_8 a b w r1 l1 h0 h1
  | 9, _, h0 => exact common_9 a b w r1 l1 h0 h1
  | 10, _, h0 => exact common_10 a b w r1 l1 h0 h1
  | 11, _, h0 => exact common_11 a b w r1 l1 h0 h1
  | 12, _, h0 => exact common_12 a b w r1 l1 h0 h1
  | 13, _, h0 => exact common_13 a b w r1 l1 h0 h1
  | 14, _, h0 => exact common_14 a b w r1 l1 h0 h1
  | 15, _, h0 => exact common_15 a b w r1 l1 h0 h1
  | n + 16, h, _ => exact absurd h (by omega)
end Go.Proofs.Ytilljobnaoefiaa
