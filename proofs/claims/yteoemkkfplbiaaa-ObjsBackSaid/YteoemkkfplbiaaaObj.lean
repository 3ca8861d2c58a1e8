/- ObjsBack answers true. No condition. -/
import Derived.Test.YteoemkkfplbiaaaOb0
import Derived.Test.YteoemkkfplbiaaaOb1
import Derived.Test.YteoemkkfplbiaaaOb2
import Derived.Test.YteoemkkfplbiaaaOb3
import Derived.Test.YteoemkkfplbiaaaOb4
import Derived.Test.YteoemkkfplbiaaaOb5
import Derived.Test.YteoemkkfplbiaaaOb6
import Derived.Test.YteoemkkfplbiaaaOb7
namespace Go.Proofs.Yteoemkkfplbiaaa
open Go.RowKit
set_option linter.unusedVariables false
theorem back_law (a b n : Int) (w : World) (ha : In64 a) (hb : In64 b) (hn : In64 n) : Calls Try.prog 3 #[.int .i64 a, .int .i64 b, .int .i64 n] w fun e w' => e = .returned (.bool true) ∧ Below w.heap.size w w' := by
  obtain ⟨r, hr, h0⟩ := modk a 16 (by decide) (by decide)
  obtain ⟨q, hq, h1⟩ := and_low b 4 (by decide)
  have hc : r = 0 ∨ r = 1 ∨ r = 2 ∨ r = 3 ∨ r = 4 ∨ r = 5 ∨ r = 6 ∨ r = 7 ∨ r = 8 ∨ r = 9 ∨ r = 10 ∨ r = 11 ∨ r = 12 ∨ r = 13 ∨ r = 14 ∨ r = 15 := by omega
  clear hr
  rcases hc with rfl | rfl | rfl | rfl | rfl | rfl | rfl | rfl | rfl | rfl | rfl | rfl | rfl | rfl | rfl | rfl
  · exact back_0 a b n w hn q (by simpa using hq) h0 h1
  · exact back_1 a b n w hn q (by simpa using hq) h0 h1
  · exact back_2 a b n w hn q (by simpa using hq) h0 h1
  · exact back_3 a b n w hn q (by simpa using hq) h0 h1
  · exact back_4 a b n w hn q (by simpa using hq) h0 h1
  · exact back_5 a b n w hn q (by simpa using hq) h0 h1
  · exact back_6 a b n w hn q (by simpa using hq) h0 h1
  · exact back_7 a b n w hn q (by simpa using hq) h0 h1
  · exact back_8 a b n w hn q (by simpa using hq) h0 h1
  · exact back_9 a b n w hn q (by simpa using hq) h0 h1
  · exact back_10 a b n w hn q (by simpa using hq) h0 h1
  · exact back_11 a b n w hn q (by simpa using hq) h0 h1
  · exact back_12 a b n w hn q (by simpa using hq) h0 h1
  · exact back_13 a b n w hn q (by simpa using hq) h0 h1
  · exact back_14 a b n w hn q (by simpa using hq) h0 h1
  · exact back_15 a b n w hn q (by simpa using hq) h0 h1
end Go.Proofs.Yteoemkkfplbiaaa
