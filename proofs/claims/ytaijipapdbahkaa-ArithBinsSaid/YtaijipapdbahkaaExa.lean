/- Walks: the statements' example. No condition. -/
import Derived.Test.YtaijipapdbahkaaTyp
import Derived.Test.YtaijipapdbahkaaRbin
import Derived.Test.YtaijipapdbahkaaCmp
namespace Go.Proofs.Ytaijipapdbahkaa
open Go.RowKit
set_option linter.unusedVariables false
set_option maxHeartbeats 400000
theorem _root_.Go.RowKit.Below.bt {w w1 w2 : World} (h : Below w.heap.size w w1) (k : Below w1.heap.size w1 w2) : Below w.heap.size w w2 := h.trans (k.mono h.size)
theorem bool_walk (w : World) : Calls Try.prog 16 #[.bool true] w fun e w' => e = .returned (.int .i64 1) ∧ Below w.heap.size w w' := by
  go_enter Try.func16, Try.ntmps16
  go_wp2
  go_returns
  exact ⟨rfl, Below.refl _ _⟩
theorem type_4 (w : World) : Calls Try.prog 8 #[.int .i64 4] w
      fun e w' => e = .returned (.agg #[.int .i64 1, .int .i64 1, .bool false, .bool false, .pointer none, .int .i64 0, .int .i64 0, .slice none 0 0, .pointer none]) ∧ Below w.heap.size w w' :=
  type_any 4 w (by unfold In64; omega)
theorem type_2 (w : World) : Calls Try.prog 8 #[.int .i64 2] w
      fun e w' => e = .returned (.agg #[.int .i64 1, .int .i64 4, .bool true, .bool false, .pointer none, .int .i64 0, .int .i64 0, .slice none 0 0, .pointer none]) ∧ Below w.heap.size w w' :=
  type_any 2 w (by unfold In64; omega)
theorem bin_ex (w : World) : Calls Try.prog 11 #[.string ⟨#[43]⟩, .agg #[.int .i64 1, .int .i64 1, .bool false, .bool false, .pointer none, .int .i64 0, .int .i64 0, .slice none 0 0, .pointer none], .int .i64 200, .int .i64 100] w
      fun e w' => e = .returned (.tuple #[.int .i64 44, .bool true]) ∧ Below w.heap.size w w' :=
  bin_any 0 (by decide) 1 200 100 false w (by unfold Size; omega) (by unfold In64; omega) (by unfold In64; omega)
theorem cmp_ex (w : World) : Calls Try.prog 14 #[.string ⟨#[60]⟩, .agg #[.int .i64 1, .int .i64 4, .bool true, .bool false, .pointer none, .int .i64 0, .int .i64 0, .slice none 0 0, .pointer none], .int .i64 (-1), .int .i64 0] w
      fun e w' => e = .returned (.int .i64 1) ∧ Below w.heap.size w w' :=
  cmp_any 2 (by decide) 4 (-1) 0 true w (by unfold In64; omega) (by unfold In64; omega)
theorem fit_law (w : World) : Calls Try.prog 7 #[] w fun e w' => e = .returned (.bool true) ∧ Below w.heap.size w w' := by
  go_enter Try.func7, Try.ntmps7
  go_wp2_with (first | ((go_at_call 8; (with_reducible refine (type_4 _).mono ?_); rintro e w1 ⟨rfl, hb1⟩)) | ((go_at_call 11; (with_reducible refine (bin_ex _).mono ?_); rintro e w2 ⟨rfl, hb2⟩)) | ((go_at_call 8; (with_reducible refine (type_2 _).mono ?_); rintro e w3 ⟨rfl, hb3⟩)) | ((go_at_call 14; (with_reducible refine (cmp_ex _).mono ?_); rintro e w4 ⟨rfl, hb4⟩)) | ((go_at_call 16; (with_reducible refine (bool_walk _).mono ?_); rintro e w5 ⟨rfl, hb5⟩)))
  go_returns
  exact ⟨rfl, ((((hb1.bt hb2).bt hb3).bt hb4).bt hb5)⟩
end Go.Proofs.Ytaijipapdbahkaa
