/- Walks: operators of the program. No condition. -/
import Derived.Test.YtaijipapdbahkaaRquo
import Derived.Test.YtaijipapdbahkaaBitw
namespace Go.Proofs.Ytaijipapdbahkaa
open Go.RowKit
set_option linter.unusedVariables false
set_option maxHeartbeats 400000
/-- what an operator answers -/
def binS (op : Nat) (sz : Int) (sg : Bool) (a b : Int) : Int × Bool :=
  match op with
  | 0 => (fitS sz sg (a + b), true)
  | 1 => (fitS sz sg (a - b), true)
  | 2 => (fitS sz sg (a * b), true)
  | 3 => (bits .and .i64 a b, true)
  | 4 => (bits .or .i64 a b, true)
  | 5 => (fitS sz sg (bits .xor .i64 a b), true)
  | 6 => (fitS sz sg (a * 2 ^ shS sz b), true)
  | 7 => (if sg then a / 2 ^ shS sz b else wrap64 (uS a / 2 ^ shS sz b), true)
  | op => quoS op sz sg a b
theorem bits_In (op : BinOp) (a b : Int) : In64 (bits op .i64 a b) := by
  unfold bits
  split <;> exact iwrap_In _
theorem bin_a (op : Nat) (hop : op = 0 ∨ op = 1 ∨ op = 2 ∨ op = 5) (sz a b : Int) (sg : Bool) (w : World) (h : Size sz) (ha : In64 a) (hb : In64 b) :
    Calls Try.prog 11 #[.string (opB op), .agg #[.int .i64 1, .int .i64 sz, .bool sg, .bool false, .pointer none, .int .i64 0, .int .i64 0, .slice none 0 0, .pointer none], .int .i64 a, .int .i64 b] w
      fun e w' => e = .returned (.tuple #[.int .i64 (binS op sz sg a b).1, .bool (binS op sz sg a b).2]) ∧ Below w.heap.size w w' := by
  have H := Lib.hid h; clear h
  obtain ⟨h1, h2⟩ := ha
  obtain ⟨h3, h4⟩ := hb
  rcases hop with rfl | rfl | rfl | rfl <;> simp only [opB, binS]
  all_goals
    go_enter Try.func11, Try.ntmps11
    go_wp2_with ((go_at_call 13; (with_reducible refine (fit_any _ _ _ _ ?_ ?_).mono ?_); (exact H.out); (first | exact iwrap_In _ | exact wrap64_In _ | exact bits_In _ _ _ | (unfold In64; omega)); rintro e w' ⟨rfl, hb1⟩))
    go_returns
    refine ⟨ret_ib ?_ rfl, below_new hb1⟩
    first | exact fitS_wrap H.out | rfl
theorem bin_b (op : Nat) (hop : op = 3 ∨ op = 4) (sz a b : Int) (sg : Bool) (w : World) (h : Size sz) (ha : In64 a) (hb : In64 b) :
    Calls Try.prog 11 #[.string (opB op), .agg #[.int .i64 1, .int .i64 sz, .bool sg, .bool false, .pointer none, .int .i64 0, .int .i64 0, .slice none 0 0, .pointer none], .int .i64 a, .int .i64 b] w
      fun e w' => e = .returned (.tuple #[.int .i64 (binS op sz sg a b).1, .bool (binS op sz sg a b).2]) ∧ Below w.heap.size w w' := by
  have H := Lib.hid h; clear h
  obtain ⟨h1, h2⟩ := ha
  obtain ⟨h3, h4⟩ := hb
  rcases hop with rfl | rfl <;> simp only [opB, binS]
  all_goals
    go_enter Try.func11, Try.ntmps11
    go_wp2
    go_returns
    exact ⟨ret_ib rfl rfl, by go_grown⟩
theorem bin_c (op : Nat) (hop : op = 8 ∨ op = 9 ∨ op = 10 ∨ op = 11) (sz a b : Int) (sg : Bool) (w : World) (h : Size sz) (ha : In64 a) (hb : In64 b) :
    Calls Try.prog 11 #[.string (opB op), .agg #[.int .i64 1, .int .i64 sz, .bool sg, .bool false, .pointer none, .int .i64 0, .int .i64 0, .slice none 0 0, .pointer none], .int .i64 a, .int .i64 b] w
      fun e w' => e = .returned (.tuple #[.int .i64 (binS op sz sg a b).1, .bool (binS op sz sg a b).2]) ∧ Below w.heap.size w w' := by
  have H := Lib.hid h; clear h
  have H1 := Lib.hid ha
  have H2 := Lib.hid hb
  clear ha hb
  have e : Hid (binS op sz sg a b = quoS op sz sg a b) := by unfold Hid; rcases hop with rfl | rfl | rfl | rfl <;> rfl
  rw [e.out]
  have hq := fun w => quo_any op hop sz a b sg w H.out H1.out H2.out
  have HQ := Lib.hid hq; clear hq
  generalize hqs : quoS op sz sg a b = q at *
  clear hqs
  rcases hop with rfl | rfl | rfl | rfl <;> simp only [opB] at HQ ⊢
  all_goals
    go_enter Try.func11, Try.ntmps11
    go_wp2_with ((go_at_call 17; (with_reducible refine (HQ.out _).mono ?_); rintro e w' ⟨rfl, hb1⟩))
    go_returns
    exact ⟨rfl, below_new hb1⟩
end Go.Proofs.Ytaijipapdbahkaa
