/- Walks: comparisons of the program and of the reference. No condition. -/
import Derived.Test.YtaijipapdbahkaaFit
namespace Go.Proofs.Ytaijipapdbahkaa
open Go.RowKit
set_option linter.unusedVariables false
set_option maxHeartbeats 400000
/-- the names of the comparisons, and of one that is none -/
def cmpB (op : Nat) : ByteArray :=
  match op with
  | 0 => ⟨#[61, 61]⟩ | 1 => ⟨#[33, 61]⟩ | 2 => ⟨#[60]⟩ | 3 => ⟨#[62]⟩ | 4 => ⟨#[60, 61]⟩ | 5 => ⟨#[62, 61]⟩ | _ => ⟨#[43]⟩
def keyS (sg : Bool) (a : Int) : Int := if sg then a else uS a
def cmpS (op : Nat) (sg : Bool) (a b : Int) : Int :=
  match op with
  | 0 => if a = b then 1 else 0
  | 1 => if a = b then 0 else 1
  | 2 => if keyS sg a < keyS sg b then 1 else 0
  | 3 => if keyS sg b < keyS sg a then 1 else 0
  | 4 => if keyS sg a ≤ keyS sg b then 1 else 0
  | 5 => if keyS sg b ≤ keyS sg a then 1 else 0
  | _ => 0
theorem ret_ints {k : IntKind} {a b : Int} (h : a = b) : Ending.returned (.int k a) = .returned (.int k b) := by rw [h]
theorem cmp_true (op : Nat) (hop : op < 7) (sz a b : Int) (w : World) (ha : In64 a) (hb : In64 b) :
    Calls Try.prog 14 #[.string (cmpB op), .agg #[.int .i64 1, .int .i64 sz, .bool true, .bool false, .pointer none, .int .i64 0, .int .i64 0, .slice none 0 0, .pointer none], .int .i64 a, .int .i64 b] w
      fun e w' => e = .returned (.int .i64 (cmpS op true a b)) ∧ Below w.heap.size w w' := by
  obtain ⟨h1, h2⟩ := ha
  obtain ⟨h3, h4⟩ := hb
  have hcs : op = 0 ∨ op = 1 ∨ op = 2 ∨ op = 3 ∨ op = 4 ∨ op = 5 ∨ op = 6 := by omega
  clear hop
  have hu1 : IntKind.u64.wrap a = uS a := by rw [IntKind.wrap_u64]; rfl
  have hu2 : IntKind.u64.wrap b = uS b := by rw [IntKind.wrap_u64]; rfl
  have e1 : Hid (uS a = a % 18446744073709551616) := rfl
  have e2 : Hid (uS b = b % 18446744073709551616) := rfl
  rcases hcs with rfl | rfl | rfl | rfl | rfl | rfl | rfl <;> simp only [cmpB]
  all_goals
    go_enter Try.func14, Try.ntmps14
    go_wp2
    all_goals go_returns
    all_goals refine ⟨ret_ints ?_, by go_grown⟩
    all_goals have e1 := e1.out
    all_goals have e2 := e2.out
    all_goals simp only [cmpS, keyS]
    all_goals simp at *
    all_goals first | (split <;> omega) | omega
theorem cmp_false (op : Nat) (hop : op < 7) (sz a b : Int) (w : World) (ha : In64 a) (hb : In64 b) :
    Calls Try.prog 14 #[.string (cmpB op), .agg #[.int .i64 1, .int .i64 sz, .bool false, .bool false, .pointer none, .int .i64 0, .int .i64 0, .slice none 0 0, .pointer none], .int .i64 a, .int .i64 b] w
      fun e w' => e = .returned (.int .i64 (cmpS op false a b)) ∧ Below w.heap.size w w' := by
  obtain ⟨h1, h2⟩ := ha
  obtain ⟨h3, h4⟩ := hb
  have hcs : op = 0 ∨ op = 1 ∨ op = 2 ∨ op = 3 ∨ op = 4 ∨ op = 5 ∨ op = 6 := by omega
  clear hop
  have hu1 : IntKind.u64.wrap a = uS a := by rw [IntKind.wrap_u64]; rfl
  have hu2 : IntKind.u64.wrap b = uS b := by rw [IntKind.wrap_u64]; rfl
  have e1 : Hid (uS a = a % 18446744073709551616) := rfl
  have e2 : Hid (uS b = b % 18446744073709551616) := rfl
  rcases hcs with rfl | rfl | rfl | rfl | rfl | rfl | rfl <;> simp only [cmpB]
  all_goals
    go_enter Try.func14, Try.ntmps14
    go_wp2
    all_goals go_returns
    all_goals refine ⟨ret_ints ?_, by go_grown⟩
    all_goals have e1 := e1.out
    all_goals have e2 := e2.out
    all_goals simp only [cmpS, keyS]
    all_goals simp at *
    all_goals first | (split <;> omega) | omega
theorem cmp_any (op : Nat) (hop : op < 7) (sz a b : Int) (sg : Bool) (w : World) (ha : In64 a) (hb : In64 b) :
    Calls Try.prog 14 #[.string (cmpB op), .agg #[.int .i64 1, .int .i64 sz, .bool sg, .bool false, .pointer none, .int .i64 0, .int .i64 0, .slice none 0 0, .pointer none], .int .i64 a, .int .i64 b] w
      fun e w' => e = .returned (.int .i64 (cmpS op sg a b)) ∧ Below w.heap.size w w' := by
  cases sg
  · exact cmp_false op hop sz a b w ha hb
  · exact cmp_true op hop sz a b w ha hb
theorem rcmp_true (op : Nat) (hop : op < 7) (sz a b : Int) (w : World) (ha : In64 a) (hb : In64 b) :
    Calls Try.prog 15 #[.string (cmpB op), .agg #[.int .i64 1, .int .i64 sz, .bool true, .bool false, .pointer none, .int .i64 0, .int .i64 0, .slice none 0 0, .pointer none], .int .i64 a, .int .i64 b] w
      fun e w' => e = .returned (.int .i64 (cmpS op true a b)) ∧ Below w.heap.size w w' := by
  obtain ⟨h1, h2⟩ := ha
  obtain ⟨h3, h4⟩ := hb
  have hcs : op = 0 ∨ op = 1 ∨ op = 2 ∨ op = 3 ∨ op = 4 ∨ op = 5 ∨ op = 6 := by omega
  clear hop
  have hu1 : IntKind.u64.wrap a = uS a := by rw [IntKind.wrap_u64]; rfl
  have hu2 : IntKind.u64.wrap b = uS b := by rw [IntKind.wrap_u64]; rfl
  have e1 : Hid (uS a = a % 18446744073709551616) := rfl
  have e2 : Hid (uS b = b % 18446744073709551616) := rfl
  rcases hcs with rfl | rfl | rfl | rfl | rfl | rfl | rfl <;> simp only [cmpB]
  all_goals
    go_enter Try.func15, Try.ntmps15
    go_wp2
    all_goals go_returns
    all_goals refine ⟨ret_ints ?_, by go_grown⟩
    all_goals have e1 := e1.out
    all_goals have e2 := e2.out
    all_goals simp only [cmpS, keyS]
    all_goals simp at *
    all_goals first | (split <;> omega) | omega
theorem rcmp_false (op : Nat) (hop : op < 7) (sz a b : Int) (w : World) (ha : In64 a) (hb : In64 b) :
    Calls Try.prog 15 #[.string (cmpB op), .agg #[.int .i64 1, .int .i64 sz, .bool false, .bool false, .pointer none, .int .i64 0, .int .i64 0, .slice none 0 0, .pointer none], .int .i64 a, .int .i64 b] w
      fun e w' => e = .returned (.int .i64 (cmpS op false a b)) ∧ Below w.heap.size w w' := by
  obtain ⟨h1, h2⟩ := ha
  obtain ⟨h3, h4⟩ := hb
  have hcs : op = 0 ∨ op = 1 ∨ op = 2 ∨ op = 3 ∨ op = 4 ∨ op = 5 ∨ op = 6 := by omega
  clear hop
  have hu1 : IntKind.u64.wrap a = uS a := by rw [IntKind.wrap_u64]; rfl
  have hu2 : IntKind.u64.wrap b = uS b := by rw [IntKind.wrap_u64]; rfl
  have e1 : Hid (uS a = a % 18446744073709551616) := rfl
  have e2 : Hid (uS b = b % 18446744073709551616) := rfl
  rcases hcs with rfl | rfl | rfl | rfl | rfl | rfl | rfl <;> simp only [cmpB]
  all_goals
    go_enter Try.func15, Try.ntmps15
    go_wp2
    all_goals go_returns
    all_goals refine ⟨ret_ints ?_, by go_grown⟩
    all_goals have e1 := e1.out
    all_goals have e2 := e2.out
    all_goals simp only [cmpS, keyS]
    all_goals simp at *
    all_goals first | (split <;> omega) | omega
theorem rcmp_any (op : Nat) (hop : op < 7) (sz a b : Int) (sg : Bool) (w : World) (ha : In64 a) (hb : In64 b) :
    Calls Try.prog 15 #[.string (cmpB op), .agg #[.int .i64 1, .int .i64 sz, .bool sg, .bool false, .pointer none, .int .i64 0, .int .i64 0, .slice none 0 0, .pointer none], .int .i64 a, .int .i64 b] w
      fun e w' => e = .returned (.int .i64 (cmpS op sg a b)) ∧ Below w.heap.size w w' := by
  cases sg
  · exact rcmp_false op hop sz a b w ha hb
  · exact rcmp_true op hop sz a b w ha hb
end Go.Proofs.Ytaijipapdbahkaa
