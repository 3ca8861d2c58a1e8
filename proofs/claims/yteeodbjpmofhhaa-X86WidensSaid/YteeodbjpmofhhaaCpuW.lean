/- Walks: numbers widened; the statement X86Widens. No condition. -/
import Derived.Test.YteeodbjpmofhhaaCpuP
namespace Go.Proofs.Yteeodbjpmofhhaa
open Go.RowKit
set_option linter.unusedVariables false
set_option maxHeartbeats 1000000
/-- the lowest bytes of a number -/
def wid (n size : Int) (sg : Bool) : Int :=
  if size = 1 then (if sg = true ∧ 128 ≤ n % 256 then n % 256 + 18446744073709551360 else n % 256)
  else if size = 2 then (if sg = true ∧ 32768 ≤ n % 65536 then n % 65536 + 18446744073709486080 else n % 65536)
  else if size = 4 then (if sg = true ∧ 2147483648 ≤ n % 4294967296 then n % 4294967296 + 18446744069414584320 else n % 4294967296)
  else n
theorem widen_walk (n size : Int) (sg : Bool) (w : World) (hn : InU64 n) :
    Calls Try.prog 16 #[.int .u64 n, .int .i64 size, .bool sg] w fun e w' => e = .returned (.int .u64 (wid n size sg)) ∧ w = w' := by
  obtain ⟨h1, h2⟩ := hn
  by_cases hs : size = 1 ∨ size = 2 ∨ size = 4
  · rcases hs with rfl | rfl | rfl <;> cases sg
    all_goals
      go_enter Try.func16, Try.ntmps16
      go_wp2
      go_returns
      refine ⟨ret_int ?_, rfl⟩
      simp only [wid, IntKind.wrap_u64, wrap64]
      simp
      omega
  · have e1 : (size == 1) = false := by simp; omega
    have e2 : (size == 2) = false := by simp; omega
    have e4 : (size == 4) = false := by simp; omega
    have hw : wid n size sg = n := by
      unfold wid; rw [if_neg (by omega), if_neg (by omega), if_neg (by omega)]
    rw [hw]
    clear hw
    have f1 : (size != 1) = true := by simp; omega
    have f2 : (size != 2) = true := by simp; omega
    have f4 : (size != 4) = true := by simp; omega
    go_enter Try.func16, Try.ntmps16
    go_wp2
    go_returns
    exact ⟨rfl, rfl⟩
theorem widen_ref (n size : Int) (sg : Bool) (w : World) (hn : InU64 n) :
    Calls Try.prog 17 #[.int .u64 n, .int .i64 size, .bool sg] w fun e w' => e = .returned (.int .u64 (wid n size sg)) ∧ w = w' := by
  obtain ⟨h1, h2⟩ := hn
  by_cases hs : size = 1 ∨ size = 2 ∨ size = 4
  · rcases hs with rfl | rfl | rfl <;> cases sg
    all_goals
      go_enter Try.func17, Try.ntmps17
      go_wp2
      all_goals go_returns
      all_goals refine ⟨ret_int ?_, rfl⟩
      all_goals simp only [wid, IntKind.wrap_u64, wrap64]
      all_goals simp
      all_goals omega
  · have e1 : (size == 1) = false := by simp; omega
    have e2 : (size == 2) = false := by simp; omega
    have e4 : (size == 4) = false := by simp; omega
    have hw : wid n size sg = n := by
      unfold wid; rw [if_neg (by omega), if_neg (by omega), if_neg (by omega)]
    rw [hw]
    clear hw
    have f1 : (size != 1) = true := by simp; omega
    have f2 : (size != 2) = true := by simp; omega
    have f4 : (size != 4) = true := by simp; omega
    go_enter Try.func17, Try.ntmps17
    go_wp2
    go_returns
    exact ⟨rfl, rfl⟩
theorem widens_walk (n size : Int) (sg : Bool) (w : World) (hn : InU64 n) :
    Calls Try.prog 6 #[.int .u64 n, .int .i64 size, .bool sg] w fun e w' => e = .returned (.bool true) ∧ Below w.heap.size w w' := by
  have W1 := Lib.hid (fun w => widen_walk n size sg w hn)
  have W2 := Lib.hid (fun w => widen_ref n size sg w hn)
  go_enter Try.func6, Try.ntmps6
  go_wp2_with fail
  refine (fit_walk _).mono ?_
  rintro e w1 ⟨rfl, kb1⟩
  go_wp2_with fail
  refine (W1.out _).mono ?_
  rintro e w2 ⟨rfl, rfl⟩
  go_wp2_with fail
  refine (W2.out _).mono ?_
  rintro e w2 ⟨rfl, rfl⟩
  go_wp2_with fail
  go_returns
  exact ⟨ret_bool (by simp), kb1⟩
end Go.Proofs.Yteeodbjpmofhhaa
