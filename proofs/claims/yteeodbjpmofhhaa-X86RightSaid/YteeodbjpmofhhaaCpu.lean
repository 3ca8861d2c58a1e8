/- Walks: flags and the operations of two numbers. No condition. -/
import Derived.Test.YteeodbjpmofhhaaBits
import Derived.Test.YteeodbjpmofhhaaChecked
namespace Go.Proofs.Yteeodbjpmofhhaa
open Go.RowKit
set_option linter.unusedVariables false
set_option maxHeartbeats 1000000
/-- flags -/
structure Fl where
  z : Bool
  s : Bool
  c : Bool
  o : Bool
deriving DecidableEq
def Fl.v (f : Fl) : Value := .agg #[.bool f.z, .bool f.s, .bool f.c, .bool f.o]
def w64 (n : Int) : Int := IntKind.u64.wrap n
def p63 (n : Int) : Bool := n / 9223372036854775808 == 1
def cmpF (a b : Int) : Fl := ⟨w64 (a - b) == 0, p63 (w64 (a - b)), decide (a < b), p63 (bits .and .u64 (bits .xor .u64 a b) (bits .xor .u64 a (w64 (a - b))))⟩
def logF (n : Int) : Fl := ⟨n == 0, p63 n, false, false⟩
def addF (a b : Int) : Fl := ⟨w64 (a + b) == 0, p63 (w64 (a + b)), decide (w64 (a + b) < a), p63 (bits .and .u64 (bits .xor .u64 a (w64 (a + b))) (bits .xor .u64 b (w64 (a + b))))⟩
theorem compare_walk (a b : Int) (w : World) (ha : InU64 a) (hb : InU64 b) :
    Calls Try.prog 12 #[.int .u64 a, .int .u64 b] w fun e w' => e = .returned (cmpF a b).v ∧ Below w.heap.size w w' := by
  obtain ⟨ha1, ha2⟩ := ha
  obtain ⟨hb1, hb2⟩ := hb
  go_enter Try.func12, Try.ntmps12
  go_wp2
  go_returns
  exact ⟨rfl, below_alloc _ (Below.refl _ _)⟩
theorem logic_walk (a : Int) (w : World) :
    Calls Try.prog 21 #[.int .u64 a] w fun e w' => e = .returned (logF a).v ∧ Below w.heap.size w w' := by
  go_enter Try.func21, Try.ntmps21
  go_wp2
  go_returns
  exact ⟨rfl, below_alloc _ (Below.refl _ _)⟩
/-- the shifted number -/
def shf (op a : Int) (k : Nat) : Int := if op = 21 ∨ op = 24 then IntKind.u64.wrap (a * 2 ^ k) else if op = 22 ∨ op = 25 then IntKind.u64.wrap (wrap64 a / 2 ^ k) else a / 2 ^ k
def alu (op a b : Int) (f : Fl) : Int × Fl × Bool :=
  if op = 7 ∨ op = 14 then (w64 (a + b), addF a b, true)
  else if op = 8 ∨ op = 15 then (w64 (a - b), cmpF a b, true)
  else if op = 13 ∨ op = 20 then (a, cmpF a b, true)
  else if op = 9 ∨ op = 16 then (bits .and .u64 a b, logF (bits .and .u64 a b), true)
  else if op = 10 ∨ op = 17 then (bits .or .u64 a b, logF (bits .or .u64 a b), true)
  else if op = 11 ∨ op = 18 then (bits .xor .u64 a b, logF (bits .xor .u64 a b), true)
  else if op = 12 ∨ op = 19 then (w64 (a * b), logF (w64 (a * b)), true)
  else if 21 ≤ op ∧ op ≤ 26 then (if b % 64 = 0 then (a, f, true) else (shf op a (b % 64).toNat, logF (shf op a (b % 64).toNat), true))
  else (0, f, false)
theorem shf_in (op a : Int) (k : Nat) (ha : InU64 a) : InU64 (shf op a k) := by
  have hp : (0 : Int) < 2 ^ k := Int.pow_pos (by decide)
  obtain ⟨h1, h2⟩ := ha
  unfold shf InU64
  rw [IntKind.wrap_u64, IntKind.wrap_u64]
  split
  · omega
  · split
    · omega
    · have := Int.ediv_le_self (2 ^ k) h1
      have := Int.ediv_nonneg h1 (Int.le_of_lt hp)
      omega
def aluV (op a b : Int) (f : Fl) : Value := .tuple #[.int .u64 (alu op a b f).1, (alu op a b f).2.1.v, .bool (alu op a b f).2.2]
def aluIs (r : Int × Fl × Bool) (e : Ending) : Prop := e = .returned (.tuple #[.int .u64 r.1, r.2.1.v, .bool r.2.2])
theorem alu_keep (op a b : Int) (f : Fl) (w : World) (ha : InU64 a) (hb : InU64 b) (hop : op = 21 ∨ op = 24 ∨ op = 22 ∨ op = 25 ∨ op = 23 ∨ op = 26) (hk : b % 64 = 0) :
    Calls Try.prog 10 #[.int .i64 op, .int .u64 a, .int .u64 b, f.v] w fun e w' => aluIs (alu op a b f) e ∧ Below w.heap.size w w' := by
  obtain ⟨ha1, ha2⟩ := ha
  obtain ⟨hb1, hb2⟩ := hb
  have hm := mask_u b 6 (by decide) 63 (by decide) ⟨hb1, by omega⟩
  have hmm : b % 2 ^ 6 = b % 64 := rfl
  rw [hmm] at hm
  have hal : alu op a b f = (a, f, true) := by
    rcases hop with rfl | rfl | rfl | rfl | rfl | rfl <;> simp [alu, hk]
  rw [hal]
  unfold aluIs
  clear hmm hal
  obtain ⟨z, s, c, o⟩ := f
  unfold Fl.v
  rcases hop with rfl | rfl | rfl | rfl | rfl | rfl
  all_goals
    go_enter Try.func10, Try.ntmps10
    go_wp2_with fail
    go_region
    all_goals go_wp2
    all_goals go_returns
    all_goals refine ⟨rfl, ?_⟩
    all_goals go_grown
theorem alu_shift (op a b : Int) (f : Fl) (w : World) (ha : InU64 a) (hb : InU64 b) (hop : op = 21 ∨ op = 24 ∨ op = 22 ∨ op = 25 ∨ op = 23 ∨ op = 26) (hk : ¬ b % 64 = 0) :
    Calls Try.prog 10 #[.int .i64 op, .int .u64 a, .int .u64 b, f.v] w fun e w' => aluIs (alu op a b f) e ∧ Below w.heap.size w w' := by
  obtain ⟨ha1, ha2⟩ := ha
  obtain ⟨hb1, hb2⟩ := hb
  have hm := mask_u b 6 (by decide) 63 (by decide) ⟨hb1, by omega⟩
  have hmm : b % 2 ^ 6 = b % 64 := rfl
  rw [hmm] at hm
  have hal : alu op a b f = (shf op a (b % 64).toNat, logF (shf op a (b % 64).toNat), true) := by
    rcases hop with rfl | rfl | rfl | rfl | rfl | rfl <;> simp [alu, hk]
  rw [hal]
  unfold aluIs
  clear hmm
  have LW := Lib.hid (fun w => logic_walk (shf op a (b % 64).toNat) w)
  clear hal
  generalize logF (shf op a (b % 64).toNat) = g at *
  obtain ⟨gz, gs, gc, go⟩ := g
  obtain ⟨z, s, c, o⟩ := f
  unfold Fl.v at *
  rcases hop with rfl | rfl | rfl | rfl | rfl | rfl
  all_goals
    go_enter Try.func10, Try.ntmps10
    go_wp2_with fail
    refine (LW.out _).mono ?_
    rintro e w1 ⟨rfl, hb1⟩
    obtain ⟨hc1, hf1⟩ := bcell hb1
    have hz1 : w.heap.size + 1 < w1.heap.size := by have := hb1.size; simp at this; omega
    have kb1 := below_new (below_new hb1)
    clear hb1
    go_wp2_with fail
    refine bodyPost_ret (v := .tuple #[.int .u64 _, .agg #[.bool gz, .bool gs, .bool gc, .bool go], .bool true]) (by simp [results, Try.results10, go_sem, hc1] <;> rfl) rfl ⟨rfl, ?_⟩
    go_grown
def bin1 (op a b : Int) : Int := if op = 9 ∨ op = 16 then bits .and .u64 a b else if op = 10 ∨ op = 17 then bits .or .u64 a b else if op = 11 ∨ op = 18 then bits .xor .u64 a b else w64 (a * b)
theorem alu_logic (op a b : Int) (f : Fl) (w : World) (ha : InU64 a) (hb : InU64 b) (hop : op = 9 ∨ op = 16 ∨ op = 10 ∨ op = 17 ∨ op = 11 ∨ op = 18 ∨ op = 12 ∨ op = 19) :
    Calls Try.prog 10 #[.int .i64 op, .int .u64 a, .int .u64 b, f.v] w fun e w' => aluIs (alu op a b f) e ∧ Below w.heap.size w w' := by
  obtain ⟨ha1, ha2⟩ := ha
  obtain ⟨hb1, hb2⟩ := hb
  have hal : alu op a b f = (bin1 op a b, logF (bin1 op a b), true) := by
    rcases hop with rfl | rfl | rfl | rfl | rfl | rfl | rfl | rfl <;> simp [alu, bin1]
  rw [hal]
  unfold aluIs
  have LW := Lib.hid (fun w => logic_walk (bin1 op a b) w)
  clear hal
  generalize logF (bin1 op a b) = g at *
  obtain ⟨gz, gs, gc, go⟩ := g
  obtain ⟨z, s, c, o⟩ := f
  unfold Fl.v at *
  rcases hop with rfl | rfl | rfl | rfl | rfl | rfl | rfl | rfl
  all_goals
    go_enter Try.func10, Try.ntmps10
    go_wp2_with fail
    refine (LW.out _).mono ?_
    rintro e w1 ⟨rfl, hb1⟩
    obtain ⟨hc1, hf1⟩ := bcell hb1
    have hz1 : w.heap.size + 1 < w1.heap.size := by have := hb1.size; simp at this; omega
    have kb1 := below_new (below_new hb1)
    clear hb1
    go_wp2_with fail
    refine bodyPost_ret (v := .tuple #[.int .u64 _, .agg #[.bool gz, .bool gs, .bool gc, .bool go], .bool true]) (by simp [results, Try.results10, go_sem, hc1] <;> rfl) rfl ⟨rfl, ?_⟩
    go_grown
theorem alu_cmp (op a b : Int) (f : Fl) (w : World) (ha : InU64 a) (hb : InU64 b) (hop : op = 8 ∨ op = 15 ∨ op = 13 ∨ op = 20) :
    Calls Try.prog 10 #[.int .i64 op, .int .u64 a, .int .u64 b, f.v] w fun e w' => aluIs (alu op a b f) e ∧ Below w.heap.size w w' := by
  have CW := Lib.hid (fun w => compare_walk a b w ha hb)
  obtain ⟨ha1, ha2⟩ := ha
  obtain ⟨hb1, hb2⟩ := hb
  have hal : alu op a b f = (if op = 8 ∨ op = 15 then w64 (a - b) else a, cmpF a b, true) := by
    rcases hop with rfl | rfl | rfl | rfl <;> simp [alu]
  rw [hal]
  unfold aluIs
  clear hal
  generalize cmpF a b = g at *
  obtain ⟨gz, gs, gc, go⟩ := g
  obtain ⟨z, s, c, o⟩ := f
  unfold Fl.v at *
  rcases hop with rfl | rfl | rfl | rfl
  all_goals
    go_enter Try.func10, Try.ntmps10
    go_wp2_with fail
    refine (CW.out _).mono ?_
    rintro e w1 ⟨rfl, hb1⟩
    obtain ⟨hc1, hf1⟩ := bcell hb1
    have hz1 : w.heap.size + 1 < w1.heap.size := by have := hb1.size; simp at this; omega
    have kb1 := below_new (below_new hb1)
    clear hb1
    go_wp2_with fail
    refine bodyPost_ret (v := .tuple #[.int .u64 _, .agg #[.bool gz, .bool gs, .bool gc, .bool go], .bool true]) (by simp [results, Try.results10, go_sem, hc1] <;> rfl) rfl ⟨rfl, ?_⟩
    go_grown
theorem alu_add (op a b : Int) (f : Fl) (w : World) (ha : InU64 a) (hb : InU64 b) (hop : op = 7 ∨ op = 14) :
    Calls Try.prog 10 #[.int .i64 op, .int .u64 a, .int .u64 b, f.v] w fun e w' => aluIs (alu op a b f) e ∧ Below w.heap.size w w' := by
  obtain ⟨ha1, ha2⟩ := ha
  obtain ⟨hb1, hb2⟩ := hb
  have hal : alu op a b f = (w64 (a + b), addF a b, true) := by
    rcases hop with rfl | rfl <;> simp [alu]
  rw [hal]
  unfold aluIs
  clear hal
  obtain ⟨z, s, c, o⟩ := f
  unfold Fl.v
  rcases hop with rfl | rfl
  all_goals
    go_enter Try.func10, Try.ntmps10
    go_wp2_with fail
    go_returns
    refine ⟨rfl, ?_⟩
    go_grown
theorem alu_none (op a b : Int) (f : Fl) (w : World) (hop : op < 7 ∨ 26 < op) :
    Calls Try.prog 10 #[.int .i64 op, .int .u64 a, .int .u64 b, f.v] w fun e w' => aluIs (alu op a b f) e ∧ Below w.heap.size w w' := by
  have hal : alu op a b f = (0, f, false) := by
    unfold alu
    repeat rw [if_neg (by omega)]
  rw [hal]
  unfold aluIs
  clear hal
  obtain ⟨z, s, c, o⟩ := f
  unfold Fl.v
  have e7 : (op == 7) = false := by simp; omega
  have e8 : (op == 8) = false := by simp; omega
  have e9 : (op == 9) = false := by simp; omega
  have e10 : (op == 10) = false := by simp; omega
  have e11 : (op == 11) = false := by simp; omega
  have e12 : (op == 12) = false := by simp; omega
  have e13 : (op == 13) = false := by simp; omega
  have e14 : (op == 14) = false := by simp; omega
  have e15 : (op == 15) = false := by simp; omega
  have e16 : (op == 16) = false := by simp; omega
  have e17 : (op == 17) = false := by simp; omega
  have e18 : (op == 18) = false := by simp; omega
  have e19 : (op == 19) = false := by simp; omega
  have e20 : (op == 20) = false := by simp; omega
  have e21 : (op == 21) = false := by simp; omega
  have e22 : (op == 22) = false := by simp; omega
  have e23 : (op == 23) = false := by simp; omega
  have e24 : (op == 24) = false := by simp; omega
  have e25 : (op == 25) = false := by simp; omega
  have e26 : (op == 26) = false := by simp; omega
  clear hop
  go_enter Try.func10, Try.ntmps10
  go_wp2_with fail
  go_region
  all_goals go_wp2
  all_goals go_returns
  all_goals refine ⟨rfl, ?_⟩
  all_goals go_grown
theorem alu_any (op a b : Int) (f : Fl) (w : World) (ha : InU64 a) (hb : InU64 b) :
    Calls Try.prog 10 #[.int .i64 op, .int .u64 a, .int .u64 b, f.v] w fun e w' => aluIs (alu op a b f) e ∧ Below w.heap.size w w' := by
  by_cases h1 : op = 7 ∨ op = 14
  · exact alu_add op a b f w ha hb h1
  by_cases h2 : op = 8 ∨ op = 15 ∨ op = 13 ∨ op = 20
  · exact alu_cmp op a b f w ha hb h2
  by_cases h3 : op = 9 ∨ op = 16 ∨ op = 10 ∨ op = 17 ∨ op = 11 ∨ op = 18 ∨ op = 12 ∨ op = 19
  · exact alu_logic op a b f w ha hb h3
  by_cases h4 : op = 21 ∨ op = 24 ∨ op = 22 ∨ op = 25 ∨ op = 23 ∨ op = 26
  · by_cases hk : b % 64 = 0
    · exact alu_keep op a b f w ha hb h4 hk
    · exact alu_shift op a b f w ha hb h4 hk
  · exact alu_none op a b f w (by omega)
end Go.Proofs.Yteeodbjpmofhhaa
