/- CtypeNone: the law run. No condition. -/
import Derived.Test.YtilljobnaoefiaaVmD
import Derived.Test.YtilljobnaoefiaaCtC
namespace Go.Proofs.Ytilljobnaoefiaa
open Go.RowKit
set_option linter.unusedVariables false
def nN : Value := markAnd 0 16
def uT (A : Nat) : Value := symNode .mul .i64 (symNode .quo .i64 (symNode .sub .i64 (symNode .add .i64 nN (.int .i64 A)) (.int .i64 1)) (.int .i64 A)) (.int .i64 A)
def c1 (A : Nat) : Value := symNode .geq .i64 (uT A) nN
def c2 (A : Nat) : Value := symNode .lss .i64 (symNode .sub .i64 (uT A) nN) (.int .i64 A)
def c3 (A : Nat) : Value := symNode .eql .i64 (symNode .rem .i64 (uT A) (.int .i64 A)) (.int .i64 0)
theorem ev_add {a b : Int} (h : -9223372036854775808 ≤ a + b ∧ a + b ≤ 9223372036854775807) : evB2 .add .i64 a .i64 b = some (.int .i64 (a + b)) := by
  simp only [evB2, isShift, evB, or_true, if_true, IntWalk.i64_in _ h]
theorem ev_sub {a b : Int} (h : -9223372036854775808 ≤ a - b ∧ a - b ≤ 9223372036854775807) : evB2 .sub .i64 a .i64 b = some (.int .i64 (a - b)) := by
  simp only [evB2, isShift, evB, or_true, if_true, IntWalk.i64_in _ h]
theorem ev_mul {a b : Int} (h : -9223372036854775808 ≤ a * b ∧ a * b ≤ 9223372036854775807) : evB2 .mul .i64 a .i64 b = some (.int .i64 (a * b)) := by
  simp only [evB2, isShift, evB, or_true, if_true, IntWalk.i64_in _ h]
theorem den_u {ρ : Int → Int} (A : Nat) (h1 : 1 ≤ A) (h2 : A ≤ 256) : den ρ (c1 A) = some (.bool true) ∧ den ρ (c2 A) = some (.bool true) ∧ den ρ (c3 A) = some (.bool true) := by
  obtain ⟨n, hn, he⟩ := and_low (ρ 0) 16 (by decide)
  have hn' : n < 65536 := by simpa using hn
  have e0 : den ρ nN = some (.int .i64 (n : Int)) := den_and he
  have e1 := den_node (op := .add) rfl e0 (den_lit ρ .i64 (A : Int)) (ev_add (by omega))
  have e2 := den_node (op := .sub) rfl e1 (den_lit ρ .i64 1) (ev_sub (by omega))
  have hA : ¬ (A : Int) = 0 := by omega
  obtain ⟨q, hq⟩ : ∃ q : Int, ((n : Int) + A - 1) / A = q := ⟨_, rfl⟩
  have hdm := Int.mul_ediv_add_emod ((n : Int) + A - 1) A
  have hm0 : 0 ≤ ((n : Int) + A - 1) % A := Int.emod_nonneg _ hA
  have hm1 : ((n : Int) + A - 1) % A < A := Int.emod_lt_of_pos _ (by omega)
  have hq0 : 0 ≤ q := by rw [← hq]; exact Int.ediv_nonneg (by omega) (by omega)
  have hqle : q ≤ (n : Int) + A - 1 := by rw [← hq]; exact Int.ediv_le_self _ (by omega)
  rw [hq] at hdm
  generalize ((n : Int) + A - 1) % A = r at hdm hm0 hm1
  have e3 : evB2 .quo .i64 ((n : Int) + A - 1) .i64 A = some (.int .i64 q) := by
    have : ((n : Int) + A - 1).tdiv A = q := by rw [Int.tdiv_eq_ediv_of_nonneg (by omega), hq]
    simp only [evB2, isShift, evB, or_true, if_true, hA, if_false, this]
    rw [IntWalk.i64_in _ (by omega)]
  have e3' := den_node (op := .quo) rfl e2 (den_lit ρ .i64 (A : Int)) e3
  obtain ⟨p, hp⟩ : ∃ p : Int, (A : Int) * q = p := ⟨_, rfl⟩
  rw [hp] at hdm
  have hqA : q * A = p := by rw [Int.mul_comm]; exact hp
  have e4 : den ρ (uT A) = some (.int .i64 p) := by
    refine den_node (op := .mul) rfl e3' (den_lit ρ .i64 (A : Int)) ?_
    rw [ev_mul (by rw [hqA]; omega), hqA]
  refine ⟨den_cmp rfl e4 e0 ?_, den_cmp rfl (den_node (op := .sub) rfl e4 e0 (ev_sub (by omega))) (den_lit ρ .i64 (A : Int)) ?_, den_cmp rfl (den_node (op := .rem) (c := 0) rfl e4 (den_lit ρ .i64 (A : Int)) ?_) (den_lit ρ .i64 0) ?_⟩
  · have : p ≥ (n : Int) := by omega
    simp only [evB2, isShift, evB, or_true, if_true, decide_eq_true this]
  · have : p - (n : Int) < A := by omega
    simp only [evB2, isShift, evB, or_true, if_true, decide_eq_true this]
  · have : p.tmod A = 0 := by
      rw [Int.tmod_eq_emod_of_nonneg (by omega), ← hp]
      exact Int.mul_emod_right _ _
    simp only [evB2, isShift, evB, or_true, if_true, hA, if_false, this]
  · simp [evB2, evB]
def knowN (q : Nat) : Know := [(markAnd 1 8, .int .i64 q), (c1 (q + 1), .bool true), (c2 (q + 1), .bool true), (c3 (q + 1), .bool true)]
theorem knowN_ok {a b : Int} {q : Nat} (hq : q < 256) (h : evB2 .and .i64 b .i64 ((2 ^ 8 - 1 : Nat) : Int) = some (.int .i64 q)) : KnowOk (two a b) (knowN q) := by
  intro p hp
  obtain ⟨k1, k2, k3⟩ := den_u (ρ := two a b) (q + 1) (by omega) (by omega)
  simp only [knowN, List.mem_cons, List.mem_nil_iff, or_false] at hp
  rcases hp with rfl | rfl | rfl | rfl
  · exact ⟨den_and h, rfl⟩
  · exact ⟨k1, rfl⟩
  · exact ⟨k2, rfl⟩
  · exact ⟨k3, rfl⟩
theorem none_of (a b : Int) (w : World) (q : Nat) (hq : q < 256) (h0 : evB2 .and .i64 b .i64 ((2 ^ 8 - 1 : Nat) : Int) = some (.int .i64 q))
    (h : (vcall (Sy.ints Try.prog (two a b) (knowN q) (knowN_ok hq h0) fitTab) 100000 60 0 4 [mark .i64 0, mark .i64 1] VW.empty).map (·.1) = some (.bool true)) :
    Calls Try.prog 4 #[.int .i64 a, .int .i64 b] w fun e w' => e = .returned (.bool true) ∧ Below w.heap.size w w' :=
  vrunS _ mixed 100000 60 4 _ [.int .i64 a, .int .i64 b] (.bool true) (fun β => LR.cons (mark_vr (two a b) β .i64 0) (LR.cons (mark_vr (two a b) β .i64 1) LR.nil)) rfl h w
end Go.Proofs.Ytilljobnaoefiaa
