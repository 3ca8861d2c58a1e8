/- Walks: operations of two numbers in the program. No condition. -/
import Derived.Test.YticgaknkonolnaaArP
import Derived.Test.YticgaknkonolnaaChecked
namespace Go.Proofs.Yticgaknkonolnaa
open Go.RowKit
set_option linter.unusedVariables false
set_option maxHeartbeats 1000000
/-- does a comparison hold? -/
def rhol (op a b : Int) : Bool :=
  if op = 16 then a == b else if op = 17 then a != b else if op = 18 then decide (a < b) else if op = 19 then decide (a ≤ b)
  else if op = 20 then decide (IntKind.u64.wrap a < IntKind.u64.wrap b) else if op = 21 then decide (IntKind.u64.wrap a ≤ IntKind.u64.wrap b) else false
theorem rholds_walk (op a b : Int) (w : World) (hop : 16 ≤ op ∧ op ≤ 21) :
    Calls Try.prog 11 #[.int .i64 op, .int .i64 a, .int .i64 b] w fun e w' => e = .returned (.bool (rhol op a b)) ∧ w = w' := by
  have hc : op = 16 ∨ op = 17 ∨ op = 18 ∨ op = 19 ∨ op = 20 ∨ op = 21 := by omega
  rcases hc with rfl | rfl | rfl | rfl | rfl | rfl
  all_goals
    go_enter Try.func11, Try.ntmps11
    go_wp2
    go_returns
    exact ⟨rfl, rfl⟩
/-- no quotient -/
def noQ (op a b : Int) : Prop := b = 0 ∨ ((op = 6 ∨ op = 8) ∧ a = -9223372036854775808 ∧ b = -1)
instance (op a b : Int) : Decidable (noQ op a b) := by unfold noQ; exact inferInstance
def rquo (op a b : Int) : Int × Bool :=
  if noQ op a b then (0, false) else if op = 6 then (wrap64 (a.tdiv b), true) else if op = 8 then (a.tmod b, true)
  else if op = 7 then (wrap64 (uS a / uS b), true) else (wrap64 (uS a % uS b), true)
theorem rquo_s (op a b : Int) (w : World) (hop : op = 6 ∨ op = 8) (ha : In64 a) (hb : In64 b) (h0 : ¬ b = 0) (hm : ¬ (a = -9223372036854775808 ∧ b = -1)) :
    Calls Try.prog 32 #[.int .i64 op, .int .i64 a, .int .i64 b] w fun e w' => e = .returned (.tuple #[.int .i64 (if op = 6 then wrap64 (a.tdiv b) else a.tmod b), .bool true]) ∧ w = w' := by
  have hw := Lib.hid (wrap64_id (tdiv_In a b ha hm))
  obtain ⟨ha1, ha2⟩ := ha
  obtain ⟨hb1, hb2⟩ := hb
  have e0 : (b == 0) = false := by simpa using h0
  by_cases h1 : a = -9223372036854775808
  · have e1 : (b == -1) = false := by simp; omega
    have hmf : Int.tmod (-9223372036854775808) b = -(9223372036854775808 % b) := by rw [Int.neg_tmod, Int.tmod_eq_emod_of_nonneg (by decide)]
    have hmf := Lib.hid hmf
    rename_i hmf'
    clear hmf'
    subst h1
    rcases hop with rfl | rfl
    all_goals
      go_enter Try.func32, Try.ntmps32
      go_wp2
      go_returns
      refine ⟨ret_ib ?_ rfl, rfl⟩
      first | rfl | (simp only [if_true]; rw [← Int.neg_tdiv]; rfl) | (exact hmf.out.symm) | (rw [Int.tmod_eq_emod_of_nonneg (by decide)]) | (show _ = Int.tmod (-9223372036854775808) b; rw [hmf.out]) | (rw [IntWalk.i64_left, ← Int.neg_tdiv]; rfl)
  · have e1 : (a == -9223372036854775808) = false := by simpa using h1
    rcases hop with rfl | rfl
    all_goals
      go_enter Try.func32, Try.ntmps32
      go_wp2
      go_returns
      refine ⟨ret_ib ?_ rfl, rfl⟩
      first | rfl | (rw [IntWalk.i64_left]; rfl)
theorem rquo_walk (op a b : Int) (w : World) (hop : 6 ≤ op ∧ op ≤ 9) (ha : In64 a) (hb : In64 b) :
    Calls Try.prog 32 #[.int .i64 op, .int .i64 a, .int .i64 b] w fun e w' => e = .returned (.tuple #[.int .i64 (rquo op a b).1, .bool (rquo op a b).2]) ∧ w = w' := by
  have hc : op = 6 ∨ op = 8 ∨ op = 7 ∨ op = 9 := by omega
  by_cases h0 : b = 0
  · have hq : rquo op a b = (0, false) := by unfold rquo; rw [if_pos (show noQ op a b from Or.inl h0)]
    rw [hq]
    clear hq
    subst h0
    rcases hc with rfl | rfl | rfl | rfl
    all_goals
      go_enter Try.func32, Try.ntmps32
      go_wp2
      go_returns
      exact ⟨rfl, rfl⟩
  · by_cases hs : op = 6 ∨ op = 8
    · by_cases hm : a = -9223372036854775808 ∧ b = -1
      · obtain ⟨rfl, rfl⟩ := hm
        rcases hs with rfl | rfl
        all_goals
          go_enter Try.func32, Try.ntmps32
          go_wp2
          go_returns
          exact ⟨rfl, rfl⟩
      · have hn : ¬ noQ op a b := by unfold noQ; omega
        have := rquo_s op a b w hs ha hb h0 hm
        unfold rquo
        rw [if_neg hn]
        rcases hs with rfl | rfl <;> simpa using this
    · have hn : ¬ noQ op a b := by unfold noQ; omega
      unfold rquo
      rw [if_neg hn]
      clear hn
      have e0 : (b == 0) = false := by simpa using h0
      have hu1 : IntKind.u64.wrap a = uS a := by rw [IntKind.wrap_u64]; rfl
      have hu2 : IntKind.u64.wrap b = uS b := by rw [IntKind.wrap_u64]; rfl
      obtain ⟨hr1, hr2⟩ : 0 ≤ uS a ∧ uS a ≤ 18446744073709551615 := by unfold uS; omega
      obtain ⟨hr3, hr4⟩ : 1 ≤ uS b ∧ uS b ≤ 18446744073709551615 := by obtain ⟨h1, h2⟩ := hb; unfold uS; omega
      have hc' : op = 7 ∨ op = 9 := by omega
      clear hc hs
      rcases hc' with rfl | rfl
      all_goals
        go_enter Try.func32, Try.ntmps32
        go_wp2
        go_returns
        exact ⟨ret_ib rfl rfl, rfl⟩
/-- what an operation answers -/
def reck (op a b : Int) : Int × Bool :=
  if op = 3 then (wrap64 (a + b), true) else if op = 4 then (wrap64 (a - b), true) else if op = 5 then (wrap64 (a * b), true)
  else if op = 10 then (bits .and .i64 a b, true) else if op = 11 then (bits .or .i64 a b, true) else if op = 12 then (bits .xor .i64 a b, true)
  else if op = 13 then (wrap64 (a * 2 ^ (b % 64).toNat), true) else if op = 14 then (a / 2 ^ (b % 64).toNat, true)
  else if op = 15 then (wrap64 (uS a / 2 ^ (b % 64).toNat), true)
  else if 6 ≤ op ∧ op ≤ 9 then rquo op a b
  else (if rhol op a b then 1 else 0, true)
theorem reckon_walk (op a b : Int) (w : World) (hop : 3 ≤ op ∧ op ≤ 21) (ha : In64 a) (hb : In64 b) :
    Calls Try.prog 9 #[.int .i64 op, .int .i64 a, .int .i64 b] w fun e w' => e = .returned (.tuple #[.int .i64 (reck op a b).1, .bool (reck op a b).2]) ∧ w = w' := by
  by_cases hq : 6 ≤ op ∧ op ≤ 9
  · have Q := Lib.hid (fun w => rquo_walk op a b w hq ha hb)
    have hr : reck op a b = rquo op a b := by
      unfold reck
      iterate 9 rw [if_neg (by omega)]
      rw [if_pos hq]
    rw [hr]
    clear hr hop
    have hc : op = 6 ∨ op = 7 ∨ op = 8 ∨ op = 9 := by omega
    rcases hc with rfl | rfl | rfl | rfl
    all_goals
      go_enter Try.func9, Try.ntmps9
      go_wp2_with fail
      refine (Q.out _).mono ?_
      rintro e w1 ⟨rfl, rfl⟩
      go_wp2_with fail
      go_returns
      exact ⟨rfl, rfl⟩
  · by_cases hh : 16 ≤ op
    · have Q := Lib.hid (fun w => rholds_walk op a b w ⟨hh, hop.2⟩)
      have hr : reck op a b = (if rhol op a b then 1 else 0, true) := by
        unfold reck
        iterate 10 rw [if_neg (by omega)]
      rw [hr]
      clear hr
      generalize rhol op a b = t at *
      have hc : op = 16 ∨ op = 17 ∨ op = 18 ∨ op = 19 ∨ op = 20 ∨ op = 21 := by omega
      clear hop hh hq
      rcases hc with rfl | rfl | rfl | rfl | rfl | rfl <;> cases t
      all_goals
        go_enter Try.func9, Try.ntmps9
        go_wp2_with fail
        refine (Q.out _).mono ?_
        rintro e w1 ⟨rfl, rfl⟩
        go_wp2_with fail
        go_returns
        exact ⟨rfl, rfl⟩
    · have hm := mask b 6 (by decide) 63 (by decide)
      have hmm : b % 2 ^ 6 = b % 64 := rfl
      rw [hmm] at hm
      clear hmm
      have hu1 : IntKind.u64.wrap a = uS a := by rw [IntKind.wrap_u64]; rfl
      obtain ⟨hr1, hr2⟩ : 0 ≤ uS a ∧ uS a ≤ 18446744073709551615 := by unfold uS; omega
      have hc : op = 3 ∨ op = 4 ∨ op = 5 ∨ op = 10 ∨ op = 11 ∨ op = 12 ∨ op = 13 ∨ op = 14 ∨ op = 15 := by omega
      clear hop hh hq ha hb
      rcases hc with rfl | rfl | rfl | rfl | rfl | rfl | rfl | rfl | rfl
      all_goals
        go_enter Try.func9, Try.ntmps9
        go_wp2
        go_returns
        refine ⟨ret_ib ?_ rfl, rfl⟩
        first | rfl | (rw [IntWalk.i64_left]; rfl)
end Go.Proofs.Yticgaknkonolnaa
