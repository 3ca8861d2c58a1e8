/- The walks of RtlWidens, RtlReckons, RtlParts. No condition. -/
import Derived.Test.YticgaknkonolnaaRtlEx
import Derived.Test.YticgaknkonolnaaArR2
import Derived.Test.YticgaknkonolnaaArR3
namespace Go.Proofs.Yticgaknkonolnaa
open Go.RowKit
set_option linter.unusedVariables false
set_option maxHeartbeats 4000000
theorem widens_walk (n size : Int) (sg : Bool) (w : World) (hn : In64 n) (hz : In64 size) :
    Calls Try.prog 7 #[.int .i64 n, .int .i64 size, .bool sg] w fun e w' => e = .returned (.bool true) ∧ Below w.heap.size w w' := by
  have W1 := Lib.hid (fun w => widen_walk n size sg w hn hz)
  have W2 := Lib.hid (fun w => widen_ref n size sg w hn hz)
  go_enter Try.func7, Try.ntmps7
  go_wp2_with fail
  refine (fit_walk _).mono ?_
  rintro e w1 ⟨rfl, kb1⟩
  go_wp2_with fail
  refine (W1.out _).mono ?_
  rintro e w2 ⟨rfl, rfl⟩
  go_wp2_with fail
  refine (W2.out _).mono ?_
  rintro e w2 ⟨rfl, rfl⟩
  go_wp2_with fail
  go_returns
  exact ⟨ret_bool (by simp), kb1⟩
theorem fit8 (sg : Bool) (n : Int) : fitS 8 sg n = wrap64 n := by unfold fitS wrap64; simp [modS]
def longV (sg : Bool) : Value := .agg #[.int .i64 1, .int .i64 8, .bool sg, .bool false, .pointer none, .int .i64 0, .int .i64 0, .slice none 0 0, .pointer none]
theorem long_walk (sg : Bool) (w : World) : Calls Try.prog 34 #[.bool sg] w fun e w' => e = .returned (longV sg) ∧ Below w.heap.size w w' := by
  unfold longV
  go_enter Try.func34, Try.ntmps34
  go_wp2
  go_returns
  exact ⟨rfl, below_alloc _ (Below.refl _ _)⟩
/-- the operator that stands for an operation, and its sign -/
def opR (op : Int) : Nat := if op = 3 then 0 else if op = 4 then 1 else if op = 5 then 2 else if op = 6 ∨ op = 7 then 8 else if op = 8 ∨ op = 9 then 9 else if op = 10 then 3 else if op = 11 then 4 else if op = 12 then 5 else if op = 13 then 6 else 7
theorem opR_lt (op : Int) : opR op < 12 := by
  unfold opR
  by_cases h1 : op = 3; · rw [if_pos h1]; omega
  rw [if_neg h1]
  by_cases h1 : op = 4; · rw [if_pos h1]; omega
  rw [if_neg h1]
  by_cases h1 : op = 5; · rw [if_pos h1]; omega
  rw [if_neg h1]
  by_cases h1 : op = 6 ∨ op = 7; · rw [if_pos h1]; omega
  rw [if_neg h1]
  by_cases h1 : op = 8 ∨ op = 9; · rw [if_pos h1]; omega
  rw [if_neg h1]
  by_cases h1 : op = 10; · rw [if_pos h1]; omega
  rw [if_neg h1]
  by_cases h1 : op = 11; · rw [if_pos h1]; omega
  rw [if_neg h1]
  by_cases h1 : op = 12; · rw [if_pos h1]; omega
  rw [if_neg h1]
  by_cases h1 : op = 13; · rw [if_pos h1]; omega
  rw [if_neg h1]; omega
def sgR (op : Int) : Bool := !(op == 7 || op == 9 || op == 15)
theorem shS8 (b : Int) : shS 8 b = (b % 64).toNat := rfl
theorem wrap64_bits (o : BinOp) (a b : Int) : wrap64 (bits o .i64 a b) = bits o .i64 a b := wrap64_id (bits_In o a b)
theorem reck_is (op a b : Int) (hop : 3 ≤ op ∧ op ≤ 15) (ha : In64 a) (hb : In64 b) : rbinS (opR op) 8 (sgR op) a b = reck op a b := by
  have hc : op = 3 ∨ op = 4 ∨ op = 5 ∨ op = 6 ∨ op = 7 ∨ op = 8 ∨ op = 9 ∨ op = 10 ∨ op = 11 ∨ op = 12 ∨ op = 13 ∨ op = 14 ∨ op = 15 := by omega
  have q6 : noQ 6 a b ↔ (b = 0 ∨ (a = -9223372036854775808 ∧ b = -1)) := by unfold noQ; omega
  have q8 : noQ 8 a b ↔ (b = 0 ∨ (a = -9223372036854775808 ∧ b = -1)) := by unfold noQ; omega
  have q7 : noQ 7 a b ↔ b = 0 := by unfold noQ; omega
  have q9 : noQ 9 a b ↔ b = 0 := by unfold noQ; omega
  rcases hc with rfl | rfl | rfl | rfl | rfl | rfl | rfl | rfl | rfl | rfl | rfl | rfl | rfl
  · show (fitS 8 true (a + b), true) = (wrap64 (a + b), true); rw [fit8]
  · show (fitS 8 true (a - b), true) = (wrap64 (a - b), true); rw [fit8]
  · show (fitS 8 true (a * b), true) = (wrap64 (a * b), true); rw [fit8]
  · show quoS 8 8 true a b = rquo 6 a b
    unfold quoS rquo
    by_cases h0 : b = 0
    · rw [if_pos (Or.inl h0), if_pos (q6.2 (Or.inl h0))]
    · by_cases hm : a = -9223372036854775808 ∧ b = -1
      · rw [if_neg (by omega), if_neg (by decide), if_pos ⟨rfl, hm⟩, if_pos (q6.2 (Or.inr hm))]
      · rw [if_neg (by omega), if_neg (by decide), if_neg (by omega), if_pos rfl, if_neg (by rw [q6]; omega), if_pos rfl, fit8]
  · show quoS 8 8 false a b = rquo 7 a b
    unfold quoS rquo
    by_cases h0 : b = 0
    · rw [if_pos (Or.inl h0), if_pos (q7.2 h0)]
    · rw [if_neg (by omega), if_pos rfl, if_pos rfl, if_neg (by rw [q7]; exact h0), if_neg (by decide), if_neg (by decide), if_pos rfl]
  · show quoS 9 8 true a b = rquo 8 a b
    unfold quoS rquo
    by_cases h0 : b = 0
    · rw [if_pos (Or.inl h0), if_pos (q8.2 (Or.inl h0))]
    · by_cases hm : a = -9223372036854775808 ∧ b = -1
      · rw [if_neg (by omega), if_neg (by decide), if_pos ⟨rfl, hm⟩, if_pos (q8.2 (Or.inr hm))]
      · rw [if_neg (by omega), if_neg (by decide), if_neg (by omega), if_neg (by decide), if_neg (by rw [q8]; omega), if_neg (by decide), if_pos rfl, fit8, wrap64_id (tmod_In a b ha)]
  · show quoS 9 8 false a b = rquo 9 a b
    unfold quoS rquo
    by_cases h0 : b = 0
    · rw [if_pos (Or.inl h0), if_pos (q9.2 h0)]
    · rw [if_neg (by omega), if_pos rfl, if_neg (by decide), if_neg (by rw [q9]; exact h0), if_neg (by decide), if_neg (by decide), if_neg (by decide)]
  · show (fitS 8 true (bits .and .i64 a b), true) = (bits .and .i64 a b, true); rw [fit8, wrap64_bits]
  · show (fitS 8 true (bits .or .i64 a b), true) = (bits .or .i64 a b, true); rw [fit8, wrap64_bits]
  · show (fitS 8 true (bits .xor .i64 a b), true) = (bits .xor .i64 a b, true); rw [fit8, wrap64_bits]
  · show (fitS 8 true (a * 2 ^ shS 8 b), true) = (wrap64 (a * 2 ^ (b % 64).toNat), true); rw [fit8]; rfl
  · rfl
  · rfl
theorem reckon_ref1 (op a b : Int) (w : World) (hop : 3 ≤ op ∧ op ≤ 15) (ha : In64 a) (hb : In64 b) :
    Calls Try.prog 10 #[.int .i64 op, .int .i64 a, .int .i64 b] w fun e w' => e = .returned (.tuple #[.int .i64 (reck op a b).1, .bool (reck op a b).2]) ∧ Below w.heap.size w w' := by
  have RB := Lib.hid (fun w => rbin_any (opR op) (opR_lt op) 8 a b (sgR op) w (by unfold Size; omega) ha hb)
  rw [reck_is op a b hop ha hb] at RB
  have LW := Lib.hid (fun w => long_walk (sgR op) w)
  unfold longV at LW
  generalize reck op a b = r at *
  have hc : op = 3 ∨ op = 4 ∨ op = 5 ∨ op = 6 ∨ op = 7 ∨ op = 8 ∨ op = 9 ∨ op = 10 ∨ op = 11 ∨ op = 12 ∨ op = 13 ∨ op = 14 ∨ op = 15 := by omega
  clear ha hb hop
  rcases hc with rfl | rfl | rfl | rfl | rfl | rfl | rfl | rfl | rfl | rfl | rfl | rfl | rfl
  all_goals
    go_enter Try.func10, Try.ntmps10
    go_wp2_with fail
    refine (LW.out _).mono ?_
    rintro e w1 ⟨rfl, kb1⟩
    go_wp2_with fail
    refine (RB.out _).mono ?_
    rintro e w2 ⟨rfl, hb2⟩
    have kb2 := kb1.bt hb2
    clear hb2
    go_wp2_with fail
    go_returns
    exact ⟨rfl, kb2⟩
end Go.Proofs.Yticgaknkonolnaa
