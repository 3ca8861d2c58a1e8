/- Walks: powers, halvings and quotients of the reference. No condition. -/
import Derived.Test.YtaijipapdbahkaaQuo
namespace Go.Proofs.Ytaijipapdbahkaa
open Go.RowKit
set_option linter.unusedVariables false
set_option maxHeartbeats 400000
theorem pow_step (j : Nat) : wrap64 (wrap64 (2 ^ j) + wrap64 (2 ^ j)) = wrap64 (2 ^ (j + 1)) := by
  rw [show (2 : Int) ^ (j + 1) = 2 ^ j + 2 ^ j by rw [Int.pow_succ]; omega]
  generalize (2 : Int) ^ j = x
  unfold wrap64; omega
theorem power_walk (k : Nat) (w : World) (hk : k ≤ 64) :
    Calls Try.prog 19 #[.int .i64 k] w
      fun e w' => e = .returned (.int .i64 (wrap64 (2 ^ k))) ∧ w = w' := by
  go_enter Try.func19, Try.ntmps19
  go_wp2
  go_loop [3, 4] (fun x i => ∃ j : Nat, j ≤ k ∧ i = .int .i64 j ∧ x = .int .i64 (wrap64 (2 ^ j))) (fun _ i => k - (intOf i).toNat)
  case atStart => exact ⟨0, by omega, rfl, by simp [wrap64]⟩
  case round =>
    obtain ⟨j, hj, rfl, rfl⟩ := hrel
    have hs := Lib.hid (pow_step j)
    by_cases hlt : j < k
    · go_wp2
      go_round
      case rel => exact ⟨j + 1, by omega, by go_num, by rw [hs.out]⟩
      case measure => simp [intOf]; omega
    · have e : j = k := by omega
      subst e
      go_wp2
      go_returns
      exact ⟨rfl, rfl⟩
theorem floor_step (x : Int) (h : In64 x) : (x.tmod 2 < 0 → wrap64 ((wrap64 (x - wrap64 (x.tmod 2 + 2))).tdiv 2) = x / 2) ∧ (0 ≤ x.tmod 2 → wrap64 ((wrap64 (x - x.tmod 2)).tdiv 2) = x / 2) := by
  unfold In64 at h
  have e1 : x.tmod 2 = if 0 ≤ x then x % 2 else -((-x) % 2) := tmod_eq_if x 2
  have e2 : ∀ y : Int, y.tdiv 2 = if 0 ≤ y then y / 2 else -((-y) / 2) := fun y => tdiv_eq_if y 2
  rw [e2, e2, e1]
  unfold wrap64
  constructor <;> intro <;> split at * <;> split <;> omega
theorem floor_next (a : Int) (j : Nat) : a / 2 ^ j / 2 = a / 2 ^ (j + 1) := by
  have hp : (0 : Int) < 2 ^ j := Int.pow_pos (by decide)
  rw [Int.pow_succ, Int.ediv_ediv, if_neg (by omega), Int.sub_zero]
theorem ediv_In (a : Int) (j : Nat) (h : In64 a) : In64 (a / 2 ^ j) := by
  unfold In64 at *
  have hp : (0 : Int) < 2 ^ j := Int.pow_pos (by decide)
  constructor
  · rw [Int.le_ediv_iff_mul_le hp]
    have : (1 : Int) ≤ 2 ^ j := hp
    have := Int.mul_le_mul_of_nonneg_left this (show (0 : Int) ≤ 9223372036854775808 by decide)
    omega
  · have : a / 2 ^ j < 9223372036854775808 := by
      rw [Int.ediv_lt_iff_lt_mul hp]
      have : (1 : Int) ≤ 2 ^ j := hp
      have := Int.mul_le_mul_of_nonneg_left this (show (0 : Int) ≤ 9223372036854775808 by decide)
      omega
    omega
theorem floor_walk (a : Int) (k : Nat) (w : World) (hk : k ≤ 64) (ha : In64 a) :
    Calls Try.prog 20 #[.int .i64 a, .int .i64 k] w
      fun e w' => e = .returned (.int .i64 (a / 2 ^ k)) ∧ w = w' := by
  have hin := fun j => Lib.hid (ediv_In a j ha)
  have hin := Lib.hid hin
  rename_i hin'
  clear hin' ha
  go_enter Try.func20, Try.ntmps20
  go_wp2
  go_loop [0, 5] (fun x i => ∃ j : Nat, j ≤ k ∧ i = .int .i64 j ∧ x = .int .i64 (a / 2 ^ j)) (fun _ i => k - (intOf i).toNat)
  case atStart => exact ⟨0, by omega, rfl, by simp⟩
  case round =>
    obtain ⟨j, hj, rfl, rfl⟩ := hrel
    have hI := (hin.out j).out
    have hs := Lib.hid (floor_step _ hI)
    have hn := Lib.hid (floor_next a j)
    obtain ⟨hI1, hI2⟩ := hI
    generalize hx : a / 2 ^ j = x at *
    have hx := Lib.hid hx
    rename_i hx'
    clear hx'
    by_cases hlt : j < k
    · go_wp2
      all_goals go_round
      all_goals try (case measure => simp [intOf]; omega)
      all_goals exact ⟨j + 1, by omega, by go_num, by first | rw [hs.out.1 ‹_›, hn.out] | rw [hs.out.2 ‹_›, hn.out]⟩
    · have e : j = k := by omega
      subst e
      go_wp2
      go_returns
      exact ⟨ret_int hx.out.symm, rfl⟩
theorem u_sub (a b : Int) (h : 1 ≤ uS b) : IntKind.u64.wrap (uS a - IntKind.u64.wrap ((uS a / uS b) * uS b)) = uS a % uS b := by
  have h1 : 0 ≤ uS a ∧ uS a ≤ 18446744073709551615 := by unfold uS; omega
  have h2 : 0 ≤ uS a / uS b := Int.ediv_nonneg h1.1 (by omega)
  have h3 : uS a / uS b * uS b + uS a % uS b = uS a := Int.ediv_mul_add_emod _ _
  have h4 := Int.emod_nonneg (uS a) (b := uS b) (by omega)
  have h5 : 0 ≤ uS a / uS b * uS b := Int.mul_nonneg h2 (by omega)
  rw [IntWalk.u64_in (uS a / uS b * uS b) (by omega), IntWalk.u64_in _ (by omega)]
  omega
theorem r_sub (a b : Int) (ha : In64 a) (h : ¬ (a = -9223372036854775808 ∧ b = -1)) : wrap64 (a - wrap64 (wrap64 (a.tdiv b) * b)) = a.tmod b := by
  have e : a.tmod b = a - b * a.tdiv b := Int.tmod_def a b
  have h1 := tmod_In a b ha
  rw [wrap64_id (tdiv_In a b ha h)]
  have : wrap64 (a - wrap64 (a.tdiv b * b)) = wrap64 (a.tmod b) := by
    rw [e, Int.mul_comm b]
    generalize a.tdiv b * b = z
    unfold wrap64; omega
  rw [this, wrap64_id h1]
theorem r_fit {sz : Int} (sg : Bool) (a b : Int) (h : Size sz) : fitS sz sg (wrap64 (a - wrap64 (wrap64 (a.tdiv b) * b))) = fitS sz sg (a.tmod b) := by
  refine fitS_congr h ?_
  rw [wrap64_mod h, Int.sub_emod, wrap64_mod h, Int.mul_emod, wrap64_mod h, ← Int.mul_emod, ← Int.sub_emod, Int.tmod_def, Int.mul_comm]
theorem rquo_any (op : Nat) (hop : op = 8 ∨ op = 9) (sz a b : Int) (sg : Bool) (w : World) (h : Size sz) (ha : In64 a) (hb : In64 b) :
    Calls Try.prog 21 #[.string (opB op), .agg #[.int .i64 1, .int .i64 sz, .bool sg, .bool false, .pointer none, .int .i64 0, .int .i64 0, .slice none 0 0, .pointer none], .int .i64 a, .int .i64 b] w
      fun e w' => e = .returned (.tuple #[.int .i64 (quoS op sz sg a b).1, .bool (quoS op sz sg a b).2]) ∧ Below w.heap.size w w' := by
  by_cases hb0 : b = 0
  · subst hb0
    have H := Lib.hid h; clear h
    rcases hop with rfl | rfl <;> simp only [opB]
    all_goals
      go_enter Try.func21, Try.ntmps21
      go_wp2
      all_goals go_returns
      all_goals refine ⟨by simp [quoS], by go_grown⟩
  · cases sg
    · obtain ⟨h1, h2⟩ := ha
      obtain ⟨h3, h4⟩ := hb
      have H := Lib.hid h; clear h
      have hu1 : IntKind.u64.wrap a = uS a := by rw [IntKind.wrap_u64]; rfl
      have hu2 : IntKind.u64.wrap b = uS b := by rw [IntKind.wrap_u64]; rfl
      have hr1 : 0 ≤ uS a ∧ uS a ≤ 18446744073709551615 := by unfold uS; omega
      have hr2 : 1 ≤ uS b ∧ uS b ≤ 18446744073709551615 := by unfold uS; omega
      have hus := Lib.hid (u_sub a b hr2.1)
      rcases hop with rfl | rfl <;> simp only [opB]
      · have F : Hid (quoS 8 sz false a b = (wrap64 (uS a / uS b), true)) := by unfold Hid; simp [quoS, hb0]
        go_enter Try.func21, Try.ntmps21
        go_wp2
        all_goals go_returns
        all_goals rw [F.out]
        all_goals exact ⟨ret_ib rfl rfl, by go_grown⟩
      · have F : Hid (quoS 9 sz false a b = (wrap64 (uS a % uS b), true)) := by unfold Hid; simp [quoS, hb0]
        go_enter Try.func21, Try.ntmps21
        go_wp2
        all_goals go_returns
        all_goals rw [F.out]
        all_goals exact ⟨ret_ib (by rw [hus.out]) rfl, by go_grown⟩
    · by_cases h8 : sz = 8 ∧ a = -9223372036854775808 ∧ b = -1
      · obtain ⟨rfl, rfl, rfl⟩ := h8
        clear h ha hb
        rcases hop with rfl | rfl <;> simp only [opB]
        all_goals
          go_enter Try.func21, Try.ntmps21
          go_wp2
          all_goals go_returns
          all_goals refine ⟨by simp [quoS], by go_grown⟩
      · have F8 : Hid (quoS 8 sz true a b = (fitS sz true (a.tdiv b), true)) := by unfold Hid; simp [quoS, hb0, h8]
        have F9 : Hid (quoS 9 sz true a b = (fitS sz true (a.tmod b), true)) := by unfold Hid; simp [quoS, hb0, h8]
        have H := Lib.hid h
        have cases3 : sz ≠ 8 ∨ (sz = 8 ∧ b ≠ -1) ∨ (sz = 8 ∧ b = -1 ∧ a ≠ -9223372036854775808) := by omega
        have hT := Lib.hid (wrap64_id (tmod_In a b ha))
        obtain ⟨h1, h2⟩ := ha
        obtain ⟨h3, h4⟩ := hb
        clear h h8
        rcases cases3 with h8 | ⟨rfl, h8⟩ | ⟨rfl, rfl, h8⟩
        · have h9 : (sz == 8) = false := by simpa using h8
          rcases hop with rfl | rfl <;> simp only [opB]
          all_goals
            go_enter Try.func21, Try.ntmps21
            go_wp2_with ((go_at_call 10; (with_reducible refine (rfit_any _ _ _ _ ?_ ?_).mono ?_); (exact H.out); (first | exact iwrap_In _ | exact wrap64_In _); rintro e w' ⟨rfl, hb1⟩))
            go_returns
            first | rw [F8.out] | rw [F9.out]
            refine ⟨ret_ib ?_ rfl, below_new hb1⟩
            first | exact fitS_wrap H.out | exact r_fit _ _ _ H.out
        · have h9 : (b == -1) = false := by simpa using h8
          rcases hop with rfl | rfl <;> simp only [opB]
          all_goals
            go_enter Try.func21, Try.ntmps21
            go_wp2_with ((go_at_call 10; (with_reducible refine (rfit_any _ _ _ _ ?_ ?_).mono ?_); (exact H.out); (first | exact iwrap_In _ | exact wrap64_In _); rintro e w' ⟨rfl, hb1⟩))
            go_returns
            first | rw [F8.out] | rw [F9.out]
            refine ⟨ret_ib ?_ rfl, below_new hb1⟩
            first | exact fitS_wrap H.out | exact r_fit _ _ _ H.out
        · have h9 : (a == -9223372036854775808) = false := by simpa using h8
          rcases hop with rfl | rfl <;> simp only [opB]
          all_goals
            go_enter Try.func21, Try.ntmps21
            go_wp2_with ((go_at_call 10; (with_reducible refine (rfit_any _ _ _ _ ?_ ?_).mono ?_); (exact H.out); (first | exact iwrap_In _ | exact wrap64_In _ | (unfold In64; omega)); rintro e w' ⟨rfl, hb1⟩))
            go_returns
            first | rw [F8.out] | rw [F9.out]
            refine ⟨ret_ib ?_ rfl, below_new hb1⟩
            first | exact fitS_wrap H.out | exact r_fit _ _ _ H.out | (simp [Int.tdiv_neg, Int.tmod_neg]; done)
end Go.Proofs.Ytaijipapdbahkaa
