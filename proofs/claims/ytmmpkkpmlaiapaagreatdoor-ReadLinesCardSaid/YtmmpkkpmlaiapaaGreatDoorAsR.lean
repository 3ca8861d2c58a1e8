/- merlonref22.Named walked. No condition. -/
import Derived.Test.YtmmpkkpmlaiapaaGreatDoorAsN
namespace Go.Proofs.YtmmpkkpmlaiapaaGreatDoor
open Go.RowKit
set_option linter.unusedVariables false
set_option maxHeartbeats 4000000
set_option maxRecDepth 100000 in
theorem rnamed_any (w : World) (s : ByteArray) (hs : s.size ≤ maxLen) : Calls Tryz.prog 17 #[.string s] w fun e w' => e = .returned (.bool (namedB s)) ∧ Below w.heap.size w w' := by
  unfold maxLen at hs
  by_cases h0 : s.size < 1
  · have HF := Lib.hid (named_long (s := s) (by omega))
    go_enter Tryz.func17, Tryz.ntmps17
    go_wp2_with fail
    go_returns
    exact ⟨by rw [HF.out]; rfl, Below.refl _ _⟩
  by_cases h60 : 60 < s.size
  · have HF := Lib.hid (named_long (s := s) (by omega))
    go_enter Tryz.func17, Tryz.ntmps17
    go_wp2_with fail
    go_returns
    exact ⟨by rw [HF.out]; rfl, Below.refl _ _⟩
  have HZ := Lib.hid (show 0 < s.size ∧ s.size ≤ 60 by omega)
  have h0' : ¬ s.size = 0 := by omega
  go_enter Tryz.func17, Tryz.ntmps17
  go_wp2_with fail
  go_loop [3] (fun i => ∃ k : Nat, k ≤ s.size ∧ okTo s k ∧ i = .int .i64 k) (fun i => s.size - (intOf i).toNat)
  case atStart => exact ⟨0, by omega, (fun j _ h => by omega), rfl⟩
  case round =>
    obtain ⟨k, hk, hok, rfl⟩ := hrel
    have HK := Lib.hid hok
    clear hok
    by_cases hlt : k < s.size
    · obtain ⟨n, hn⟩ : ∃ n, n = (s[k]'hlt).toNat := ⟨_, rfl⟩
      have HN := Lib.hid hn
      have hix : ∀ w, (Instr.index 9 (.string s) (.int .i64 (k : Int))).run Tryz.prog w = .ok (.int .u8 (n : Int)) w := fun w => by
        rw [run_index_string (h := Tryz.underlying9), dif_pos (show 0 ≤ (k : Int) ∧ (k : Int) < s.size by omega), hn]
        simp only [Int.toNat_natCast]
      have hc0 : (0 : Int) ≤ (n : Int) := by omega
      have hc1 : (n : Int) < 256 := by have := byte_lt (s[k]'hlt); omega
      rcases cls hc0 hc1 with ⟨l, u⟩ | ⟨l, u⟩ | ⟨l, u⟩ | ⟨l, u⟩ | ⟨l, u⟩ | ⟨l, u⟩ | ⟨l, u⟩ | ⟨l, u⟩ | ⟨l, u⟩ | ⟨l, u⟩ | ⟨l, u⟩
      · have l2 : 0 ≤ n := by omega
        have u2 : n ≤ 45 := by omega
        have D1 : decide ((97 : Int) ≤ (n : Int)) = false := by rw [decide_eq_false_iff_not]; omega
        have D2 : decide ((n : Int) ≤ (122 : Int)) = true := by rw [decide_eq_true_iff]; omega
        have D3 : decide ((65 : Int) ≤ (n : Int)) = false := by rw [decide_eq_false_iff_not]; omega
        have D4 : decide ((n : Int) ≤ (90 : Int)) = true := by rw [decide_eq_true_iff]; omega
        have D5 : decide ((48 : Int) ≤ (n : Int)) = false := by rw [decide_eq_false_iff_not]; omega
        have D6 : decide ((n : Int) ≤ (57 : Int)) = true := by rw [decide_eq_true_iff]; omega
        have D7 : ((n : Int) == (95 : Int)) = false := by rw [beq_eq_false_iff_ne]; omega
        have D8 : ((n : Int) == (46 : Int)) = false := by rw [beq_eq_false_iff_ne]; omega
        have D9 : decide ((n : Int) < (48 : Int)) = true := by rw [decide_eq_true_iff]; omega
        have D0 : decide ((57 : Int) < (n : Int)) = false := by rw [decide_eq_false_iff_not]; omega
        have HW : Hid (wordN n = false ∧ digN n = false) := Lib.hid (by unfold wordN digN; constructor <;> simp <;> omega)
        clear hn hc0 hc1 l u l2 u2
        have HF := Lib.hid (named_no hlt (ok_bad (i := k) (by rw [← HN.out]; exact HW.out.1) (by rw [← HN.out]; exact HW.out.2)))
        by_cases hk0 : k = 0
        · have hk1 : ¬ 0 < k := by omega
          have hk2 : ¬ (0 : Int) < (k : Int) := by omega
          have hk3 : decide ((0 : Int) < (k : Int)) = false := decide_eq_false hk2
          have hk4 : decide (0 < k) = false := decide_eq_false hk1
          clear hk0
          go_wp2_with fail
          all_goals go_returns
          all_goals exact ⟨by rw [HF.out]; rfl, Below.refl _ _⟩
        · have hkz : ¬ k = 0 := hk0
          have hk1 : 0 < k := by omega
          have hk2 : (0 : Int) < (k : Int) := by omega
          have hk3 : decide ((0 : Int) < (k : Int)) = true := decide_eq_true hk2
          have hk4 : decide (0 < k) = true := decide_eq_true hk1
          clear hk0
          go_wp2_with fail
          all_goals go_returns
          all_goals exact ⟨by rw [HF.out]; rfl, Below.refl _ _⟩
      · have l2 : 46 ≤ n := by omega
        have u2 : n ≤ 46 := by omega
        have D1 : decide ((97 : Int) ≤ (n : Int)) = false := by rw [decide_eq_false_iff_not]; omega
        have D2 : decide ((n : Int) ≤ (122 : Int)) = true := by rw [decide_eq_true_iff]; omega
        have D3 : decide ((65 : Int) ≤ (n : Int)) = false := by rw [decide_eq_false_iff_not]; omega
        have D4 : decide ((n : Int) ≤ (90 : Int)) = true := by rw [decide_eq_true_iff]; omega
        have D5 : decide ((48 : Int) ≤ (n : Int)) = false := by rw [decide_eq_false_iff_not]; omega
        have D6 : decide ((n : Int) ≤ (57 : Int)) = true := by rw [decide_eq_true_iff]; omega
        have D7 : ((n : Int) == (95 : Int)) = false := by rw [beq_eq_false_iff_ne]; omega
        have D8 : ((n : Int) == (46 : Int)) = true := by rw [beq_iff_eq]; omega
        have D9 : decide ((n : Int) < (48 : Int)) = true := by rw [decide_eq_true_iff]; omega
        have D0 : decide ((57 : Int) < (n : Int)) = false := by rw [decide_eq_false_iff_not]; omega
        have HW : Hid (wordN n = true ∧ digN n = false) := Lib.hid (by unfold wordN digN; constructor <;> simp <;> omega)
        clear hn hc0 hc1 l u l2 u2
        go_wp2_with fail
        go_round
        case rel => exact ⟨k + 1, by omega, okTo_succ HK.out hlt (ok_word (by rw [← HN.out]; exact HW.out.1)), by go_num⟩
        case measure => simp [intOf]; omega
      · have l2 : 47 ≤ n := by omega
        have u2 : n ≤ 47 := by omega
        have D1 : decide ((97 : Int) ≤ (n : Int)) = false := by rw [decide_eq_false_iff_not]; omega
        have D2 : decide ((n : Int) ≤ (122 : Int)) = true := by rw [decide_eq_true_iff]; omega
        have D3 : decide ((65 : Int) ≤ (n : Int)) = false := by rw [decide_eq_false_iff_not]; omega
        have D4 : decide ((n : Int) ≤ (90 : Int)) = true := by rw [decide_eq_true_iff]; omega
        have D5 : decide ((48 : Int) ≤ (n : Int)) = false := by rw [decide_eq_false_iff_not]; omega
        have D6 : decide ((n : Int) ≤ (57 : Int)) = true := by rw [decide_eq_true_iff]; omega
        have D7 : ((n : Int) == (95 : Int)) = false := by rw [beq_eq_false_iff_ne]; omega
        have D8 : ((n : Int) == (46 : Int)) = false := by rw [beq_eq_false_iff_ne]; omega
        have D9 : decide ((n : Int) < (48 : Int)) = true := by rw [decide_eq_true_iff]; omega
        have D0 : decide ((57 : Int) < (n : Int)) = false := by rw [decide_eq_false_iff_not]; omega
        have HW : Hid (wordN n = false ∧ digN n = false) := Lib.hid (by unfold wordN digN; constructor <;> simp <;> omega)
        clear hn hc0 hc1 l u l2 u2
        have HF := Lib.hid (named_no hlt (ok_bad (i := k) (by rw [← HN.out]; exact HW.out.1) (by rw [← HN.out]; exact HW.out.2)))
        by_cases hk0 : k = 0
        · have hk1 : ¬ 0 < k := by omega
          have hk2 : ¬ (0 : Int) < (k : Int) := by omega
          have hk3 : decide ((0 : Int) < (k : Int)) = false := decide_eq_false hk2
          have hk4 : decide (0 < k) = false := decide_eq_false hk1
          clear hk0
          go_wp2_with fail
          all_goals go_returns
          all_goals exact ⟨by rw [HF.out]; rfl, Below.refl _ _⟩
        · have hkz : ¬ k = 0 := hk0
          have hk1 : 0 < k := by omega
          have hk2 : (0 : Int) < (k : Int) := by omega
          have hk3 : decide ((0 : Int) < (k : Int)) = true := decide_eq_true hk2
          have hk4 : decide (0 < k) = true := decide_eq_true hk1
          clear hk0
          go_wp2_with fail
          all_goals go_returns
          all_goals exact ⟨by rw [HF.out]; rfl, Below.refl _ _⟩
      · have l2 : 48 ≤ n := by omega
        have u2 : n ≤ 57 := by omega
        have D1 : decide ((97 : Int) ≤ (n : Int)) = false := by rw [decide_eq_false_iff_not]; omega
        have D2 : decide ((n : Int) ≤ (122 : Int)) = true := by rw [decide_eq_true_iff]; omega
        have D3 : decide ((65 : Int) ≤ (n : Int)) = false := by rw [decide_eq_false_iff_not]; omega
        have D4 : decide ((n : Int) ≤ (90 : Int)) = true := by rw [decide_eq_true_iff]; omega
        have D5 : decide ((48 : Int) ≤ (n : Int)) = true := by rw [decide_eq_true_iff]; omega
        have D6 : decide ((n : Int) ≤ (57 : Int)) = true := by rw [decide_eq_true_iff]; omega
        have D7 : ((n : Int) == (95 : Int)) = false := by rw [beq_eq_false_iff_ne]; omega
        have D8 : ((n : Int) == (46 : Int)) = false := by rw [beq_eq_false_iff_ne]; omega
        have D9 : decide ((n : Int) < (48 : Int)) = false := by rw [decide_eq_false_iff_not]; omega
        have D0 : decide ((57 : Int) < (n : Int)) = false := by rw [decide_eq_false_iff_not]; omega
        have HW : Hid (wordN n = false ∧ digN n = true) := Lib.hid (by unfold wordN digN; constructor <;> simp <;> omega)
        clear hn hc0 hc1 l u l2 u2
        by_cases hk0 : k = 0
        · have HF := Lib.hid (named_no hlt (by have h := ok_dig0 (n := n) HW.out.1; rw [HN.out] at h; exact (congrArg (fun i => okAt i (s[k]'hlt).toNat) hk0).trans h))
          have hk1 : ¬ 0 < k := by omega
          have hk2 : ¬ (0 : Int) < (k : Int) := by omega
          have hk3 : decide ((0 : Int) < (k : Int)) = false := decide_eq_false hk2
          have hk4 : decide (0 < k) = false := decide_eq_false hk1
          clear hk0
          go_wp2_with fail
          all_goals go_returns
          all_goals exact ⟨by rw [HF.out]; rfl, Below.refl _ _⟩
        · have hkz : ¬ k = 0 := hk0
          have hk1 : 0 < k := by omega
          have hk2 : (0 : Int) < (k : Int) := by omega
          have hk3 : decide ((0 : Int) < (k : Int)) = true := decide_eq_true hk2
          have hk4 : decide (0 < k) = true := decide_eq_true hk1
          have HK0 := Lib.hid hk0
          clear hk0
          go_wp2_with fail
          go_round
          case rel => exact ⟨k + 1, by omega, okTo_succ HK.out hlt (ok_dig (by rw [← HN.out]; exact HW.out.2) (by have := HK0.out; omega)), by go_num⟩
          case measure => simp [intOf]; omega
      · have l2 : 58 ≤ n := by omega
        have u2 : n ≤ 64 := by omega
        have D1 : decide ((97 : Int) ≤ (n : Int)) = false := by rw [decide_eq_false_iff_not]; omega
        have D2 : decide ((n : Int) ≤ (122 : Int)) = true := by rw [decide_eq_true_iff]; omega
        have D3 : decide ((65 : Int) ≤ (n : Int)) = false := by rw [decide_eq_false_iff_not]; omega
        have D4 : decide ((n : Int) ≤ (90 : Int)) = true := by rw [decide_eq_true_iff]; omega
        have D5 : decide ((48 : Int) ≤ (n : Int)) = true := by rw [decide_eq_true_iff]; omega
        have D6 : decide ((n : Int) ≤ (57 : Int)) = false := by rw [decide_eq_false_iff_not]; omega
        have D7 : ((n : Int) == (95 : Int)) = false := by rw [beq_eq_false_iff_ne]; omega
        have D8 : ((n : Int) == (46 : Int)) = false := by rw [beq_eq_false_iff_ne]; omega
        have D9 : decide ((n : Int) < (48 : Int)) = false := by rw [decide_eq_false_iff_not]; omega
        have D0 : decide ((57 : Int) < (n : Int)) = true := by rw [decide_eq_true_iff]; omega
        have HW : Hid (wordN n = false ∧ digN n = false) := Lib.hid (by unfold wordN digN; constructor <;> simp <;> omega)
        clear hn hc0 hc1 l u l2 u2
        have HF := Lib.hid (named_no hlt (ok_bad (i := k) (by rw [← HN.out]; exact HW.out.1) (by rw [← HN.out]; exact HW.out.2)))
        by_cases hk0 : k = 0
        · have hk1 : ¬ 0 < k := by omega
          have hk2 : ¬ (0 : Int) < (k : Int) := by omega
          have hk3 : decide ((0 : Int) < (k : Int)) = false := decide_eq_false hk2
          have hk4 : decide (0 < k) = false := decide_eq_false hk1
          clear hk0
          go_wp2_with fail
          all_goals go_returns
          all_goals exact ⟨by rw [HF.out]; rfl, Below.refl _ _⟩
        · have hkz : ¬ k = 0 := hk0
          have hk1 : 0 < k := by omega
          have hk2 : (0 : Int) < (k : Int) := by omega
          have hk3 : decide ((0 : Int) < (k : Int)) = true := decide_eq_true hk2
          have hk4 : decide (0 < k) = true := decide_eq_true hk1
          clear hk0
          go_wp2_with fail
          all_goals go_returns
          all_goals exact ⟨by rw [HF.out]; rfl, Below.refl _ _⟩
      · have l2 : 65 ≤ n := by omega
        have u2 : n ≤ 90 := by omega
        have D1 : decide ((97 : Int) ≤ (n : Int)) = false := by rw [decide_eq_false_iff_not]; omega
        have D2 : decide ((n : Int) ≤ (122 : Int)) = true := by rw [decide_eq_true_iff]; omega
        have D3 : decide ((65 : Int) ≤ (n : Int)) = true := by rw [decide_eq_true_iff]; omega
        have D4 : decide ((n : Int) ≤ (90 : Int)) = true := by rw [decide_eq_true_iff]; omega
        have D5 : decide ((48 : Int) ≤ (n : Int)) = true := by rw [decide_eq_true_iff]; omega
        have D6 : decide ((n : Int) ≤ (57 : Int)) = false := by rw [decide_eq_false_iff_not]; omega
        have D7 : ((n : Int) == (95 : Int)) = false := by rw [beq_eq_false_iff_ne]; omega
        have D8 : ((n : Int) == (46 : Int)) = false := by rw [beq_eq_false_iff_ne]; omega
        have D9 : decide ((n : Int) < (48 : Int)) = false := by rw [decide_eq_false_iff_not]; omega
        have D0 : decide ((57 : Int) < (n : Int)) = true := by rw [decide_eq_true_iff]; omega
        have HW : Hid (wordN n = true ∧ digN n = false) := Lib.hid (by unfold wordN digN; constructor <;> simp <;> omega)
        clear hn hc0 hc1 l u l2 u2
        go_wp2_with fail
        go_round
        case rel => exact ⟨k + 1, by omega, okTo_succ HK.out hlt (ok_word (by rw [← HN.out]; exact HW.out.1)), by go_num⟩
        case measure => simp [intOf]; omega
      · have l2 : 91 ≤ n := by omega
        have u2 : n ≤ 94 := by omega
        have D1 : decide ((97 : Int) ≤ (n : Int)) = false := by rw [decide_eq_false_iff_not]; omega
        have D2 : decide ((n : Int) ≤ (122 : Int)) = true := by rw [decide_eq_true_iff]; omega
        have D3 : decide ((65 : Int) ≤ (n : Int)) = true := by rw [decide_eq_true_iff]; omega
        have D4 : decide ((n : Int) ≤ (90 : Int)) = false := by rw [decide_eq_false_iff_not]; omega
        have D5 : decide ((48 : Int) ≤ (n : Int)) = true := by rw [decide_eq_true_iff]; omega
        have D6 : decide ((n : Int) ≤ (57 : Int)) = false := by rw [decide_eq_false_iff_not]; omega
        have D7 : ((n : Int) == (95 : Int)) = false := by rw [beq_eq_false_iff_ne]; omega
        have D8 : ((n : Int) == (46 : Int)) = false := by rw [beq_eq_false_iff_ne]; omega
        have D9 : decide ((n : Int) < (48 : Int)) = false := by rw [decide_eq_false_iff_not]; omega
        have D0 : decide ((57 : Int) < (n : Int)) = true := by rw [decide_eq_true_iff]; omega
        have HW : Hid (wordN n = false ∧ digN n = false) := Lib.hid (by unfold wordN digN; constructor <;> simp <;> omega)
        clear hn hc0 hc1 l u l2 u2
        have HF := Lib.hid (named_no hlt (ok_bad (i := k) (by rw [← HN.out]; exact HW.out.1) (by rw [← HN.out]; exact HW.out.2)))
        by_cases hk0 : k = 0
        · have hk1 : ¬ 0 < k := by omega
          have hk2 : ¬ (0 : Int) < (k : Int) := by omega
          have hk3 : decide ((0 : Int) < (k : Int)) = false := decide_eq_false hk2
          have hk4 : decide (0 < k) = false := decide_eq_false hk1
          clear hk0
          go_wp2_with fail
          all_goals go_returns
          all_goals exact ⟨by rw [HF.out]; rfl, Below.refl _ _⟩
        · have hkz : ¬ k = 0 := hk0
          have hk1 : 0 < k := by omega
          have hk2 : (0 : Int) < (k : Int) := by omega
          have hk3 : decide ((0 : Int) < (k : Int)) = true := decide_eq_true hk2
          have hk4 : decide (0 < k) = true := decide_eq_true hk1
          clear hk0
          go_wp2_with fail
          all_goals go_returns
          all_goals exact ⟨by rw [HF.out]; rfl, Below.refl _ _⟩
      · have l2 : 95 ≤ n := by omega
        have u2 : n ≤ 95 := by omega
        have D1 : decide ((97 : Int) ≤ (n : Int)) = false := by rw [decide_eq_false_iff_not]; omega
        have D2 : decide ((n : Int) ≤ (122 : Int)) = true := by rw [decide_eq_true_iff]; omega
        have D3 : decide ((65 : Int) ≤ (n : Int)) = true := by rw [decide_eq_true_iff]; omega
        have D4 : decide ((n : Int) ≤ (90 : Int)) = false := by rw [decide_eq_false_iff_not]; omega
        have D5 : decide ((48 : Int) ≤ (n : Int)) = true := by rw [decide_eq_true_iff]; omega
        have D6 : decide ((n : Int) ≤ (57 : Int)) = false := by rw [decide_eq_false_iff_not]; omega
        have D7 : ((n : Int) == (95 : Int)) = true := by rw [beq_iff_eq]; omega
        have D8 : ((n : Int) == (46 : Int)) = false := by rw [beq_eq_false_iff_ne]; omega
        have D9 : decide ((n : Int) < (48 : Int)) = false := by rw [decide_eq_false_iff_not]; omega
        have D0 : decide ((57 : Int) < (n : Int)) = true := by rw [decide_eq_true_iff]; omega
        have HW : Hid (wordN n = true ∧ digN n = false) := Lib.hid (by unfold wordN digN; constructor <;> simp <;> omega)
        clear hn hc0 hc1 l u l2 u2
        go_wp2_with fail
        go_round
        case rel => exact ⟨k + 1, by omega, okTo_succ HK.out hlt (ok_word (by rw [← HN.out]; exact HW.out.1)), by go_num⟩
        case measure => simp [intOf]; omega
      · have l2 : 96 ≤ n := by omega
        have u2 : n ≤ 96 := by omega
        have D1 : decide ((97 : Int) ≤ (n : Int)) = false := by rw [decide_eq_false_iff_not]; omega
        have D2 : decide ((n : Int) ≤ (122 : Int)) = true := by rw [decide_eq_true_iff]; omega
        have D3 : decide ((65 : Int) ≤ (n : Int)) = true := by rw [decide_eq_true_iff]; omega
        have D4 : decide ((n : Int) ≤ (90 : Int)) = false := by rw [decide_eq_false_iff_not]; omega
        have D5 : decide ((48 : Int) ≤ (n : Int)) = true := by rw [decide_eq_true_iff]; omega
        have D6 : decide ((n : Int) ≤ (57 : Int)) = false := by rw [decide_eq_false_iff_not]; omega
        have D7 : ((n : Int) == (95 : Int)) = false := by rw [beq_eq_false_iff_ne]; omega
        have D8 : ((n : Int) == (46 : Int)) = false := by rw [beq_eq_false_iff_ne]; omega
        have D9 : decide ((n : Int) < (48 : Int)) = false := by rw [decide_eq_false_iff_not]; omega
        have D0 : decide ((57 : Int) < (n : Int)) = true := by rw [decide_eq_true_iff]; omega
        have HW : Hid (wordN n = false ∧ digN n = false) := Lib.hid (by unfold wordN digN; constructor <;> simp <;> omega)
        clear hn hc0 hc1 l u l2 u2
        have HF := Lib.hid (named_no hlt (ok_bad (i := k) (by rw [← HN.out]; exact HW.out.1) (by rw [← HN.out]; exact HW.out.2)))
        by_cases hk0 : k = 0
        · have hk1 : ¬ 0 < k := by omega
          have hk2 : ¬ (0 : Int) < (k : Int) := by omega
          have hk3 : decide ((0 : Int) < (k : Int)) = false := decide_eq_false hk2
          have hk4 : decide (0 < k) = false := decide_eq_false hk1
          clear hk0
          go_wp2_with fail
          all_goals go_returns
          all_goals exact ⟨by rw [HF.out]; rfl, Below.refl _ _⟩
        · have hkz : ¬ k = 0 := hk0
          have hk1 : 0 < k := by omega
          have hk2 : (0 : Int) < (k : Int) := by omega
          have hk3 : decide ((0 : Int) < (k : Int)) = true := decide_eq_true hk2
          have hk4 : decide (0 < k) = true := decide_eq_true hk1
          clear hk0
          go_wp2_with fail
          all_goals go_returns
          all_goals exact ⟨by rw [HF.out]; rfl, Below.refl _ _⟩
      · have l2 : 97 ≤ n := by omega
        have u2 : n ≤ 122 := by omega
        have D1 : decide ((97 : Int) ≤ (n : Int)) = true := by rw [decide_eq_true_iff]; omega
        have D2 : decide ((n : Int) ≤ (122 : Int)) = true := by rw [decide_eq_true_iff]; omega
        have D3 : decide ((65 : Int) ≤ (n : Int)) = true := by rw [decide_eq_true_iff]; omega
        have D4 : decide ((n : Int) ≤ (90 : Int)) = false := by rw [decide_eq_false_iff_not]; omega
        have D5 : decide ((48 : Int) ≤ (n : Int)) = true := by rw [decide_eq_true_iff]; omega
        have D6 : decide ((n : Int) ≤ (57 : Int)) = false := by rw [decide_eq_false_iff_not]; omega
        have D7 : ((n : Int) == (95 : Int)) = false := by rw [beq_eq_false_iff_ne]; omega
        have D8 : ((n : Int) == (46 : Int)) = false := by rw [beq_eq_false_iff_ne]; omega
        have D9 : decide ((n : Int) < (48 : Int)) = false := by rw [decide_eq_false_iff_not]; omega
        have D0 : decide ((57 : Int) < (n : Int)) = true := by rw [decide_eq_true_iff]; omega
        have HW : Hid (wordN n = true ∧ digN n = false) := Lib.hid (by unfold wordN digN; constructor <;> simp <;> omega)
        clear hn hc0 hc1 l u l2 u2
        go_wp2_with fail
        go_round
        case rel => exact ⟨k + 1, by omega, okTo_succ HK.out hlt (ok_word (by rw [← HN.out]; exact HW.out.1)), by go_num⟩
        case measure => simp [intOf]; omega
      · have l2 : 123 ≤ n := by omega
        have u2 : n ≤ 255 := by omega
        have D1 : decide ((97 : Int) ≤ (n : Int)) = true := by rw [decide_eq_true_iff]; omega
        have D2 : decide ((n : Int) ≤ (122 : Int)) = false := by rw [decide_eq_false_iff_not]; omega
        have D3 : decide ((65 : Int) ≤ (n : Int)) = true := by rw [decide_eq_true_iff]; omega
        have D4 : decide ((n : Int) ≤ (90 : Int)) = false := by rw [decide_eq_false_iff_not]; omega
        have D5 : decide ((48 : Int) ≤ (n : Int)) = true := by rw [decide_eq_true_iff]; omega
        have D6 : decide ((n : Int) ≤ (57 : Int)) = false := by rw [decide_eq_false_iff_not]; omega
        have D7 : ((n : Int) == (95 : Int)) = false := by rw [beq_eq_false_iff_ne]; omega
        have D8 : ((n : Int) == (46 : Int)) = false := by rw [beq_eq_false_iff_ne]; omega
        have D9 : decide ((n : Int) < (48 : Int)) = false := by rw [decide_eq_false_iff_not]; omega
        have D0 : decide ((57 : Int) < (n : Int)) = true := by rw [decide_eq_true_iff]; omega
        have HW : Hid (wordN n = false ∧ digN n = false) := Lib.hid (by unfold wordN digN; constructor <;> simp <;> omega)
        clear hn hc0 hc1 l u l2 u2
        have HF := Lib.hid (named_no hlt (ok_bad (i := k) (by rw [← HN.out]; exact HW.out.1) (by rw [← HN.out]; exact HW.out.2)))
        by_cases hk0 : k = 0
        · have hk1 : ¬ 0 < k := by omega
          have hk2 : ¬ (0 : Int) < (k : Int) := by omega
          have hk3 : decide ((0 : Int) < (k : Int)) = false := decide_eq_false hk2
          have hk4 : decide (0 < k) = false := decide_eq_false hk1
          clear hk0
          go_wp2_with fail
          all_goals go_returns
          all_goals exact ⟨by rw [HF.out]; rfl, Below.refl _ _⟩
        · have hkz : ¬ k = 0 := hk0
          have hk1 : 0 < k := by omega
          have hk2 : (0 : Int) < (k : Int) := by omega
          have hk3 : decide ((0 : Int) < (k : Int)) = true := decide_eq_true hk2
          have hk4 : decide (0 < k) = true := decide_eq_true hk1
          clear hk0
          go_wp2_with fail
          all_goals go_returns
          all_goals exact ⟨by rw [HF.out]; rfl, Below.refl _ _⟩
    · have e : k = s.size := by omega
      subst e
      have HF := Lib.hid (named_yes HZ.out HK.out)
      go_wp2_with fail
      go_returns
      exact ⟨by rw [HF.out]; rfl, Below.refl _ _⟩
end Go.Proofs.YtmmpkkpmlaiapaaGreatDoor
