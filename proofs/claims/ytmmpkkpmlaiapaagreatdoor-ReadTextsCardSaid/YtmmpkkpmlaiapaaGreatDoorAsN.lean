/- asm.Named and merlonref22.Named walked: they answer the same. No condition. -/
import Derived.Test.YtmmpkkpmlaiapaaGreatDoorQa
import Derived.Laws.RangeAny
namespace Go.Proofs.YtmmpkkpmlaiapaaGreatDoor
open Go.RowKit
set_option linter.unusedVariables false
set_option maxHeartbeats 4000000
theorem cls {c : Int} (h0 : 0 ≤ c) (h1 : c < 256) : (0 ≤ c ∧ c ≤ 45) ∨ (46 ≤ c ∧ c ≤ 46) ∨ (47 ≤ c ∧ c ≤ 47) ∨ (48 ≤ c ∧ c ≤ 57) ∨ (58 ≤ c ∧ c ≤ 64) ∨ (65 ≤ c ∧ c ≤ 90) ∨ (91 ≤ c ∧ c ≤ 94) ∨ (95 ≤ c ∧ c ≤ 95) ∨ (96 ≤ c ∧ c ≤ 96) ∨ (97 ≤ c ∧ c ≤ 122) ∨ (123 ≤ c ∧ c ≤ 255) := by omega
theorem isEmpty_size (s : ByteArray) : s.toList.isEmpty = decide (s.size = 0) := by
  rw [← decide_eq_emptyBytes s]
  exact decide_eq_decide.2 ⟨fun h => by rw [h]; rfl, fun h => by cases s with | mk d => exact congrArg ByteArray.mk (Array.eq_empty_of_size_eq_zero h)⟩
set_option maxRecDepth 100000 in
theorem named_any (w : World) (s : ByteArray) (hs : s.size ≤ maxLen) : Calls Tryz.prog 34 #[.string s] w fun e w' => e = .returned (.bool (namedB s)) ∧ Below w.heap.size w w' := by
  unfold maxLen at hs
  go_enter Tryz.func34, Tryz.ntmps34
  go_wp2_with fail
  go_loopw [] (fun wr => ∃ k : Nat, k ≤ s.size ∧ okTo s k ∧ wr = w.iter s k) (fun wr => s.size - wr.iterPos w.heap.size)
  case atStart => exact ⟨0, by omega, (fun j _ h => by omega), rfl⟩
  case round =>
    obtain ⟨k, hk, hok, rfl⟩ := hrel
    have HK := Lib.hid hok
    have HI := Lib.hid (show Below w.heap.size w (w.iter s k) from below_alloc _ (Below.refl _ _))
    clear hok
    by_cases hlt : k < s.size
    · by_cases ha : (s[k]'hlt).toNat < 128
      · have hnx := fun ty => run_next_ascii (P := Tryz.prog) w s k ty hlt ha
        obtain ⟨n, hn⟩ : ∃ n, n = (s[k]'hlt).toNat := ⟨_, rfl⟩
        have HN := Lib.hid hn
        have HI2 := Lib.hid (show Below w.heap.size w (w.iter s (k + 1)) from below_alloc _ (Below.refl _ _))
        rw [← hn] at hnx
        have hc0 : (0 : Int) ≤ (n : Int) := by omega
        have hc1 : (n : Int) < 256 := by omega
        rcases cls hc0 hc1 with ⟨l, u⟩ | ⟨l, u⟩ | ⟨l, u⟩ | ⟨l, u⟩ | ⟨l, u⟩ | ⟨l, u⟩ | ⟨l, u⟩ | ⟨l, u⟩ | ⟨l, u⟩ | ⟨l, u⟩ | ⟨l, u⟩
        · have l2 : 0 ≤ n := by omega
          have u2 : n ≤ 45 := by omega
          have D1 : decide ((97 : Int) ≤ (n : Int)) = false := by rw [decide_eq_false_iff_not]; omega
          have D2 : decide ((n : Int) ≤ (122 : Int)) = true := by rw [decide_eq_true_iff]; omega
          have D3 : decide ((65 : Int) ≤ (n : Int)) = false := by rw [decide_eq_false_iff_not]; omega
          have D4 : decide ((n : Int) ≤ (90 : Int)) = true := by rw [decide_eq_true_iff]; omega
          have D5 : decide ((48 : Int) ≤ (n : Int)) = false := by rw [decide_eq_false_iff_not]; omega
          have D6 : decide ((n : Int) ≤ (57 : Int)) = true := by rw [decide_eq_true_iff]; omega
          have D7 : ((n : Int) == (95 : Int)) = false := by rw [beq_eq_false_iff_ne]; omega
          have D8 : ((n : Int) == (46 : Int)) = false := by rw [beq_eq_false_iff_ne]; omega
          have D9 : decide ((n : Int) < (48 : Int)) = true := by rw [decide_eq_true_iff]; omega
          have D0 : decide ((57 : Int) < (n : Int)) = false := by rw [decide_eq_false_iff_not]; omega
          have HW : Hid (wordN n = false ∧ digN n = false) := Lib.hid (by unfold wordN digN; constructor <;> simp <;> omega)
          clear hn ha hc0 hc1 l u l2 u2
          have HF := Lib.hid (named_no hlt (ok_bad (i := k) (by rw [← HN.out]; exact HW.out.1) (by rw [← HN.out]; exact HW.out.2)))
          by_cases hk0 : k = 0
          · subst hk0
            go_wp2_with fail
            go_returns
            exact ⟨by rw [HF.out]; rfl, HI2.out⟩
          · have hk1 : ((k : Int) == 0) = false := by rw [beq_eq_false_iff_ne]; omega
            clear hk0
            go_wp2_with fail
            go_returns
            exact ⟨by rw [HF.out]; rfl, HI2.out⟩
        · have l2 : 46 ≤ n := by omega
          have u2 : n ≤ 46 := by omega
          have D1 : decide ((97 : Int) ≤ (n : Int)) = false := by rw [decide_eq_false_iff_not]; omega
          have D2 : decide ((n : Int) ≤ (122 : Int)) = true := by rw [decide_eq_true_iff]; omega
          have D3 : decide ((65 : Int) ≤ (n : Int)) = false := by rw [decide_eq_false_iff_not]; omega
          have D4 : decide ((n : Int) ≤ (90 : Int)) = true := by rw [decide_eq_true_iff]; omega
          have D5 : decide ((48 : Int) ≤ (n : Int)) = false := by rw [decide_eq_false_iff_not]; omega
          have D6 : decide ((n : Int) ≤ (57 : Int)) = true := by rw [decide_eq_true_iff]; omega
          have D7 : ((n : Int) == (95 : Int)) = false := by rw [beq_eq_false_iff_ne]; omega
          have D8 : ((n : Int) == (46 : Int)) = true := by rw [beq_iff_eq]; omega
          have D9 : decide ((n : Int) < (48 : Int)) = true := by rw [decide_eq_true_iff]; omega
          have D0 : decide ((57 : Int) < (n : Int)) = false := by rw [decide_eq_false_iff_not]; omega
          have HW : Hid (wordN n = true ∧ digN n = false) := Lib.hid (by unfold wordN digN; constructor <;> simp <;> omega)
          clear hn ha hc0 hc1 l u l2 u2
          go_wp2_with fail
          go_roundw
          case rel => exact ⟨k + 1, by omega, okTo_succ HK.out hlt (ok_word (by rw [← HN.out]; exact HW.out.1)), rfl⟩
          case measure => simp; omega
        · have l2 : 47 ≤ n := by omega
          have u2 : n ≤ 47 := by omega
          have D1 : decide ((97 : Int) ≤ (n : Int)) = false := by rw [decide_eq_false_iff_not]; omega
          have D2 : decide ((n : Int) ≤ (122 : Int)) = true := by rw [decide_eq_true_iff]; omega
          have D3 : decide ((65 : Int) ≤ (n : Int)) = false := by rw [decide_eq_false_iff_not]; omega
          have D4 : decide ((n : Int) ≤ (90 : Int)) = true := by rw [decide_eq_true_iff]; omega
          have D5 : decide ((48 : Int) ≤ (n : Int)) = false := by rw [decide_eq_false_iff_not]; omega
          have D6 : decide ((n : Int) ≤ (57 : Int)) = true := by rw [decide_eq_true_iff]; omega
          have D7 : ((n : Int) == (95 : Int)) = false := by rw [beq_eq_false_iff_ne]; omega
          have D8 : ((n : Int) == (46 : Int)) = false := by rw [beq_eq_false_iff_ne]; omega
          have D9 : decide ((n : Int) < (48 : Int)) = true := by rw [decide_eq_true_iff]; omega
          have D0 : decide ((57 : Int) < (n : Int)) = false := by rw [decide_eq_false_iff_not]; omega
          have HW : Hid (wordN n = false ∧ digN n = false) := Lib.hid (by unfold wordN digN; constructor <;> simp <;> omega)
          clear hn ha hc0 hc1 l u l2 u2
          have HF := Lib.hid (named_no hlt (ok_bad (i := k) (by rw [← HN.out]; exact HW.out.1) (by rw [← HN.out]; exact HW.out.2)))
          by_cases hk0 : k = 0
          · subst hk0
            go_wp2_with fail
            go_returns
            exact ⟨by rw [HF.out]; rfl, HI2.out⟩
          · have hk1 : ((k : Int) == 0) = false := by rw [beq_eq_false_iff_ne]; omega
            clear hk0
            go_wp2_with fail
            go_returns
            exact ⟨by rw [HF.out]; rfl, HI2.out⟩
        · have l2 : 48 ≤ n := by omega
          have u2 : n ≤ 57 := by omega
          have D1 : decide ((97 : Int) ≤ (n : Int)) = false := by rw [decide_eq_false_iff_not]; omega
          have D2 : decide ((n : Int) ≤ (122 : Int)) = true := by rw [decide_eq_true_iff]; omega
          have D3 : decide ((65 : Int) ≤ (n : Int)) = false := by rw [decide_eq_false_iff_not]; omega
          have D4 : decide ((n : Int) ≤ (90 : Int)) = true := by rw [decide_eq_true_iff]; omega
          have D5 : decide ((48 : Int) ≤ (n : Int)) = true := by rw [decide_eq_true_iff]; omega
          have D6 : decide ((n : Int) ≤ (57 : Int)) = true := by rw [decide_eq_true_iff]; omega
          have D7 : ((n : Int) == (95 : Int)) = false := by rw [beq_eq_false_iff_ne]; omega
          have D8 : ((n : Int) == (46 : Int)) = false := by rw [beq_eq_false_iff_ne]; omega
          have D9 : decide ((n : Int) < (48 : Int)) = false := by rw [decide_eq_false_iff_not]; omega
          have D0 : decide ((57 : Int) < (n : Int)) = false := by rw [decide_eq_false_iff_not]; omega
          have HW : Hid (wordN n = false ∧ digN n = true) := Lib.hid (by unfold wordN digN; constructor <;> simp <;> omega)
          clear hn ha hc0 hc1 l u l2 u2
          by_cases hk0 : k = 0
          · subst hk0
            have HF := Lib.hid (named_no hlt (by have h := ok_dig0 (n := n) HW.out.1; rw [HN.out] at h; exact h))
            go_wp2_with fail
            go_returns
            exact ⟨by rw [HF.out]; rfl, HI2.out⟩
          · have hk1 : ((k : Int) == 0) = false := by rw [beq_eq_false_iff_ne]; omega
            have HK0 := Lib.hid hk0
            clear hk0
            go_wp2_with fail
            go_roundw
            case rel => exact ⟨k + 1, by omega, okTo_succ HK.out hlt (ok_dig (by rw [← HN.out]; exact HW.out.2) (by have := HK0.out; omega)), rfl⟩
            case measure => simp; omega
        · have l2 : 58 ≤ n := by omega
          have u2 : n ≤ 64 := by omega
          have D1 : decide ((97 : Int) ≤ (n : Int)) = false := by rw [decide_eq_false_iff_not]; omega
          have D2 : decide ((n : Int) ≤ (122 : Int)) = true := by rw [decide_eq_true_iff]; omega
          have D3 : decide ((65 : Int) ≤ (n : Int)) = false := by rw [decide_eq_false_iff_not]; omega
          have D4 : decide ((n : Int) ≤ (90 : Int)) = true := by rw [decide_eq_true_iff]; omega
          have D5 : decide ((48 : Int) ≤ (n : Int)) = true := by rw [decide_eq_true_iff]; omega
          have D6 : decide ((n : Int) ≤ (57 : Int)) = false := by rw [decide_eq_false_iff_not]; omega
          have D7 : ((n : Int) == (95 : Int)) = false := by rw [beq_eq_false_iff_ne]; omega
          have D8 : ((n : Int) == (46 : Int)) = false := by rw [beq_eq_false_iff_ne]; omega
          have D9 : decide ((n : Int) < (48 : Int)) = false := by rw [decide_eq_false_iff_not]; omega
          have D0 : decide ((57 : Int) < (n : Int)) = true := by rw [decide_eq_true_iff]; omega
          have HW : Hid (wordN n = false ∧ digN n = false) := Lib.hid (by unfold wordN digN; constructor <;> simp <;> omega)
          clear hn ha hc0 hc1 l u l2 u2
          have HF := Lib.hid (named_no hlt (ok_bad (i := k) (by rw [← HN.out]; exact HW.out.1) (by rw [← HN.out]; exact HW.out.2)))
          by_cases hk0 : k = 0
          · subst hk0
            go_wp2_with fail
            go_returns
            exact ⟨by rw [HF.out]; rfl, HI2.out⟩
          · have hk1 : ((k : Int) == 0) = false := by rw [beq_eq_false_iff_ne]; omega
            clear hk0
            go_wp2_with fail
            go_returns
            exact ⟨by rw [HF.out]; rfl, HI2.out⟩
        · have l2 : 65 ≤ n := by omega
          have u2 : n ≤ 90 := by omega
          have D1 : decide ((97 : Int) ≤ (n : Int)) = false := by rw [decide_eq_false_iff_not]; omega
          have D2 : decide ((n : Int) ≤ (122 : Int)) = true := by rw [decide_eq_true_iff]; omega
          have D3 : decide ((65 : Int) ≤ (n : Int)) = true := by rw [decide_eq_true_iff]; omega
          have D4 : decide ((n : Int) ≤ (90 : Int)) = true := by rw [decide_eq_true_iff]; omega
          have D5 : decide ((48 : Int) ≤ (n : Int)) = true := by rw [decide_eq_true_iff]; omega
          have D6 : decide ((n : Int) ≤ (57 : Int)) = false := by rw [decide_eq_false_iff_not]; omega
          have D7 : ((n : Int) == (95 : Int)) = false := by rw [beq_eq_false_iff_ne]; omega
          have D8 : ((n : Int) == (46 : Int)) = false := by rw [beq_eq_false_iff_ne]; omega
          have D9 : decide ((n : Int) < (48 : Int)) = false := by rw [decide_eq_false_iff_not]; omega
          have D0 : decide ((57 : Int) < (n : Int)) = true := by rw [decide_eq_true_iff]; omega
          have HW : Hid (wordN n = true ∧ digN n = false) := Lib.hid (by unfold wordN digN; constructor <;> simp <;> omega)
          clear hn ha hc0 hc1 l u l2 u2
          go_wp2_with fail
          go_roundw
          case rel => exact ⟨k + 1, by omega, okTo_succ HK.out hlt (ok_word (by rw [← HN.out]; exact HW.out.1)), rfl⟩
          case measure => simp; omega
        · have l2 : 91 ≤ n := by omega
          have u2 : n ≤ 94 := by omega
          have D1 : decide ((97 : Int) ≤ (n : Int)) = false := by rw [decide_eq_false_iff_not]; omega
          have D2 : decide ((n : Int) ≤ (122 : Int)) = true := by rw [decide_eq_true_iff]; omega
          have D3 : decide ((65 : Int) ≤ (n : Int)) = true := by rw [decide_eq_true_iff]; omega
          have D4 : decide ((n : Int) ≤ (90 : Int)) = false := by rw [decide_eq_false_iff_not]; omega
          have D5 : decide ((48 : Int) ≤ (n : Int)) = true := by rw [decide_eq_true_iff]; omega
          have D6 : decide ((n : Int) ≤ (57 : Int)) = false := by rw [decide_eq_false_iff_not]; omega
          have D7 : ((n : Int) == (95 : Int)) = false := by rw [beq_eq_false_iff_ne]; omega
          have D8 : ((n : Int) == (46 : Int)) = false := by rw [beq_eq_false_iff_ne]; omega
          have D9 : decide ((n : Int) < (48 : Int)) = false := by rw [decide_eq_false_iff_not]; omega
          have D0 : decide ((57 : Int) < (n : Int)) = true := by rw [decide_eq_true_iff]; omega
          have HW : Hid (wordN n = false ∧ digN n = false) := Lib.hid (by unfold wordN digN; constructor <;> simp <;> omega)
          clear hn ha hc0 hc1 l u l2 u2
          have HF := Lib.hid (named_no hlt (ok_bad (i := k) (by rw [← HN.out]; exact HW.out.1) (by rw [← HN.out]; exact HW.out.2)))
          by_cases hk0 : k = 0
          · subst hk0
            go_wp2_with fail
            go_returns
            exact ⟨by rw [HF.out]; rfl, HI2.out⟩
          · have hk1 : ((k : Int) == 0) = false := by rw [beq_eq_false_iff_ne]; omega
            clear hk0
            go_wp2_with fail
            go_returns
            exact ⟨by rw [HF.out]; rfl, HI2.out⟩
        · have l2 : 95 ≤ n := by omega
          have u2 : n ≤ 95 := by omega
          have D1 : decide ((97 : Int) ≤ (n : Int)) = false := by rw [decide_eq_false_iff_not]; omega
          have D2 : decide ((n : Int) ≤ (122 : Int)) = true := by rw [decide_eq_true_iff]; omega
          have D3 : decide ((65 : Int) ≤ (n : Int)) = true := by rw [decide_eq_true_iff]; omega
          have D4 : decide ((n : Int) ≤ (90 : Int)) = false := by rw [decide_eq_false_iff_not]; omega
          have D5 : decide ((48 : Int) ≤ (n : Int)) = true := by rw [decide_eq_true_iff]; omega
          have D6 : decide ((n : Int) ≤ (57 : Int)) = false := by rw [decide_eq_false_iff_not]; omega
          have D7 : ((n : Int) == (95 : Int)) = true := by rw [beq_iff_eq]; omega
          have D8 : ((n : Int) == (46 : Int)) = false := by rw [beq_eq_false_iff_ne]; omega
          have D9 : decide ((n : Int) < (48 : Int)) = false := by rw [decide_eq_false_iff_not]; omega
          have D0 : decide ((57 : Int) < (n : Int)) = true := by rw [decide_eq_true_iff]; omega
          have HW : Hid (wordN n = true ∧ digN n = false) := Lib.hid (by unfold wordN digN; constructor <;> simp <;> omega)
          clear hn ha hc0 hc1 l u l2 u2
          go_wp2_with fail
          go_roundw
          case rel => exact ⟨k + 1, by omega, okTo_succ HK.out hlt (ok_word (by rw [← HN.out]; exact HW.out.1)), rfl⟩
          case measure => simp; omega
        · have l2 : 96 ≤ n := by omega
          have u2 : n ≤ 96 := by omega
          have D1 : decide ((97 : Int) ≤ (n : Int)) = false := by rw [decide_eq_false_iff_not]; omega
          have D2 : decide ((n : Int) ≤ (122 : Int)) = true := by rw [decide_eq_true_iff]; omega
          have D3 : decide ((65 : Int) ≤ (n : Int)) = true := by rw [decide_eq_true_iff]; omega
          have D4 : decide ((n : Int) ≤ (90 : Int)) = false := by rw [decide_eq_false_iff_not]; omega
          have D5 : decide ((48 : Int) ≤ (n : Int)) = true := by rw [decide_eq_true_iff]; omega
          have D6 : decide ((n : Int) ≤ (57 : Int)) = false := by rw [decide_eq_false_iff_not]; omega
          have D7 : ((n : Int) == (95 : Int)) = false := by rw [beq_eq_false_iff_ne]; omega
          have D8 : ((n : Int) == (46 : Int)) = false := by rw [beq_eq_false_iff_ne]; omega
          have D9 : decide ((n : Int) < (48 : Int)) = false := by rw [decide_eq_false_iff_not]; omega
          have D0 : decide ((57 : Int) < (n : Int)) = true := by rw [decide_eq_true_iff]; omega
          have HW : Hid (wordN n = false ∧ digN n = false) := Lib.hid (by unfold wordN digN; constructor <;> simp <;> omega)
          clear hn ha hc0 hc1 l u l2 u2
          have HF := Lib.hid (named_no hlt (ok_bad (i := k) (by rw [← HN.out]; exact HW.out.1) (by rw [← HN.out]; exact HW.out.2)))
          by_cases hk0 : k = 0
          · subst hk0
            go_wp2_with fail
            go_returns
            exact ⟨by rw [HF.out]; rfl, HI2.out⟩
          · have hk1 : ((k : Int) == 0) = false := by rw [beq_eq_false_iff_ne]; omega
            clear hk0
            go_wp2_with fail
            go_returns
            exact ⟨by rw [HF.out]; rfl, HI2.out⟩
        · have l2 : 97 ≤ n := by omega
          have u2 : n ≤ 122 := by omega
          have D1 : decide ((97 : Int) ≤ (n : Int)) = true := by rw [decide_eq_true_iff]; omega
          have D2 : decide ((n : Int) ≤ (122 : Int)) = true := by rw [decide_eq_true_iff]; omega
          have D3 : decide ((65 : Int) ≤ (n : Int)) = true := by rw [decide_eq_true_iff]; omega
          have D4 : decide ((n : Int) ≤ (90 : Int)) = false := by rw [decide_eq_false_iff_not]; omega
          have D5 : decide ((48 : Int) ≤ (n : Int)) = true := by rw [decide_eq_true_iff]; omega
          have D6 : decide ((n : Int) ≤ (57 : Int)) = false := by rw [decide_eq_false_iff_not]; omega
          have D7 : ((n : Int) == (95 : Int)) = false := by rw [beq_eq_false_iff_ne]; omega
          have D8 : ((n : Int) == (46 : Int)) = false := by rw [beq_eq_false_iff_ne]; omega
          have D9 : decide ((n : Int) < (48 : Int)) = false := by rw [decide_eq_false_iff_not]; omega
          have D0 : decide ((57 : Int) < (n : Int)) = true := by rw [decide_eq_true_iff]; omega
          have HW : Hid (wordN n = true ∧ digN n = false) := Lib.hid (by unfold wordN digN; constructor <;> simp <;> omega)
          clear hn ha hc0 hc1 l u l2 u2
          go_wp2_with fail
          go_roundw
          case rel => exact ⟨k + 1, by omega, okTo_succ HK.out hlt (ok_word (by rw [← HN.out]; exact HW.out.1)), rfl⟩
          case measure => simp; omega
        · have l2 : 123 ≤ n := by omega
          have u2 : n ≤ 255 := by omega
          have D1 : decide ((97 : Int) ≤ (n : Int)) = true := by rw [decide_eq_true_iff]; omega
          have D2 : decide ((n : Int) ≤ (122 : Int)) = false := by rw [decide_eq_false_iff_not]; omega
          have D3 : decide ((65 : Int) ≤ (n : Int)) = true := by rw [decide_eq_true_iff]; omega
          have D4 : decide ((n : Int) ≤ (90 : Int)) = false := by rw [decide_eq_false_iff_not]; omega
          have D5 : decide ((48 : Int) ≤ (n : Int)) = true := by rw [decide_eq_true_iff]; omega
          have D6 : decide ((n : Int) ≤ (57 : Int)) = false := by rw [decide_eq_false_iff_not]; omega
          have D7 : ((n : Int) == (95 : Int)) = false := by rw [beq_eq_false_iff_ne]; omega
          have D8 : ((n : Int) == (46 : Int)) = false := by rw [beq_eq_false_iff_ne]; omega
          have D9 : decide ((n : Int) < (48 : Int)) = false := by rw [decide_eq_false_iff_not]; omega
          have D0 : decide ((57 : Int) < (n : Int)) = true := by rw [decide_eq_true_iff]; omega
          have HW : Hid (wordN n = false ∧ digN n = false) := Lib.hid (by unfold wordN digN; constructor <;> simp <;> omega)
          clear hn ha hc0 hc1 l u l2 u2
          have HF := Lib.hid (named_no hlt (ok_bad (i := k) (by rw [← HN.out]; exact HW.out.1) (by rw [← HN.out]; exact HW.out.2)))
          by_cases hk0 : k = 0
          · subst hk0
            go_wp2_with fail
            go_returns
            exact ⟨by rw [HF.out]; rfl, HI2.out⟩
          · have hk1 : ((k : Int) == 0) = false := by rw [beq_eq_false_iff_ne]; omega
            clear hk0
            go_wp2_with fail
            go_returns
            exact ⟨by rw [HF.out]; rfl, HI2.out⟩
      · have hnx := fun ty => run_next_any (P := Tryz.prog) w s k ty hlt
        have hd := (decode_high s k hlt (by omega)).1
        have hd2 := decode_le s k
        have HF := Lib.hid (named_no hlt (ok_bad (i := k) (by unfold wordN; simp; omega) (by unfold digN; simp; omega)))
        generalize Utf8.decode s k = q at hnx hd hd2
        obtain ⟨n, m⟩ := q
        have HI2 := Lib.hid (fun p => (show Below w.heap.size w (w.iter s p) from below_alloc _ (Below.refl _ _)))
        simp only at hnx hd hd2
        have l2 : 123 ≤ n := by omega
        have D1 : decide ((97 : Int) ≤ (n : Int)) = true := by rw [decide_eq_true_iff]; omega
        have D2 : decide ((n : Int) ≤ (122 : Int)) = false := by rw [decide_eq_false_iff_not]; omega
        have D3 : decide ((65 : Int) ≤ (n : Int)) = true := by rw [decide_eq_true_iff]; omega
        have D4 : decide ((n : Int) ≤ (90 : Int)) = false := by rw [decide_eq_false_iff_not]; omega
        have D5 : decide ((48 : Int) ≤ (n : Int)) = true := by rw [decide_eq_true_iff]; omega
        have D6 : decide ((n : Int) ≤ (57 : Int)) = false := by rw [decide_eq_false_iff_not]; omega
        have D7 : ((n : Int) == (95 : Int)) = false := by rw [beq_eq_false_iff_ne]; omega
        have D8 : ((n : Int) == (46 : Int)) = false := by rw [beq_eq_false_iff_ne]; omega
        have D9 : decide ((n : Int) < (48 : Int)) = false := by rw [decide_eq_false_iff_not]; omega
        have D0 : decide ((57 : Int) < (n : Int)) = true := by rw [decide_eq_true_iff]; omega
        clear hd hd2 l2 ha
        by_cases hk0 : k = 0
        · subst hk0
          go_wp2_with fail
          go_returns
          exact ⟨by rw [HF.out]; rfl, HI2.out _⟩
        · have hk1 : ((k : Int) == 0) = false := by rw [beq_eq_false_iff_ne]; omega
          clear hk0
          go_wp2_with fail
          go_returns
          exact ⟨by rw [HF.out]; rfl, HI2.out _⟩
    · have e : k = s.size := by omega
      subst e
      have hnx := fun ty => run_next_end (P := Tryz.prog) w s s.size ty hlt
      clear hlt hk
      by_cases h0 : s.size = 0
      · have HF := Lib.hid (named_long (s := s) (by omega))
        have hne : s.toList.isEmpty = true := by rw [isEmpty_size]; exact decide_eq_true h0
        have hne2 : s.toList = [] := List.isEmpty_iff.1 hne
        clear h0
        go_wp2_with fail
        go_returns
        exact ⟨by rw [HF.out]; rfl, HI.out⟩
      · have hne : s.toList.isEmpty = false := by rw [isEmpty_size]; exact decide_eq_false h0
        have hne2 : ¬ s.toList = [] := fun h => by rw [h] at hne; cases hne
        have HZ := Lib.hid h0
        clear h0
        by_cases h60 : s.size ≤ 60
        · have HF := Lib.hid (named_yes ⟨by have := HZ.out; omega, h60⟩ HK.out)
          have h61 : decide ((s.size : Int) ≤ 60) = true := by rw [decide_eq_true_iff]; omega
          go_wp2_with fail
          go_returns
          exact ⟨by rw [HF.out]; rfl, HI.out⟩
        · have HF := Lib.hid (named_long (s := s) (by omega))
          have h61 : decide ((s.size : Int) ≤ 60) = false := by rw [decide_eq_false_iff_not]; omega
          go_wp2_with fail
          go_returns
          exact ⟨by rw [HF.out]; rfl, HI.out⟩
end Go.Proofs.YtmmpkkpmlaiapaaGreatDoor
