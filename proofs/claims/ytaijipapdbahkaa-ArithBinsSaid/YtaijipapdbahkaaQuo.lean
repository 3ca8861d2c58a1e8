/- Walks: quotients of the program. No condition. -/
import Derived.Test.YtaijipapdbahkaaFit
import Derived.Test.YtaijipapdbahkaaBits
namespace Go.Proofs.Ytaijipapdbahkaa
open Go.RowKit
set_option linter.unusedVariables false
set_option maxHeartbeats 400000
theorem ret_ib {k : IntKind} {a b : Int} {c d : Bool} (h : a = b) (h2 : c = d) : Ending.returned (.tuple #[.int k a, .bool c]) = .returned (.tuple #[.int k b, .bool d]) := by rw [h, h2]
theorem below_new {w w1 : World} {o : Obj} (h : Below (w.alloc o).heap.size (w.alloc o) w1) : Below w.heap.size w w1 :=
  ((Below.refl _ _).alloc (Nat.le_refl _) _).trans (h.mono (by simp))
theorem wrap64_In (n : Int) : In64 (wrap64 n) := by unfold wrap64 In64; omega
theorem iwrap_In (n : Int) : In64 (IntKind.i64.wrap n) := by rw [IntWalk.i64_left]; exact wrap64_In n
theorem tmod_In (a b : Int) (ha : In64 a) : In64 (a.tmod b) := by
  unfold In64 at *
  have h1 := Int.natAbs_tmod a b
  have h2 : a.natAbs % b.natAbs ≤ a.natAbs := Nat.mod_le _ _
  have h3 : (a.tmod b).natAbs ≤ a.natAbs := by omega
  have h4 : 0 ≤ a → 0 ≤ a.tmod b := fun h => Int.tmod_nonneg _ h
  have h5 : a ≤ 0 → a.tmod b ≤ 0 := fun h => by
    have := Int.tmod_nonneg b (a := -a) (by omega); rw [Int.neg_tmod] at this; omega
  omega
theorem tdiv_In (a b : Int) (ha : In64 a) (h : ¬ (a = -9223372036854775808 ∧ b = -1)) : In64 (a.tdiv b) := by
  unfold In64 at *
  have h1 : (a.tdiv b).natAbs = a.natAbs / b.natAbs := Int.natAbs_tdiv a b
  by_cases hb : b = -1
  · subst hb; rw [Int.tdiv_neg, Int.tdiv_one]; omega
  · by_cases hb1 : b.natAbs ≤ 1
    · have : b = 0 ∨ b = 1 := by omega
      rcases this with rfl | rfl
      · simp
      · rw [Int.tdiv_one]; omega
    · have h2 : a.natAbs / b.natAbs ≤ a.natAbs / 2 := Nat.div_le_div_left (by omega) (by decide)
      omega
theorem wrap64_id {n : Int} (h : In64 n) : wrap64 n = n := by unfold In64 at h; unfold wrap64; omega
theorem quo_s (op : Nat) (hop : op = 8 ∨ op = 9) (sz a b : Int) (w : World) (h : Size sz) (ha : In64 a) (hb : In64 b) (hb0 : ¬ b = 0)
    (h8 : ¬(sz = 8 ∧ a = -9223372036854775808 ∧ b = -1)) :
    Calls Try.prog 17 #[.string (opB op), .agg #[.int .i64 1, .int .i64 sz, .bool true, .bool false, .pointer none, .int .i64 0, .int .i64 0, .slice none 0 0, .pointer none], .int .i64 a, .int .i64 b] w
      fun e w' => e = .returned (.tuple #[.int .i64 (quoS op sz true a b).1, .bool (quoS op sz true a b).2]) ∧ Below w.heap.size w w' := by
  have hm0 := Lib.hid (tmod_In a b ha)
  have hf8 : quoS 8 sz true a b = (fitS sz true (a.tdiv b), true) := by simp [quoS, hb0, h8]
  have hf9 : quoS 9 sz true a b = (fitS sz true (a.tmod b), true) := by simp [quoS, hb0, h8]
  obtain ⟨h1, h2⟩ := ha
  obtain ⟨h3, h4⟩ := hb
  have hbf : (b == 0) = false := by simpa using hb0
  have H := Lib.hid h; clear h
  have F8 := Lib.hid hf8; clear hf8
  have F9 := Lib.hid hf9; clear hf9
  have cases3 : sz ≠ 8 ∨ (sz = 8 ∧ a ≠ -9223372036854775808) ∨ (sz = 8 ∧ a = -9223372036854775808 ∧ b ≠ -1) := by omega
  clear h8
  rcases cases3 with h8 | ⟨rfl, h8⟩ | ⟨rfl, rfl, h8⟩
  · have h9 : (sz == 8) = false := by simpa using h8
    rcases hop with rfl | rfl <;> simp only [opB]
    all_goals
      go_enter Try.func17, Try.ntmps17
      go_wp2_with fail
      refine wp_region_over (by kernel_rfl) (by kernel_rfl) ?_
      repeat (go_big_quiet_step ((go_at_call 13; exact calls_over (by first | exact Nat.le_refl _ | simp) (fit_any _ _ _ _ H.out (by first | exact iwrap_In _ | exact wrap64_In _ | exact hm0.out)))))
      refine wpQuiet_nil ?_
      intro w1 hb1
      go_wp2
      go_returns
      first | rw [F8.out] | rw [F9.out]
      refine ⟨ret_ib ?_ rfl, below_new hb1⟩
      first | exact fitS_wrap H.out | exact (fitS_wrap H.out).trans (by rw [← Int.neg_tdiv]) | rfl
  · have h9 : (a == -9223372036854775808) = false := by simpa using h8
    rcases hop with rfl | rfl <;> simp only [opB]
    all_goals
      go_enter Try.func17, Try.ntmps17
      go_wp2_with fail
      refine wp_region_over (by kernel_rfl) (by kernel_rfl) ?_
      repeat (go_big_quiet_step ((go_at_call 13; exact calls_over (by first | exact Nat.le_refl _ | simp) (fit_any _ _ _ _ H.out (by first | exact iwrap_In _ | exact wrap64_In _ | exact hm0.out)))))
      refine wpQuiet_nil ?_
      intro w1 hb1
      go_wp2
      go_returns
      first | rw [F8.out] | rw [F9.out]
      refine ⟨ret_ib ?_ rfl, below_new hb1⟩
      first | exact fitS_wrap H.out | exact (fitS_wrap H.out).trans (by rw [← Int.neg_tdiv]) | rfl
  · have h9 : (b == -1) = false := by simpa using h8
    have hmf : Int.tmod (-9223372036854775808) b = -(9223372036854775808 % b) := by rw [Int.neg_tmod, Int.tmod_eq_emod_of_nonneg (by decide)]
    have hm1 : Hid (In64 (-(9223372036854775808 % b))) := by have := hm0.out; rw [hmf] at this; exact this
    have hmf := Lib.hid hmf
    rename_i hmf'
    clear hmf'
    rcases hop with rfl | rfl <;> simp only [opB]
    all_goals
      go_enter Try.func17, Try.ntmps17
      go_wp2_with fail
      refine wp_region_over (by kernel_rfl) (by kernel_rfl) ?_
      repeat (go_big_quiet_step ((go_at_call 13; exact calls_over (by first | exact Nat.le_refl _ | simp) (fit_any _ _ _ _ H.out (by first | exact iwrap_In _ | exact wrap64_In _ | exact hm0.out | exact hm1.out)))))
      refine wpQuiet_nil ?_
      intro w1 hb1
      go_wp2
      go_returns
      first | rw [F8.out] | rw [F9.out]
      refine ⟨ret_ib ?_ rfl, below_new hb1⟩
      first | exact fitS_wrap H.out | exact (fitS_wrap H.out).trans (by rw [← Int.neg_tdiv]) | rw [hmf.out] | rfl
theorem quo_any (op : Nat) (hop : op = 8 ∨ op = 9 ∨ op = 10 ∨ op = 11) (sz a b : Int) (sg : Bool) (w : World) (h : Size sz) (ha : In64 a) (hb : In64 b) :
    Calls Try.prog 17 #[.string (opB op), .agg #[.int .i64 1, .int .i64 sz, .bool sg, .bool false, .pointer none, .int .i64 0, .int .i64 0, .slice none 0 0, .pointer none], .int .i64 a, .int .i64 b] w
      fun e w' => e = .returned (.tuple #[.int .i64 (quoS op sz sg a b).1, .bool (quoS op sz sg a b).2]) ∧ Below w.heap.size w w' := by
  by_cases hb0 : b = 0
  · subst hb0
    have H := Lib.hid h; clear h
    rcases hop with rfl | rfl | rfl | rfl <;> simp only [opB]
    all_goals
      go_enter Try.func17, Try.ntmps17
      go_wp2
      all_goals go_returns
      all_goals refine ⟨by simp [quoS], by go_grown⟩
  · by_cases hp : op = 8 ∨ op = 9
    · clear hop
      cases sg
      · obtain ⟨h1, h2⟩ := ha
        obtain ⟨h3, h4⟩ := hb
        have H := Lib.hid h; clear h
        have hu1 : IntKind.u64.wrap a = uS a := by rw [IntKind.wrap_u64]; rfl
        have hu2 : IntKind.u64.wrap b = uS b := by rw [IntKind.wrap_u64]; rfl
        have hr1 : 0 ≤ uS a ∧ uS a ≤ 18446744073709551615 := by unfold uS; omega
        have hr2 : 1 ≤ uS b ∧ uS b ≤ 18446744073709551615 := by unfold uS; omega
        rcases hp with rfl | rfl <;> simp only [opB]
        · have F : Hid (quoS 8 sz false a b = (wrap64 (uS a / uS b), true)) := by unfold Hid; simp [quoS, hb0]
          go_enter Try.func17, Try.ntmps17
          go_wp2
          all_goals go_returns
          all_goals rw [F.out]
          all_goals exact ⟨ret_ib rfl rfl, by go_grown⟩
        · have F : Hid (quoS 9 sz false a b = (wrap64 (uS a % uS b), true)) := by unfold Hid; simp [quoS, hb0]
          go_enter Try.func17, Try.ntmps17
          go_wp2
          all_goals go_returns
          all_goals rw [F.out]
          all_goals exact ⟨ret_ib rfl rfl, by go_grown⟩
      · by_cases h8 : sz = 8 ∧ a = -9223372036854775808 ∧ b = -1
        · obtain ⟨rfl, rfl, rfl⟩ := h8
          clear h ha hb
          rcases hp with rfl | rfl <;> simp only [opB]
          all_goals
            go_enter Try.func17, Try.ntmps17
            go_wp2
            all_goals go_returns
            all_goals refine ⟨by simp [quoS], by go_grown⟩
        · exact quo_s op hp sz a b w h ha hb hb0 h8
    · have hop' : op = 10 ∨ op = 11 := by omega
      have H := Lib.hid h
      clear hop hp h
      rcases hop' with rfl | rfl <;> simp only [opB]
      all_goals
        go_enter Try.func17, Try.ntmps17
        go_wp2
        all_goals go_returns
        all_goals refine ⟨by simp [quoS], by go_grown⟩
end Go.Proofs.Ytaijipapdbahkaa
