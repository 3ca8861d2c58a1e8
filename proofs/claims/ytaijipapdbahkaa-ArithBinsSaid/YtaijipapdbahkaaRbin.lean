/- Walks: operators of the reference. No condition. -/
import Derived.Test.YtaijipapdbahkaaBinAll
namespace Go.Proofs.Ytaijipapdbahkaa
open Go.RowKit
set_option linter.unusedVariables false
set_option maxHeartbeats 400000
/-- what the reference's operator answers: as the program's, but that bits' answers are fitted again -/
def rbinS (op : Nat) (sz : Int) (sg : Bool) (a b : Int) : Int × Bool :=
  match op with
  | 3 => (fitS sz sg (bits .and .i64 a b), true)
  | 4 => (fitS sz sg (bits .or .i64 a b), true)
  | op => binS op sz sg a b
theorem rbin_a (op : Nat) (hop : op = 0 ∨ op = 1 ∨ op = 2) (sz a b : Int) (sg : Bool) (w : World) (h : Size sz) (ha : In64 a) (hb : In64 b) :
    Calls Try.prog 12 #[.string (opB op), .agg #[.int .i64 1, .int .i64 sz, .bool sg, .bool false, .pointer none, .int .i64 0, .int .i64 0, .slice none 0 0, .pointer none], .int .i64 a, .int .i64 b] w
      fun e w' => e = .returned (.tuple #[.int .i64 (rbinS op sz sg a b).1, .bool (rbinS op sz sg a b).2]) ∧ Below w.heap.size w w' := by
  have H := Lib.hid h; clear h
  obtain ⟨h1, h2⟩ := ha
  obtain ⟨h3, h4⟩ := hb
  rcases hop with rfl | rfl | rfl <;> simp only [opB, rbinS, binS]
  all_goals
    go_enter Try.func12, Try.ntmps12
    go_wp2_with ((go_at_call 10; (with_reducible refine (rfit_any _ _ _ _ ?_ ?_).mono ?_); (exact H.out); (first | exact iwrap_In _ | exact wrap64_In _ | exact bits_In _ _ _ | (unfold In64; omega)); rintro e w' ⟨rfl, hb1⟩))
    go_returns
    refine ⟨ret_ib ?_ rfl, below_new hb1⟩
    first | exact fitS_wrap H.out | rfl
theorem rbin_b (op : Nat) (hop : op = 3 ∨ op = 4 ∨ op = 5) (sz a b : Int) (sg : Bool) (w : World) (h : Size sz) (ha : In64 a) (hb : In64 b) :
    Calls Try.prog 12 #[.string (opB op), .agg #[.int .i64 1, .int .i64 sz, .bool sg, .bool false, .pointer none, .int .i64 0, .int .i64 0, .slice none 0 0, .pointer none], .int .i64 a, .int .i64 b] w
      fun e w' => e = .returned (.tuple #[.int .i64 (rbinS op sz sg a b).1, .bool (rbinS op sz sg a b).2]) ∧ Below w.heap.size w w' := by
  have H := Lib.hid h; clear h
  have HA := Lib.hid ha
  have HB := Lib.hid hb
  clear ha hb
  rcases hop with rfl | rfl | rfl <;> simp only [opB, rbinS, binS]
  · have b1 := fun w => bits_walk 3 (by decide) a b w HA.out HB.out
    simp only [opB] at b1
    have B1 := Lib.hid b1
    clear b1
    go_enter Try.func12, Try.ntmps12
    go_wp2_with fail
    refine wp_region_over (by kernel_rfl) (by kernel_rfl) ?_
    repeat (go_big_quiet_step (first | (go_at_call 18; exact calls_over (by first | exact Nat.le_refl _ | simp) (B1.out _)) | (go_at_call 10; exact calls_over (by first | exact Nat.le_refl _ | simp) (rfit_any _ _ _ _ H.out (bits_In _ _ _)))))
    refine wpQuiet_nil ?_
    intro w1 hb1
    go_wp2
    go_returns
    exact ⟨ret_ib rfl rfl, below_new hb1⟩
  · have b1 := fun w => bits_walk 4 (by decide) a b w HA.out HB.out
    simp only [opB] at b1
    have B1 := Lib.hid b1
    clear b1
    go_enter Try.func12, Try.ntmps12
    go_wp2_with fail
    refine wp_region_over (by kernel_rfl) (by kernel_rfl) ?_
    repeat (go_big_quiet_step (first | (go_at_call 18; exact calls_over (by first | exact Nat.le_refl _ | simp) (B1.out _)) | (go_at_call 10; exact calls_over (by first | exact Nat.le_refl _ | simp) (rfit_any _ _ _ _ H.out (bits_In _ _ _)))))
    refine wpQuiet_nil ?_
    intro w1 hb1
    go_wp2
    go_returns
    exact ⟨ret_ib rfl rfl, below_new hb1⟩
  · have b1 := fun w => bits_walk 5 (by decide) a b w HA.out HB.out
    simp only [opB] at b1
    have B1 := Lib.hid b1
    clear b1
    go_enter Try.func12, Try.ntmps12
    go_wp2_with fail
    refine wp_region_over (by kernel_rfl) (by kernel_rfl) ?_
    repeat (go_big_quiet_step (first | (go_at_call 18; exact calls_over (by first | exact Nat.le_refl _ | simp) (B1.out _)) | (go_at_call 10; exact calls_over (by first | exact Nat.le_refl _ | simp) (rfit_any _ _ _ _ H.out (bits_In _ _ _)))))
    refine wpQuiet_nil ?_
    intro w1 hb1
    go_wp2
    go_returns
    exact ⟨ret_ib rfl rfl, below_new hb1⟩
theorem rbin_c (op : Nat) (hop : op = 8 ∨ op = 9) (sz a b : Int) (sg : Bool) (w : World) (h : Size sz) (ha : In64 a) (hb : In64 b) :
    Calls Try.prog 12 #[.string (opB op), .agg #[.int .i64 1, .int .i64 sz, .bool sg, .bool false, .pointer none, .int .i64 0, .int .i64 0, .slice none 0 0, .pointer none], .int .i64 a, .int .i64 b] w
      fun e w' => e = .returned (.tuple #[.int .i64 (rbinS op sz sg a b).1, .bool (rbinS op sz sg a b).2]) ∧ Below w.heap.size w w' := by
  have H := Lib.hid h; clear h
  have H1 := Lib.hid ha
  have H2 := Lib.hid hb
  clear ha hb
  have e : Hid (rbinS op sz sg a b = quoS op sz sg a b) := by unfold Hid; rcases hop with rfl | rfl <;> rfl
  rw [e.out]
  have hq := fun w => rquo_any op hop sz a b sg w H.out H1.out H2.out
  have HQ := Lib.hid hq; clear hq
  generalize hqs : quoS op sz sg a b = q at *
  clear hqs
  rcases hop with rfl | rfl <;> simp only [opB] at HQ ⊢
  all_goals
    go_enter Try.func12, Try.ntmps12
    go_wp2_with ((go_at_call 21; (with_reducible refine (HQ.out _).mono ?_); rintro e w' ⟨rfl, hb1⟩))
    go_returns
    exact ⟨rfl, below_new hb1⟩
theorem rbin_d (op : Nat) (hop : op = 10 ∨ op = 11) (sz a b : Int) (sg : Bool) (w : World) (h : Size sz) (ha : In64 a) (hb : In64 b) :
    Calls Try.prog 12 #[.string (opB op), .agg #[.int .i64 1, .int .i64 sz, .bool sg, .bool false, .pointer none, .int .i64 0, .int .i64 0, .slice none 0 0, .pointer none], .int .i64 a, .int .i64 b] w
      fun e w' => e = .returned (.tuple #[.int .i64 (rbinS op sz sg a b).1, .bool (rbinS op sz sg a b).2]) ∧ Below w.heap.size w w' := by
  have H := Lib.hid h; clear h
  rcases hop with rfl | rfl <;> simp only [opB]
  all_goals
    go_enter Try.func12, Try.ntmps12
    go_wp2
    go_returns
    exact ⟨by simp [rbinS, binS, quoS], by go_grown⟩
theorem pow_fit {sz : Int} (sg : Bool) (a : Int) (k : Nat) (h : Size sz) : fitS sz sg (wrap64 (a * wrap64 (2 ^ k))) = fitS sz sg (a * 2 ^ k) := by
  refine fitS_congr h ?_
  rw [wrap64_mod h, Int.mul_emod, wrap64_mod h, ← Int.mul_emod]
theorem rbin_e (sz a b : Int) (sg : Bool) (w : World) (h : Size sz) (ha : In64 a) (hb : In64 b) :
    Calls Try.prog 12 #[.string (opB 6), .agg #[.int .i64 1, .int .i64 sz, .bool sg, .bool false, .pointer none, .int .i64 0, .int .i64 0, .slice none 0 0, .pointer none], .int .i64 a, .int .i64 b] w
      fun e w' => e = .returned (.tuple #[.int .i64 (rbinS 6 sz sg a b).1, .bool (rbinS 6 sz sg a b).2]) ∧ Below w.heap.size w w' := by
  have hsh := sh_eq sz b h
  have H := Lib.hid h
  simp only [rbinS, binS, opB]
  generalize shS sz b = k at *
  obtain ⟨hk1, hk2⟩ := hsh
  obtain ⟨h1, h2⟩ := ha
  obtain ⟨h3, h4⟩ := hb
  have hu : IntKind.u64.wrap b = uS b := by rw [IntKind.wrap_u64]; rfl
  have hub : 0 ≤ uS b ∧ uS b ≤ 18446744073709551615 := by unfold uS; omega
  have hkt : (uS b).tmod (8 * sz) = k := by rw [Int.tmod_eq_emod_of_nonneg hub.1]; exact hk1
  have hpw := Lib.hid (fun w (hk : k ≤ 64) => power_walk k w hk)
  rcases h with rfl | rfl | rfl | rfl <;> simp at hk1 hk2 hkt
  all_goals
    go_enter Try.func12, Try.ntmps12
    go_wp2_with fail
    refine wp_region_over (by kernel_rfl) (by kernel_rfl) ?_
    repeat (go_big_quiet_step (first | (go_at_call 19; exact calls_over (by first | exact Nat.le_refl _ | simp) ((hpw.out _ (by omega)).mono (fun e w' ⟨he, hw⟩ => ⟨he, hw ▸ Below.refl _ _⟩))) | (go_at_call 10; exact calls_over (by first | exact Nat.le_refl _ | simp) (rfit_any _ _ _ _ H.out (by first | exact iwrap_In _ | exact wrap64_In _)))))
    refine wpQuiet_nil ?_
    intro w1 hb1
    go_wp2
    go_returns
    refine ⟨ret_ib ?_ rfl, below_new hb1⟩
    first | exact pow_fit _ _ _ H.out
theorem rbin_f (sz a b : Int) (w : World) (h : Size sz) (ha : In64 a) (hb : In64 b) :
    Calls Try.prog 12 #[.string (opB 7), .agg #[.int .i64 1, .int .i64 sz, .bool true, .bool false, .pointer none, .int .i64 0, .int .i64 0, .slice none 0 0, .pointer none], .int .i64 a, .int .i64 b] w
      fun e w' => e = .returned (.tuple #[.int .i64 (rbinS 7 sz true a b).1, .bool (rbinS 7 sz true a b).2]) ∧ Below w.heap.size w w' := by
  have hsh := sh_eq sz b h
  have H := Lib.hid h
  simp only [rbinS, binS, opB]
  generalize shS sz b = k at *
  obtain ⟨hk1, hk2⟩ := hsh
  have hfl := Lib.hid (fun w (hk : k ≤ 64) => floor_walk a k w hk ha)
  obtain ⟨h1, h2⟩ := ha
  obtain ⟨h3, h4⟩ := hb
  have hu : IntKind.u64.wrap b = uS b := by rw [IntKind.wrap_u64]; rfl
  have hub : 0 ≤ uS b ∧ uS b ≤ 18446744073709551615 := by unfold uS; omega
  have hkt : (uS b).tmod (8 * sz) = k := by rw [Int.tmod_eq_emod_of_nonneg hub.1]; exact hk1
  rcases h with rfl | rfl | rfl | rfl <;> simp at hk1 hk2 hkt
  all_goals
    go_enter Try.func12, Try.ntmps12
    go_wp2_with ((go_at_call 20; (with_reducible refine (hfl.out _ ?_).mono ?_); omega; rintro e w' ⟨rfl, rfl⟩))
    go_returns
    exact ⟨ret_ib rfl rfl, by go_grown⟩
theorem half_next (x : Int) (j : Nat) : x / 2 ^ j / 2 = x / 2 ^ (j + 1) := floor_next x j
theorem half_in (x : Int) (j : Nat) (h : 0 ≤ x ∧ x ≤ 18446744073709551615) : 0 ≤ x / 2 ^ j ∧ x / 2 ^ j ≤ 18446744073709551615 := by
  have hp : (0 : Int) < 2 ^ j := Int.pow_pos (by decide)
  refine ⟨Int.ediv_nonneg h.1 (by omega), ?_⟩
  have := Int.ediv_le_self (2 ^ j) h.1; omega
theorem rbin_g (sz a b : Int) (w : World) (h : Size sz) (ha : In64 a) (hb : In64 b) :
    Calls Try.prog 12 #[.string (opB 7), .agg #[.int .i64 1, .int .i64 sz, .bool false, .bool false, .pointer none, .int .i64 0, .int .i64 0, .slice none 0 0, .pointer none], .int .i64 a, .int .i64 b] w
      fun e w' => e = .returned (.tuple #[.int .i64 (rbinS 7 sz false a b).1, .bool (rbinS 7 sz false a b).2]) ∧ Below w.heap.size w w' := by
  have hsh := sh_eq sz b h
  have H := Lib.hid h
  simp only [rbinS, binS, opB]
  generalize shS sz b = k at *
  obtain ⟨hk1, hk2⟩ := hsh
  obtain ⟨h1, h2⟩ := ha
  obtain ⟨h3, h4⟩ := hb
  have hu : IntKind.u64.wrap b = uS b := by rw [IntKind.wrap_u64]; rfl
  have hu1 : IntKind.u64.wrap a = uS a := by rw [IntKind.wrap_u64]; rfl
  have hua : 0 ≤ uS a ∧ uS a ≤ 18446744073709551615 := by unfold uS; omega
  have hub : 0 ≤ uS b ∧ uS b ≤ 18446744073709551615 := by unfold uS; omega
  have hkt : (uS b).tmod (8 * sz) = k := by rw [Int.tmod_eq_emod_of_nonneg hub.1]; exact hk1
  rcases h with rfl | rfl | rfl | rfl <;> simp at hk1 hk2 hkt
  all_goals
    go_enter Try.func12, Try.ntmps12
    go_wp2
    go_loop [13, 14] (fun x i => ∃ j : Nat, j ≤ k ∧ i = .int .i64 j ∧ x = .int .u64 (uS a / 2 ^ j)) (fun _ i => k - (intOf i).toNat)
    case atStart => exact ⟨0, by omega, rfl, by simp⟩
    case round =>
      obtain ⟨j, hj, rfl, rfl⟩ := hrel
      have hI := half_in (uS a) j hua
      have hn := Lib.hid (half_next (uS a) j)
      generalize hx : uS a / 2 ^ j = x at *
      have hx := Lib.hid hx
      rename_i hx'
      clear hx'
      obtain ⟨hI1, hI2⟩ := hI
      by_cases hlt : j < k
      · go_wp2
        go_round
        case rel => exact ⟨j + 1, by omega, by go_num, by rw [hn.out]⟩
        case measure => simp [intOf]; omega
      · have e : j = k := by omega
        subst e
        go_wp2
        go_returns
        exact ⟨ret_ib (by rw [← hx.out]) rfl, by go_grown⟩
theorem rbin_any (op : Nat) (hop : op < 12) (sz a b : Int) (sg : Bool) (w : World) (h : Size sz) (ha : In64 a) (hb : In64 b) :
    Calls Try.prog 12 #[.string (opB op), .agg #[.int .i64 1, .int .i64 sz, .bool sg, .bool false, .pointer none, .int .i64 0, .int .i64 0, .slice none 0 0, .pointer none], .int .i64 a, .int .i64 b] w
      fun e w' => e = .returned (.tuple #[.int .i64 (rbinS op sz sg a b).1, .bool (rbinS op sz sg a b).2]) ∧ Below w.heap.size w w' := by
  by_cases ho1 : op = 0 ∨ op = 1 ∨ op = 2
  · exact rbin_a op ho1 sz a b sg w h ha hb
  · by_cases ho2 : op = 3 ∨ op = 4 ∨ op = 5
    · exact rbin_b op ho2 sz a b sg w h ha hb
    · by_cases ho3 : op = 6
      · subst ho3; exact rbin_e sz a b sg w h ha hb
      · by_cases ho4 : op = 7
        · subst ho4
          cases sg
          · exact rbin_g sz a b w h ha hb
          · exact rbin_f sz a b w h ha hb
        · by_cases ho5 : op = 8 ∨ op = 9
          · exact rbin_c op ho5 sz a b sg w h ha hb
          · exact rbin_d op (by omega) sz a b sg w h ha hb
end Go.Proofs.Ytaijipapdbahkaa
