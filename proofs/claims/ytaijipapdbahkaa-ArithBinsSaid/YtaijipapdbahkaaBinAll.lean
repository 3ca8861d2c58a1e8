/- Walks: shifts of the program. No condition. -/
import Derived.Test.YtaijipapdbahkaaBin
namespace Go.Proofs.Ytaijipapdbahkaa
open Go.RowKit
set_option linter.unusedVariables false
set_option maxHeartbeats 400000
theorem sh_eq (sz b : Int) (h : Size sz) : uS b % (8 * sz) = (shS sz b : Int) ∧ (shS sz b : Int) < 8 * sz := by
  unfold uS shS
  rcases h with rfl | rfl | rfl | rfl <;> simp <;> omega
theorem bin_d (sz a b : Int) (sg : Bool) (w : World) (h : Size sz) (ha : In64 a) (hb : In64 b) :
    Calls Try.prog 11 #[.string (opB 6), .agg #[.int .i64 1, .int .i64 sz, .bool sg, .bool false, .pointer none, .int .i64 0, .int .i64 0, .slice none 0 0, .pointer none], .int .i64 a, .int .i64 b] w
      fun e w' => e = .returned (.tuple #[.int .i64 (binS 6 sz sg a b).1, .bool (binS 6 sz sg a b).2]) ∧ Below w.heap.size w w' := by
  have hsh := sh_eq sz b h
  have H := Lib.hid h
  simp only [binS, opB]
  generalize shS sz b = k at *
  obtain ⟨hk1, hk2⟩ := hsh
  obtain ⟨h1, h2⟩ := ha
  obtain ⟨h3, h4⟩ := hb
  have hu : IntKind.u64.wrap b = uS b := by rw [IntKind.wrap_u64]; rfl
  have hub : 0 ≤ uS b ∧ uS b ≤ 18446744073709551615 := by unfold uS; omega
  have hkt : (uS b).tmod (8 * sz) = k := by rw [Int.tmod_eq_emod_of_nonneg hub.1]; exact hk1
  rcases h with rfl | rfl | rfl | rfl <;> simp at hk1 hk2 hkt
  all_goals
    go_enter Try.func11, Try.ntmps11
    go_wp2_with fail
    refine wp_region_over (by kernel_rfl) (by kernel_rfl) ?_
    repeat (go_big_quiet_step ((go_at_call 13; exact calls_over (by first | exact Nat.le_refl _ | simp) (fit_any _ _ _ _ H.out (by first | exact iwrap_In _ | exact wrap64_In _)))))
    refine wpQuiet_nil ?_
    intro w1 hb1
    go_wp2
    go_returns
    refine ⟨ret_ib ?_ rfl, below_new hb1⟩
    first | exact fitS_wrap H.out
theorem bin_e (sz a b : Int) (sg : Bool) (w : World) (h : Size sz) (ha : In64 a) (hb : In64 b) :
    Calls Try.prog 11 #[.string (opB 7), .agg #[.int .i64 1, .int .i64 sz, .bool sg, .bool false, .pointer none, .int .i64 0, .int .i64 0, .slice none 0 0, .pointer none], .int .i64 a, .int .i64 b] w
      fun e w' => e = .returned (.tuple #[.int .i64 (binS 7 sz sg a b).1, .bool (binS 7 sz sg a b).2]) ∧ Below w.heap.size w w' := by
  have hsh := sh_eq sz b h
  have H := Lib.hid h
  simp only [binS, opB]
  generalize shS sz b = k at *
  obtain ⟨hk1, hk2⟩ := hsh
  obtain ⟨h1, h2⟩ := ha
  obtain ⟨h3, h4⟩ := hb
  have hu : IntKind.u64.wrap b = uS b := by rw [IntKind.wrap_u64]; rfl
  have hu1 : IntKind.u64.wrap a = uS a := by rw [IntKind.wrap_u64]; rfl
  have hr1 : 0 ≤ uS a ∧ uS a ≤ 18446744073709551615 := by unfold uS; omega
  have hub : 0 ≤ uS b ∧ uS b ≤ 18446744073709551615 := by unfold uS; omega
  have hkt : (uS b).tmod (8 * sz) = k := by rw [Int.tmod_eq_emod_of_nonneg hub.1]; exact hk1
  rcases h with rfl | rfl | rfl | rfl <;> simp at hk1 hk2 hkt <;> cases sg
  all_goals
    go_enter Try.func11, Try.ntmps11
    go_wp2
    go_returns
    refine ⟨ret_ib ?_ rfl, by go_grown⟩
    first | rfl
theorem bin_any (op : Nat) (hop : op < 12) (sz a b : Int) (sg : Bool) (w : World) (h : Size sz) (ha : In64 a) (hb : In64 b) :
    Calls Try.prog 11 #[.string (opB op), .agg #[.int .i64 1, .int .i64 sz, .bool sg, .bool false, .pointer none, .int .i64 0, .int .i64 0, .slice none 0 0, .pointer none], .int .i64 a, .int .i64 b] w
      fun e w' => e = .returned (.tuple #[.int .i64 (binS op sz sg a b).1, .bool (binS op sz sg a b).2]) ∧ Below w.heap.size w w' := by
  by_cases ho1 : op = 0 ∨ op = 1 ∨ op = 2 ∨ op = 5
  · exact bin_a op ho1 sz a b sg w h ha hb
  · by_cases ho2 : op = 3 ∨ op = 4
    · exact bin_b op ho2 sz a b sg w h ha hb
    · by_cases ho3 : op = 6
      · subst ho3; exact bin_d sz a b sg w h ha hb
      · by_cases ho4 : op = 7
        · subst ho4; exact bin_e sz a b sg w h ha hb
        · exact bin_c op (by omega) sz a b sg w h ha hb
end Go.Proofs.Ytaijipapdbahkaa
