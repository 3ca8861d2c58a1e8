/- Walks: operators of bits of the reference, bit by bit. No condition. -/
import Derived.Test.YtaijipapdbahkaaFit
import Derived.Test.YtaijipapdbahkaaBits
namespace Go.Proofs.Ytaijipapdbahkaa
open Go.RowKit
set_option linter.unusedVariables false
set_option maxHeartbeats 400000
theorem bit_val (a : Int) (k : Nat) (h : k < 64) : bits .and .i64 (a / 2 ^ k) 1 = if (nat64 a).testBit k then 1 else 0 := by
  rw [bits_and_one, bit_at a k h]
theorem bits_walk (op : Nat) (hop : op = 3 ∨ op = 4 ∨ op = 5) (a b : Int) (w : World) (ha : In64 a) (hb : In64 b) :
    Calls Try.prog 18 #[.string (opB op), .int .i64 a, .int .i64 b] w
      fun e w' => e = .returned (.int .i64 (bits (bitO op) .i64 a b)) ∧ Below w.heap.size w w' := by
  obtain ⟨h1, h2⟩ := ha
  obtain ⟨h3, h4⟩ := hb
  have hend := Lib.hid (accB_end op hop a b)
  rcases hop with rfl | rfl | rfl <;> simp only [opB]
  · go_enter Try.func18, Try.ntmps18
    go_wp2
    go_loopw [7, 8] (fun r i wr => ∃ k : Nat, k ≤ 64 ∧ i = .int .i64 k ∧ r = .int .i64 (accB 3 a b k) ∧ Below w.heap.size w wr) (fun _ i _ => 64 - (intOf i).toNat)
    case atStart => exact ⟨0, by omega, rfl, by rw [accB_zero], Below.refl _ _⟩
    case round =>
      obtain ⟨k, hk, rfl, rfl, hbl⟩ := hrel
      by_cases hlt : k < 64
      · have hx := bit_val a k hlt
        have hy := bit_val b k hlt
        have hoff := Lib.hid (accB_off 3 a b k)
        have hon := Lib.hid (accB_on 3 a b k hlt)
        cases hA : (nat64 a).testBit k <;> cases hB : (nat64 b).testBit k <;> rw [hA] at hx <;> rw [hB] at hy <;> simp only [if_true, Bool.false_eq_true, if_false] at hx hy
        all_goals
          have hA := Lib.hid hA
          have hB := Lib.hid hB
          rename_i hA' hB'
          clear hA' hB'
          go_wp2
          refine wp_region_over (by kernel_rfl) (by kernel_rfl) ?_
          repeat (go_big_quiet_step (fail))
          refine wpQuiet_nil ?_
          intro w1 hb1
          go_wp2
          go_roundw
          case rel => exact ⟨k + 1, by omega, by go_num, by first | rw [hon.out (by rw [hA.out, hB.out]; rfl)] | rw [hoff.out (by rw [hA.out, hB.out]; rfl)], hbl.trans (hb1.mono hbl.size)⟩
          case measure => simp [intOf]; omega
      · have e : k = 64 := by omega
        subst e
        go_wp2
        go_returns
        exact ⟨ret_int hend.out, hbl⟩
  · go_enter Try.func18, Try.ntmps18
    go_wp2
    go_loopw [7, 8] (fun r i wr => ∃ k : Nat, k ≤ 64 ∧ i = .int .i64 k ∧ r = .int .i64 (accB 4 a b k) ∧ Below w.heap.size w wr) (fun _ i _ => 64 - (intOf i).toNat)
    case atStart => exact ⟨0, by omega, rfl, by rw [accB_zero], Below.refl _ _⟩
    case round =>
      obtain ⟨k, hk, rfl, rfl, hbl⟩ := hrel
      by_cases hlt : k < 64
      · have hx := bit_val a k hlt
        have hy := bit_val b k hlt
        have hoff := Lib.hid (accB_off 4 a b k)
        have hon := Lib.hid (accB_on 4 a b k hlt)
        cases hA : (nat64 a).testBit k <;> cases hB : (nat64 b).testBit k <;> rw [hA] at hx <;> rw [hB] at hy <;> simp only [if_true, Bool.false_eq_true, if_false] at hx hy
        all_goals
          have hA := Lib.hid hA
          have hB := Lib.hid hB
          rename_i hA' hB'
          clear hA' hB'
          go_wp2
          refine wp_region_over (by kernel_rfl) (by kernel_rfl) ?_
          repeat (go_big_quiet_step (fail))
          refine wpQuiet_nil ?_
          intro w1 hb1
          go_wp2
          go_roundw
          case rel => exact ⟨k + 1, by omega, by go_num, by first | rw [hon.out (by rw [hA.out, hB.out]; rfl)] | rw [hoff.out (by rw [hA.out, hB.out]; rfl)], hbl.trans (hb1.mono hbl.size)⟩
          case measure => simp [intOf]; omega
      · have e : k = 64 := by omega
        subst e
        go_wp2
        go_returns
        exact ⟨ret_int hend.out, hbl⟩
  · go_enter Try.func18, Try.ntmps18
    go_wp2
    go_loopw [7, 8] (fun r i wr => ∃ k : Nat, k ≤ 64 ∧ i = .int .i64 k ∧ r = .int .i64 (accB 5 a b k) ∧ Below w.heap.size w wr) (fun _ i _ => 64 - (intOf i).toNat)
    case atStart => exact ⟨0, by omega, rfl, by rw [accB_zero], Below.refl _ _⟩
    case round =>
      obtain ⟨k, hk, rfl, rfl, hbl⟩ := hrel
      by_cases hlt : k < 64
      · have hx := bit_val a k hlt
        have hy := bit_val b k hlt
        have hoff := Lib.hid (accB_off 5 a b k)
        have hon := Lib.hid (accB_on 5 a b k hlt)
        cases hA : (nat64 a).testBit k <;> cases hB : (nat64 b).testBit k <;> rw [hA] at hx <;> rw [hB] at hy <;> simp only [if_true, Bool.false_eq_true, if_false] at hx hy
        all_goals
          have hA := Lib.hid hA
          have hB := Lib.hid hB
          rename_i hA' hB'
          clear hA' hB'
          go_wp2
          refine wp_region_over (by kernel_rfl) (by kernel_rfl) ?_
          repeat (go_big_quiet_step (fail))
          refine wpQuiet_nil ?_
          intro w1 hb1
          go_wp2
          go_roundw
          case rel => exact ⟨k + 1, by omega, by go_num, by first | rw [hon.out (by rw [hA.out, hB.out]; rfl)] | rw [hoff.out (by rw [hA.out, hB.out]; rfl)], hbl.trans (hb1.mono hbl.size)⟩
          case measure => simp [intOf]; omega
      · have e : k = 64 := by omega
        subst e
        go_wp2
        go_returns
        exact ⟨ret_int hend.out, hbl⟩
end Go.Proofs.Ytaijipapdbahkaa
