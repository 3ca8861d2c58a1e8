/- Walks: the example holds; the statement RtlParts' and RtlWidens' parts. No condition. -/
import Derived.Test.YticgaknkonolnaaRtlOne
namespace Go.Proofs.Yticgaknkonolnaa
open Go.RowKit
set_option linter.unusedVariables false
set_option maxHeartbeats 2000000
set_option maxRecDepth 100000 in
theorem fit_walk (w : World) : Calls Try.prog 8 #[] w fun e w' => e = .returned (.bool true) ∧ Below w.heap.size w w' := by
  have RK := Lib.hid (fun w => reckon_walk 15 (-1) 60 w ⟨by decide, by decide⟩ ⟨by decide, by decide⟩ ⟨by decide, by decide⟩)
  rw [show reck 15 (-1) 60 = (15, true) by simp [reck, uS, wrap64]] at RK
  have fd : ∀ w, (Instr.field 47 (.agg #[.int .i64 3, .int .i64 0]) 0).run Try.prog w = .ok (.int .i64 3) w := fun _ => by kernel_rfl
  go_enter Try.func8, Try.ntmps8
  go_wp2_with fail
  refine (RK.out _).mono ?_
  rintro e w1 ⟨rfl, rfl⟩
  go_wp2_with fail
  refine (one_walk _).mono ?_
  rintro e w2 ⟨fb, bb, rfl, hf, hb, kb2⟩
  unfold oneP
  clear RK
  have R1 := Lib.hid (fun w' pb h1 h2 h3 => right_one w' pb fb bb h1 h2 h3)
  go_wp2_with fail
  have kp := blk_new w2 (.cells #[.slice (some ⟨fb, 0, none⟩) 1 1, .slice none 0 0, .int .i64 0, .int .i64 0] 29)
  refine (R1.out _ _ kp (blk_alloc hf _) (blk_alloc hb _)).mono ?_
  rintro e w3 ⟨rfl, hb3⟩
  have kb3 := kb2.bt (below_new hb3)
  clear hb3 R1 hf hb kp
  go_wp2_with fail
  refine (r_walk _ _).mono ?_
  rintro e w4 ⟨rfl, hb4⟩
  have kb4 := kb3.bt hb4
  clear hb4
  go_wp2_with fail
  refine (n_walk _ _).mono ?_
  rintro e w5 ⟨rfl, hb5⟩
  have kb5 := kb4.bt hb5
  clear hb5
  go_wp2_with fail
  go_returns
  exact ⟨rfl, kb5⟩
/-- a number's lowest bytes, with their sign or without -/
def rwid (n size : Int) (sg : Bool) : Int :=
  if size < 1 ∨ 7 < size then n
  else (let r := n % 2 ^ (8 * size.toNat); if sg = true ∧ 2 ^ (8 * size.toNat) / 2 ≤ r then r - 2 ^ (8 * size.toNat) else r)
theorem s7 {s : Int} (h : ¬ (s < 1 ∨ 7 < s)) : s = 1 ∨ s = 2 ∨ s = 3 ∨ s = 4 ∨ s = 5 ∨ s = 6 ∨ s = 7 := by omega
theorem widen_walk (n size : Int) (sg : Bool) (w : World) (hn : In64 n) (hz : In64 size) :
    Calls Try.prog 27 #[.int .i64 n, .int .i64 size, .bool sg] w fun e w' => e = .returned (.int .i64 (rwid n size sg)) ∧ w = w' := by
  obtain ⟨h1, h2⟩ := hn
  obtain ⟨z1, z2⟩ := hz
  by_cases hs : size < 1 ∨ 7 < size
  · have hw : rwid n size sg = n := by unfold rwid; rw [if_pos hs]
    rw [hw]
    clear hw
    rcases hs with hs | hs
    all_goals
      go_enter Try.func27, Try.ntmps27
      go_wp2
      all_goals go_returns
      all_goals exact ⟨rfl, rfl⟩
  · rcases s7 hs with rfl | rfl | rfl | rfl | rfl | rfl | rfl <;> cases sg
    all_goals
      go_enter Try.func27, Try.ntmps27
      go_wp2
      go_returns
      refine ⟨ret_int ?_, rfl⟩
      simp only [rwid, IntKind.wrap_u64, wrap64]
      simp
      omega
theorem tmod_is (n m : Int) : ∃ r, n.tmod m = r ∧ (0 ≤ n → r = n % m) ∧ (n < 0 → r = -((-n) % m)) := by
  refine ⟨_, rfl, fun h => Int.tmod_eq_emod_of_nonneg h, fun h => ?_⟩
  have e : n = -(-n) := by omega
  conv => lhs; rw [e]
  rw [Int.neg_tmod, Int.tmod_eq_emod_of_nonneg (by omega)]
theorem widen_ref (n size : Int) (sg : Bool) (w : World) (hn : In64 n) (hz : In64 size) :
    Calls Try.prog 28 #[.int .i64 n, .int .i64 size, .bool sg] w fun e w' => e = .returned (.int .i64 (rwid n size sg)) ∧ w = w' := by
  obtain ⟨h1, h2⟩ := hn
  obtain ⟨z1, z2⟩ := hz
  by_cases hs : size < 1 ∨ 7 < size
  · have hw : rwid n size sg = n := by unfold rwid; rw [if_pos hs]
    rw [hw]
    clear hw
    rcases hs with hs | hs
    all_goals
      go_enter Try.func28, Try.ntmps28
      go_wp2
      all_goals go_returns
      all_goals exact ⟨rfl, rfl⟩
  · rcases s7 hs with rfl | rfl | rfl | rfl | rfl | rfl | rfl
    · obtain ⟨r, hr, hr1, hr2⟩ := tmod_is n 256
      have hb1 : -255 ≤ r := by omega
      have hb2 : r ≤ 255 := by omega
      have HR1 := Lib.hid hr1
      have HR2 := Lib.hid hr2
      clear hr1 hr2
      cases sg
      all_goals
        go_enter Try.func28, Try.ntmps28
        go_wp2
        all_goals go_returns
        all_goals refine ⟨ret_int ?_, rfl⟩
        all_goals simp only [rwid, IntKind.wrap_u64, wrap64]
        all_goals simp
        all_goals have hr1 := HR1.out
        all_goals have hr2 := HR2.out
        all_goals omega
    · obtain ⟨r, hr, hr1, hr2⟩ := tmod_is n 65536
      have hb1 : -65535 ≤ r := by omega
      have hb2 : r ≤ 65535 := by omega
      have HR1 := Lib.hid hr1
      have HR2 := Lib.hid hr2
      clear hr1 hr2
      cases sg
      all_goals
        go_enter Try.func28, Try.ntmps28
        go_wp2
        all_goals go_returns
        all_goals refine ⟨ret_int ?_, rfl⟩
        all_goals simp only [rwid, IntKind.wrap_u64, wrap64]
        all_goals simp
        all_goals have hr1 := HR1.out
        all_goals have hr2 := HR2.out
        all_goals omega
    · obtain ⟨r, hr, hr1, hr2⟩ := tmod_is n 16777216
      have hb1 : -16777215 ≤ r := by omega
      have hb2 : r ≤ 16777215 := by omega
      have HR1 := Lib.hid hr1
      have HR2 := Lib.hid hr2
      clear hr1 hr2
      cases sg
      all_goals
        go_enter Try.func28, Try.ntmps28
        go_wp2
        all_goals go_returns
        all_goals refine ⟨ret_int ?_, rfl⟩
        all_goals simp only [rwid, IntKind.wrap_u64, wrap64]
        all_goals simp
        all_goals have hr1 := HR1.out
        all_goals have hr2 := HR2.out
        all_goals omega
    · obtain ⟨r, hr, hr1, hr2⟩ := tmod_is n 4294967296
      have hb1 : -4294967295 ≤ r := by omega
      have hb2 : r ≤ 4294967295 := by omega
      have HR1 := Lib.hid hr1
      have HR2 := Lib.hid hr2
      clear hr1 hr2
      cases sg
      all_goals
        go_enter Try.func28, Try.ntmps28
        go_wp2
        all_goals go_returns
        all_goals refine ⟨ret_int ?_, rfl⟩
        all_goals simp only [rwid, IntKind.wrap_u64, wrap64]
        all_goals simp
        all_goals have hr1 := HR1.out
        all_goals have hr2 := HR2.out
        all_goals omega
    · obtain ⟨r, hr, hr1, hr2⟩ := tmod_is n 1099511627776
      have hb1 : -1099511627775 ≤ r := by omega
      have hb2 : r ≤ 1099511627775 := by omega
      have HR1 := Lib.hid hr1
      have HR2 := Lib.hid hr2
      clear hr1 hr2
      cases sg
      all_goals
        go_enter Try.func28, Try.ntmps28
        go_wp2
        all_goals go_returns
        all_goals refine ⟨ret_int ?_, rfl⟩
        all_goals simp only [rwid, IntKind.wrap_u64, wrap64]
        all_goals simp
        all_goals have hr1 := HR1.out
        all_goals have hr2 := HR2.out
        all_goals omega
    · obtain ⟨r, hr, hr1, hr2⟩ := tmod_is n 281474976710656
      have hb1 : -281474976710655 ≤ r := by omega
      have hb2 : r ≤ 281474976710655 := by omega
      have HR1 := Lib.hid hr1
      have HR2 := Lib.hid hr2
      clear hr1 hr2
      cases sg
      all_goals
        go_enter Try.func28, Try.ntmps28
        go_wp2
        all_goals go_returns
        all_goals refine ⟨ret_int ?_, rfl⟩
        all_goals simp only [rwid, IntKind.wrap_u64, wrap64]
        all_goals simp
        all_goals have hr1 := HR1.out
        all_goals have hr2 := HR2.out
        all_goals omega
    · obtain ⟨r, hr, hr1, hr2⟩ := tmod_is n 72057594037927936
      have hb1 : -72057594037927935 ≤ r := by omega
      have hb2 : r ≤ 72057594037927935 := by omega
      have HR1 := Lib.hid hr1
      have HR2 := Lib.hid hr2
      clear hr1 hr2
      cases sg
      all_goals
        go_enter Try.func28, Try.ntmps28
        go_wp2
        all_goals go_returns
        all_goals refine ⟨ret_int ?_, rfl⟩
        all_goals simp only [rwid, IntKind.wrap_u64, wrap64]
        all_goals simp
        all_goals have hr1 := HR1.out
        all_goals have hr2 := HR2.out
        all_goals omega
end Go.Proofs.Yticgaknkonolnaa
