/- The walk of X86Conds. No condition. -/
import Derived.Test.YteeodbjpmofhhaaCpuC
import Derived.Test.YteeodbjpmofhhaaCpuR
namespace Go.Proofs.Yteeodbjpmofhhaa
open Go.RowKit
set_option linter.unusedVariables false
set_option maxHeartbeats 4000000
/-- behind a comparison the conditions hold as the numbers stand -/
def want (a b : Int) (j : Nat) : Bool :=
  if j = 0 then a == b else if j = 1 then a != b else if j = 2 then decide (wrap64 a < wrap64 b) else if j = 3 then decide (wrap64 a ≤ wrap64 b) else if j = 4 then decide (wrap64 b < wrap64 a)
  else if j = 5 then decide (wrap64 b ≤ wrap64 a) else if j = 6 then decide (a < b) else if j = 7 then decide (a ≤ b) else if j = 8 then decide (b < a) else decide (b ≤ a)
theorem cmp_parts (a b : Int) (ha : InU64 a) (hb : InU64 b) : (cmpF a b).z = decide (a = b) ∧ ((cmpF a b).s != (cmpF a b).o) = decide (wrap64 a < wrap64 b) ∧ (cmpF a b).c = decide (a < b) := by
  rw [cmpF_R a b ha hb]
  unfold subR
  rw [p63_eq a ha, p63_eq b hb, p63_eq _ (w64_in _), w64_eq]
  obtain ⟨a1, a2⟩ := ha
  obtain ⟨b1, b2⟩ := hb
  refine ⟨?_, ?_, rfl⟩
  · rw [Bool.eq_iff_iff]; simp; omega
  · unfold wrap64
    rw [Bool.eq_iff_iff]
    by_cases h1 : 9223372036854775808 ≤ a <;> by_cases h2 : 9223372036854775808 ≤ b <;> by_cases h3 : 9223372036854775808 ≤ (a - b) % 18446744073709551616 <;> simp [h1, h2, h3] <;> omega
theorem want_is (a b : Int) (ha : InU64 a) (hb : InU64 b) (j : Nat) (hj : j < 10) : hol (cmpF a b) j = want a b j := by
  obtain ⟨p1, p2, p3⟩ := cmp_parts a b ha hb
  obtain ⟨a1, a2⟩ := ha
  obtain ⟨b1, b2⟩ := hb
  generalize cmpF a b = g at *
  obtain ⟨z, s, c, o⟩ := g
  have p4 : (s == o) = !(s != o) := by cases s <;> cases o <;> rfl
  have hc : j = 0 ∨ j = 1 ∨ j = 2 ∨ j = 3 ∨ j = 4 ∨ j = 5 ∨ j = 6 ∨ j = 7 ∨ j = 8 ∨ j = 9 := by omega
  simp only at p1 p2 p3
  rcases hc with rfl | rfl | rfl | rfl | rfl | rfl | rfl | rfl | rfl | rfl
  all_goals
    simp only [hol, want]
    simp [p4, p1, p2, p3]
    try (rw [Bool.eq_iff_iff]; simp only [Bool.or_eq_true, Bool.and_eq_true, decide_eq_true_eq, decide_eq_false_iff_not, beq_iff_eq, bne_iff_ne, ne_eq, bne_eq_false_iff_eq, Bool.not_eq_eq_eq_not, Bool.not_true, beq_eq_false_iff_ne]; (try unfold wrap64); try omega)
theorem flags_any (n : Int) (w : World) : Calls Try.prog 9 #[.int .i64 n] w fun e w' => (∃ f : Fl, e = .returned f.v) ∧ Below w.heap.size w w' := by
  go_enter Try.func9, Try.ntmps9
  go_wp2
  go_returns
  exact ⟨⟨⟨_, _, _, _⟩, rfl⟩, below_alloc _ (Below.refl _ _)⟩
theorem calls_over_same {P : Program} {f : FuncId} {args : Array Value} {B : Nat} {w x : World} {v : Value} (hB : B ≤ w.heap.size)
    (h : Calls P f args (over B w x) fun e w' => e = .returned v ∧ over B w x = w') :
    Calls P f args (over B w x) fun e w'' => e = .returned v ∧ ∃ y, w'' = over B w y :=
  h.mono fun _ w' ⟨he, hb⟩ => ⟨he, x, hb.symm⟩
set_option maxRecDepth 100000 in
theorem conds_law (h0 a b : Int) (w : World) (ha : InU64 a) (hb : InU64 b) :
    Calls Try.prog 7 #[.int .i64 h0, .int .u64 a, .int .u64 b] w fun e w' => e = .returned (.bool true) ∧ Below w.heap.size w w' := by
  have FL := Lib.hid (fun w => flags_any h0 w)
  have CW := Lib.hid (fun w => compare_walk a b w ha hb)
  have WI := Lib.hid (want_is a b ha hb)
  obtain ⟨ha1, ha2⟩ := ha
  obtain ⟨hb1, hb2⟩ := hb
  go_enter Try.func7, Try.ntmps7
  go_wp2_with fail
  refine (fit_walk _).mono ?_
  rintro e w1 ⟨rfl, kb1⟩
  go_wp2_with fail
  refine (FL.out _).mono ?_
  rintro e w2 ⟨⟨f, rfl⟩, hb2'⟩
  have kb2 := kb1.bt hb2'
  clear hb2'
  obtain ⟨fz, fs, fc, fo⟩ := f
  unfold Fl.v
  go_wp2_with fail
  have kF : (w2.alloc (.cells #[.bool fz, .bool fs, .bool fc, .bool fo] 26)).heap[w2.heap.size]? = some (.cells #[.bool fz, .bool fs, .bool fc, .bool fo] 26 (0, 0)) := blk_new _ _
  have kb := below_alloc (.cells #[.bool fz, .bool fs, .bool fc, .bool fo] 26) kb2
  generalize hW : w2.alloc (.cells #[.bool fz, .bool fs, .bool fc, .bool fo] 26) = W0 at *
  clear hW
  have KF := Lib.hid kF
  clear kF kb2
  generalize w2.heap.size = bF at *
  go_loopw [8] (fun i wr => ∃ j : Nat, j ≤ 10 ∧ i = .int .i64 j ∧ Below w.heap.size w wr ∧ wr.heap[bF]? = some (.cells #[.bool fz, .bool fs, .bool fc, .bool fo] 26 (0, 0))) (fun i _ => 10 - (intOf i).toNat)
  case atStart => exact ⟨0, by omega, rfl, kb, KF.out⟩
  case round =>
    clear kb KF
    obtain ⟨j, hj, rfl, kb, kF⟩ := hrel
    by_cases hlt : j < 10
    · have H1 := Lib.hid (fun w => holds_walk ⟨fz, fs, fc, fo⟩ j w (by omega))
      have H2 := Lib.hid (fun w => holds_walk ⟨fz, fs, fc, fo⟩ (opp j) w (opp_in j (by omega)))
      have H3 := Lib.hid (fun w => holds_ref ⟨fz, fs, fc, fo⟩ j w (by omega))
      have N1 := Lib.hid (fun w => not_walk j w (by omega))
      have N2 := Lib.hid (fun w => not_walk (opp j) w (opp_in j (by omega)))
      rw [hol_opp _ _ (by omega)] at H2
      rw [opp_opp _ (by omega)] at N2
      unfold Fl.v at H1 H2 H3
      generalize hol ⟨fz, fs, fc, fo⟩ (j : Int) = t at *
      obtain ⟨d, hd⟩ : ∃ d, opp (j : Int) = d := ⟨_, rfl⟩
      rw [hd] at H2 N1 N2
      clear hd
      have hbF := blk_lt kF
      have c0 : wr.cell? ⟨bF, 0, none⟩ = some (.bool fz) := blk_cell kF rfl
      have c1 : wr.cell? ⟨bF, 1, none⟩ = some (.bool fs) := blk_cell kF rfl
      have c2 : wr.cell? ⟨bF, 2, none⟩ = some (.bool fc) := blk_cell kF rfl
      have c3 : wr.cell? ⟨bF, 3, none⟩ = some (.bool fo) := blk_cell kF rfl
      have KF := Lib.hid kF
      clear kF CW FL
      cases t
      all_goals
        go_wp2_with fail
        refine wp_region_over (by kernel_rfl) (by kernel_rfl) ?_
        repeat (go_big_quiet_step (first
          | (go_at_call_of 18 (Value.int .i64 (j : Int)); exact calls_over (by exact Nat.le_refl _) (H1.out _))
          | (go_at_call_of 18 (Value.int .i64 d); exact calls_over (by exact Nat.le_refl _) (H2.out _))
          | (go_at_call 19; exact calls_over (by exact Nat.le_refl _) (H3.out _))
          | (go_at_call_of 20 (Value.int .i64 (j : Int)); exact calls_over_same (by exact Nat.le_refl _) (N1.out _))
          | (go_at_call_of 20 (Value.int .i64 d); exact calls_over_same (by exact Nat.le_refl _) (N2.out _))))
        refine wpQuiet_nil ?_
        intro w4 hb4
        go_wp2
        go_roundw
        case rel => exact ⟨j + 1, by omega, by go_num, kb.bt hb4, blk_below KF.out hb4⟩
        case measure => simp [intOf]; omega
    · obtain rfl : j = 10 := by omega
      have CW2 := Lib.hid CW.out
      unfold Fl.v at CW2
      clear CW kF
      go_wp2_with fail
      refine (CW2.out _).mono ?_
      rintro e w3 ⟨rfl, hb3⟩
      have kb3 := kb.bt hb3
      clear hb3
      go_wp2_with fail
      clear CW2
      have HW := Lib.hid (fun (j : Int) (hj : 0 ≤ j ∧ j ≤ 9) (w : World) => holds_walk (cmpF a b) j w hj)
      unfold Fl.v at HW
      have HW : ∀ (j : Nat) (jj : Int), jj = (j : Int) → j < 10 → ∀ w, Calls Try.prog 18 #[.agg #[.bool (cmpF a b).z, .bool (cmpF a b).s, .bool (cmpF a b).c, .bool (cmpF a b).o], .int .i64 jj] w fun e w' => e = .returned (.bool (want a b j)) ∧ Below w.heap.size w w' := by
        intro j jj hjj hj w
        subst hjj
        rw [← WI.out j hj]
        exact HW.out j (by omega) w
      rw [show (a == b) = want a b 0 from rfl, show (a != b) = want a b 1 from rfl, show decide (wrap64 a < wrap64 b) = want a b 2 from rfl, show decide (wrap64 a ≤ wrap64 b) = want a b 3 from rfl, show decide (wrap64 b < wrap64 a) = want a b 4 from rfl,
        show decide (wrap64 b ≤ wrap64 a) = want a b 5 from rfl, show decide (a < b) = want a b 6 from rfl, show decide (a ≤ b) = want a b 7 from rfl, show decide (b < a) = want a b 8 from rfl, show decide (b ≤ a) = want a b 9 from rfl]
      have V0 := Lib.hid (HW 0 0 rfl (by decide))
      have V1 := Lib.hid (HW 1 1 rfl (by decide))
      have V2 := Lib.hid (HW 2 2 rfl (by decide))
      have V3 := Lib.hid (HW 3 3 rfl (by decide))
      have V4 := Lib.hid (HW 4 4 rfl (by decide))
      have V5 := Lib.hid (HW 5 5 rfl (by decide))
      have V6 := Lib.hid (HW 6 6 rfl (by decide))
      have V7 := Lib.hid (HW 7 7 rfl (by decide))
      have V8 := Lib.hid (HW 8 8 rfl (by decide))
      have V9 := Lib.hid (HW 9 9 rfl (by decide))
      clear HW
      clear HW WI
      generalize want a b 0 = t0 at *
      generalize want a b 1 = t1 at *
      generalize want a b 2 = t2 at *
      generalize want a b 3 = t3 at *
      generalize want a b 4 = t4 at *
      generalize want a b 5 = t5 at *
      generalize want a b 6 = t6 at *
      generalize want a b 7 = t7 at *
      generalize want a b 8 = t8 at *
      generalize want a b 9 = t9 at *
      generalize (cmpF a b).z = z at *
      generalize (cmpF a b).s = s at *
      generalize (cmpF a b).c = c at *
      generalize (cmpF a b).o = o at *
      have kG : ((w3.alloc (.cells #[.bool z, .bool s, .bool c, .bool o] 26)).alloc (.cells #[.bool t0, .bool t1, .bool t2, .bool t3, .bool t4, .bool t5, .bool t6, .bool t7, .bool t8, .bool t9] 47)).heap[w3.heap.size]? = some (.cells #[.bool z, .bool s, .bool c, .bool o] 26 (0, 0)) := blk_alloc (blk_new _ _) _
      have kb4 := below_alloc (.cells #[.bool t0, .bool t1, .bool t2, .bool t3, .bool t4, .bool t5, .bool t6, .bool t7, .bool t8, .bool t9] 47) (below_alloc (.cells #[.bool z, .bool s, .bool c, .bool o] 26) kb3)
      generalize hW : (w3.alloc (.cells #[.bool z, .bool s, .bool c, .bool o] 26)).alloc (.cells #[.bool t0, .bool t1, .bool t2, .bool t3, .bool t4, .bool t5, .bool t6, .bool t7, .bool t8, .bool t9] 47) = W1 at *
      clear hW
      have KG := Lib.hid kG
      clear kG kb3
      generalize w3.heap.size = bG at *
      clear kb
      go_loopw [86] (fun i wr => ∃ j : Int, (0 ≤ j ∧ j ≤ 10) ∧ i = .int .i64 j ∧ Below w.heap.size w wr ∧ wr.heap[bG]? = some (.cells #[.bool z, .bool s, .bool c, .bool o] 26 (0, 0))) (fun i _ => 10 - (intOf i).toNat)
      case atStart => exact ⟨0, ⟨by decide, by decide⟩, rfl, kb4, KG.out⟩
      case round =>
        clear kb4 KG
        obtain ⟨j, hj, rfl, kb, kG⟩ := hrel
        have hbG := blk_lt kG
        have c0 : wr.cell? ⟨bG, 0, none⟩ = some (.bool z) := blk_cell kG rfl
        have c1 : wr.cell? ⟨bG, 1, none⟩ = some (.bool s) := blk_cell kG rfl
        have c2 : wr.cell? ⟨bG, 2, none⟩ = some (.bool c) := blk_cell kG rfl
        have c3 : wr.cell? ⟨bG, 3, none⟩ = some (.bool o) := blk_cell kG rfl
        have KG := Lib.hid kG
        clear kG
        by_cases h10 : j = 10
        · subst h10
          go_wp2_with fail
          go_returns
          exact ⟨rfl, kb⟩
        · rcases c10 (show 0 ≤ j ∧ j ≤ 9 by omega) with rfl | rfl | rfl | rfl | rfl | rfl | rfl | rfl | rfl | rfl
          · have ix : ∀ w, (Instr.index 47 (.agg #[.bool t0, .bool t1, .bool t2, .bool t3, .bool t4, .bool t5, .bool t6, .bool t7, .bool t8, .bool t9]) (.int .i64 0)).run Try.prog w = .ok (.bool t0) w := fun _ => by kernel_rfl
            go_wp2_with fail
            refine (V0.out _).mono ?_
            rintro e w4 ⟨rfl, hb4⟩
            go_wp2_with fail
            go_roundw
            case rel => exact ⟨1, ⟨by decide, by decide⟩, rfl, kb.bt hb4, blk_below KG.out hb4⟩
            case measure => simp [intOf]
          · have ix : ∀ w, (Instr.index 47 (.agg #[.bool t0, .bool t1, .bool t2, .bool t3, .bool t4, .bool t5, .bool t6, .bool t7, .bool t8, .bool t9]) (.int .i64 1)).run Try.prog w = .ok (.bool t1) w := fun _ => by kernel_rfl
            go_wp2_with fail
            refine (V1.out _).mono ?_
            rintro e w4 ⟨rfl, hb4⟩
            go_wp2_with fail
            go_roundw
            case rel => exact ⟨2, ⟨by decide, by decide⟩, rfl, kb.bt hb4, blk_below KG.out hb4⟩
            case measure => simp [intOf]
          · have ix : ∀ w, (Instr.index 47 (.agg #[.bool t0, .bool t1, .bool t2, .bool t3, .bool t4, .bool t5, .bool t6, .bool t7, .bool t8, .bool t9]) (.int .i64 2)).run Try.prog w = .ok (.bool t2) w := fun _ => by kernel_rfl
            go_wp2_with fail
            refine (V2.out _).mono ?_
            rintro e w4 ⟨rfl, hb4⟩
            go_wp2_with fail
            go_roundw
            case rel => exact ⟨3, ⟨by decide, by decide⟩, rfl, kb.bt hb4, blk_below KG.out hb4⟩
            case measure => simp [intOf]
          · have ix : ∀ w, (Instr.index 47 (.agg #[.bool t0, .bool t1, .bool t2, .bool t3, .bool t4, .bool t5, .bool t6, .bool t7, .bool t8, .bool t9]) (.int .i64 3)).run Try.prog w = .ok (.bool t3) w := fun _ => by kernel_rfl
            go_wp2_with fail
            refine (V3.out _).mono ?_
            rintro e w4 ⟨rfl, hb4⟩
            go_wp2_with fail
            go_roundw
            case rel => exact ⟨4, ⟨by decide, by decide⟩, rfl, kb.bt hb4, blk_below KG.out hb4⟩
            case measure => simp [intOf]
          · have ix : ∀ w, (Instr.index 47 (.agg #[.bool t0, .bool t1, .bool t2, .bool t3, .bool t4, .bool t5, .bool t6, .bool t7, .bool t8, .bool t9]) (.int .i64 4)).run Try.prog w = .ok (.bool t4) w := fun _ => by kernel_rfl
            go_wp2_with fail
            refine (V4.out _).mono ?_
            rintro e w4 ⟨rfl, hb4⟩
            go_wp2_with fail
            go_roundw
            case rel => exact ⟨5, ⟨by decide, by decide⟩, rfl, kb.bt hb4, blk_below KG.out hb4⟩
            case measure => simp [intOf]
          · have ix : ∀ w, (Instr.index 47 (.agg #[.bool t0, .bool t1, .bool t2, .bool t3, .bool t4, .bool t5, .bool t6, .bool t7, .bool t8, .bool t9]) (.int .i64 5)).run Try.prog w = .ok (.bool t5) w := fun _ => by kernel_rfl
            go_wp2_with fail
            refine (V5.out _).mono ?_
            rintro e w4 ⟨rfl, hb4⟩
            go_wp2_with fail
            go_roundw
            case rel => exact ⟨6, ⟨by decide, by decide⟩, rfl, kb.bt hb4, blk_below KG.out hb4⟩
            case measure => simp [intOf]
          · have ix : ∀ w, (Instr.index 47 (.agg #[.bool t0, .bool t1, .bool t2, .bool t3, .bool t4, .bool t5, .bool t6, .bool t7, .bool t8, .bool t9]) (.int .i64 6)).run Try.prog w = .ok (.bool t6) w := fun _ => by kernel_rfl
            go_wp2_with fail
            refine (V6.out _).mono ?_
            rintro e w4 ⟨rfl, hb4⟩
            go_wp2_with fail
            go_roundw
            case rel => exact ⟨7, ⟨by decide, by decide⟩, rfl, kb.bt hb4, blk_below KG.out hb4⟩
            case measure => simp [intOf]
          · have ix : ∀ w, (Instr.index 47 (.agg #[.bool t0, .bool t1, .bool t2, .bool t3, .bool t4, .bool t5, .bool t6, .bool t7, .bool t8, .bool t9]) (.int .i64 7)).run Try.prog w = .ok (.bool t7) w := fun _ => by kernel_rfl
            go_wp2_with fail
            refine (V7.out _).mono ?_
            rintro e w4 ⟨rfl, hb4⟩
            go_wp2_with fail
            go_roundw
            case rel => exact ⟨8, ⟨by decide, by decide⟩, rfl, kb.bt hb4, blk_below KG.out hb4⟩
            case measure => simp [intOf]
          · have ix : ∀ w, (Instr.index 47 (.agg #[.bool t0, .bool t1, .bool t2, .bool t3, .bool t4, .bool t5, .bool t6, .bool t7, .bool t8, .bool t9]) (.int .i64 8)).run Try.prog w = .ok (.bool t8) w := fun _ => by kernel_rfl
            go_wp2_with fail
            refine (V8.out _).mono ?_
            rintro e w4 ⟨rfl, hb4⟩
            go_wp2_with fail
            go_roundw
            case rel => exact ⟨9, ⟨by decide, by decide⟩, rfl, kb.bt hb4, blk_below KG.out hb4⟩
            case measure => simp [intOf]
          · have ix : ∀ w, (Instr.index 47 (.agg #[.bool t0, .bool t1, .bool t2, .bool t3, .bool t4, .bool t5, .bool t6, .bool t7, .bool t8, .bool t9]) (.int .i64 9)).run Try.prog w = .ok (.bool t9) w := fun _ => by kernel_rfl
            go_wp2_with fail
            refine (V9.out _).mono ?_
            rintro e w4 ⟨rfl, hb4⟩
            go_wp2_with fail
            go_roundw
            case rel => exact ⟨10, ⟨by decide, by decide⟩, rfl, kb.bt hb4, blk_below KG.out hb4⟩
            case measure => simp [intOf]
end Go.Proofs.Yteeodbjpmofhhaa
