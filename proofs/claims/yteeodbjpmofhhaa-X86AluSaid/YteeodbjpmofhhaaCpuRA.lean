/- Walks: the reference's sums and differences. No condition. -/
import Derived.Test.YteeodbjpmofhhaaCpuR
namespace Go.Proofs.Yteeodbjpmofhhaa
open Go.RowKit
set_option linter.unusedVariables false
set_option maxHeartbeats 4000000
theorem ref_add (op a b : Int) (f : Fl) (w : World) (ha : InU64 a) (hb : InU64 b) (hop : op = 7 ∨ op = 14) :
    Calls Try.prog 11 #[.int .i64 op, .int .u64 a, .int .u64 b, f.v] w fun e w' => aluIs (alu op a b f) e ∧ Below w.heap.size w w' := by
  have hal : alu op a b f = (w64 (a + b), addR a b, true) := by
    rw [← addF_R a b ha hb]
    rcases hop with rfl | rfl <;> simp [alu]
  rw [hal]
  clear hal
  unfold aluIs addR
  have TA := Lib.hid (fun t ht w => top_walk a t w ha ht)
  have TB := Lib.hid (fun t ht w => top_walk b t w hb ht)
  have TN := Lib.hid (fun t ht w => top_walk (w64 (a + b)) t w (w64_in _) ht)
  obtain ⟨ta, hta⟩ : ∃ t, p63 a = t := ⟨_, rfl⟩
  obtain ⟨tb, htb⟩ : ∃ t, p63 b = t := ⟨_, rfl⟩
  obtain ⟨tn, htn⟩ : ∃ t, p63 (w64 (a + b)) = t := ⟨_, rfl⟩
  rw [hta, htb, htn]
  have TA := Lib.hid (TA.out ta hta)
  have TB := Lib.hid (TB.out tb htb)
  have TN := Lib.hid (TN.out tn htn)
  clear hta htb htn
  rename_i TA' TB' TN'
  clear TA' TB' TN'
  obtain ⟨ha1, ha2⟩ := ha
  obtain ⟨hb1, hb2⟩ := hb
  obtain ⟨z, s, c, o⟩ := f
  unfold Fl.v w64 at *
  rcases hop with rfl | rfl <;> cases ta <;> cases tb
  all_goals
    go_enter Try.func11, Try.ntmps11
    go_wp2_with fail
    refine (TA.out _).mono ?_
    rintro e w1 ⟨rfl, rfl⟩
    go_wp2_with fail
    refine (TB.out _).mono ?_
    rintro e w1 ⟨rfl, rfl⟩
    go_wp2_with fail
    refine (TN.out _).mono ?_
    rintro e w1 ⟨rfl, rfl⟩
    go_wp2_with fail
    try (refine (TA.out _).mono ?_; rintro e w1 ⟨rfl, rfl⟩; go_wp2_with fail; refine (TN.out _).mono ?_; rintro e w1 ⟨rfl, rfl⟩; go_wp2_with fail)
    go_region
    all_goals go_wp2
    all_goals go_returns
    all_goals refine ⟨by cases tn <;> rfl, ?_⟩
    all_goals go_grown
theorem ref_cmp (op a b : Int) (f : Fl) (w : World) (ha : InU64 a) (hb : InU64 b) (hop : op = 8 ∨ op = 15 ∨ op = 13 ∨ op = 20) :
    Calls Try.prog 11 #[.int .i64 op, .int .u64 a, .int .u64 b, f.v] w fun e w' => aluIs (alu op a b f) e ∧ Below w.heap.size w w' := by
  have hal : alu op a b f = (if op = 8 ∨ op = 15 then w64 (a - b) else a, subR a b, true) := by
    rw [← cmpF_R a b ha hb]
    rcases hop with rfl | rfl | rfl | rfl <;> simp [alu]
  rw [hal]
  clear hal
  unfold aluIs subR
  have TA := Lib.hid (fun t ht w => top_walk a t w ha ht)
  have TB := Lib.hid (fun t ht w => top_walk b t w hb ht)
  have TN := Lib.hid (fun t ht w => top_walk (w64 (a - b)) t w (w64_in _) ht)
  obtain ⟨ta, hta⟩ : ∃ t, p63 a = t := ⟨_, rfl⟩
  obtain ⟨tb, htb⟩ : ∃ t, p63 b = t := ⟨_, rfl⟩
  obtain ⟨tn, htn⟩ : ∃ t, p63 (w64 (a - b)) = t := ⟨_, rfl⟩
  rw [hta, htb, htn]
  have TA := Lib.hid (TA.out ta hta)
  have TB := Lib.hid (TB.out tb htb)
  have TN := Lib.hid (TN.out tn htn)
  clear hta htb htn
  rename_i TA' TB' TN'
  clear TA' TB' TN'
  obtain ⟨ha1, ha2⟩ := ha
  obtain ⟨hb1, hb2⟩ := hb
  obtain ⟨z, s, c, o⟩ := f
  unfold Fl.v w64 at *
  rcases hop with rfl | rfl | rfl | rfl <;> cases ta <;> cases tb
  all_goals
    go_enter Try.func11, Try.ntmps11
    go_wp2_with fail
    refine (TA.out _).mono ?_
    rintro e w1 ⟨rfl, rfl⟩
    go_wp2_with fail
    refine (TB.out _).mono ?_
    rintro e w1 ⟨rfl, rfl⟩
    go_wp2_with fail
    refine (TN.out _).mono ?_
    rintro e w1 ⟨rfl, rfl⟩
    go_wp2_with fail
    try (refine (TA.out _).mono ?_; rintro e w1 ⟨rfl, rfl⟩; go_wp2_with fail; refine (TN.out _).mono ?_; rintro e w1 ⟨rfl, rfl⟩; go_wp2_with fail)
    go_region
    all_goals go_wp2
    all_goals go_returns
    all_goals refine ⟨by cases tn <;> rfl, ?_⟩
    all_goals go_grown
end Go.Proofs.Yteeodbjpmofhhaa
