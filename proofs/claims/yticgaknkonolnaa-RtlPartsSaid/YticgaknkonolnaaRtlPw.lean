/- The walk of RtlParts. No condition. -/
import Derived.Test.YticgaknkonolnaaRtlParts
namespace Go.Proofs.Yticgaknkonolnaa
open Go.RowKit
set_option linter.unusedVariables false
set_option maxHeartbeats 4000000
set_option maxRecDepth 100000 in
theorem parts_walk (a b : Int) (w : World) (ha : In64 a) (hb : In64 b) :
    Calls Try.prog 5 #[.int .i64 a, .int .i64 b] w fun e w' => e = .returned (.bool true) ∧ Below w.heap.size w w' := by
  have p1 := quo_pair 6 8 a b (Or.inl ⟨rfl, rfl⟩) ha hb
  have p2 := quo_pair 7 9 a b (Or.inr ⟨rfl, rfl⟩) ha hb
  have Q6 := Lib.hid (fun w => reckon_walk 6 a b w (by decide) ha hb)
  have Q8 := Lib.hid (fun w => reckon_walk 8 a b w (by decide) ha hb)
  have Q7 := Lib.hid (fun w => reckon_walk 7 a b w (by decide) ha hb)
  have Q9 := Lib.hid (fun w => reckon_walk 9 a b w (by decide) ha hb)
  rw [show reck 6 a b = rquo 6 a b by simp [reck]] at Q6
  rw [show reck 8 a b = rquo 8 a b by simp [reck]] at Q8
  rw [show reck 7 a b = rquo 7 a b by simp [reck]] at Q7
  rw [show reck 9 a b = rquo 9 a b by simp [reck]] at Q9
  generalize rquo 6 a b = r6 at *
  generalize rquo 8 a b = r8 at *
  generalize rquo 7 a b = r7 at *
  generalize rquo 9 a b = r9 at *
  obtain ⟨q6, k6⟩ := r6
  obtain ⟨q8, k8⟩ := r8
  obtain ⟨q7, k7⟩ := r7
  obtain ⟨q9, k9⟩ := r9
  simp only [] at p1 p2
  obtain ⟨rfl, p1⟩ := p1
  obtain ⟨rfl, p2⟩ := p2
  have P1 := Lib.hid p1
  have P2 := Lib.hid p2
  have H20 := Lib.hid (fun w => rholds_walk 20 a b w (by decide))
  have H18 := Lib.hid (fun w => rholds_walk 18 (bits .xor .i64 a (-9223372036854775808)) (bits .xor .i64 b (-9223372036854775808)) w (by decide))
  have H21 := Lib.hid (fun w => rholds_walk 21 a b w (by decide))
  have H19 := Lib.hid (fun w => rholds_walk 19 (bits .xor .i64 a (-9223372036854775808)) (bits .xor .i64 b (-9223372036854775808)) w (by decide))
  have H16 := Lib.hid (fun w => rholds_walk 16 a b w (by decide))
  have H17 := Lib.hid (fun w => rholds_walk 17 a b w (by decide))
  have H18b := Lib.hid (fun w => rholds_walk 18 a b w (by decide))
  have H19b := Lib.hid (fun w => rholds_walk 19 b a w (by decide))
  rw [par1 a b ha hb] at H18
  rw [par2 a b ha hb] at H19
  rw [par3] at H17
  rw [par4] at H19b
  generalize rhol 20 a b = t20 at *
  generalize rhol 21 a b = t21 at *
  generalize rhol 16 a b = t16 at *
  generalize rhol 18 a b = t18 at *
  clear p1 p2
  go_enter Try.func5, Try.ntmps5
  go_wp2_with fail
  refine (fit_walk _).mono ?_
  rintro e w1 ⟨rfl, kb1⟩
  go_wp2_with fail
  have kS := blk_new w1 (.cells #[.int .i64 6, .int .i64 8, .int .i64 7, .int .i64 9] 37)
  have kb := below_alloc (.cells #[.int .i64 6, .int .i64 8, .int .i64 7, .int .i64 9] 37) kb1
  generalize hW : w1.alloc (.cells #[.int .i64 6, .int .i64 8, .int .i64 7, .int .i64 9] 37) = W0 at *
  clear hW kb1
  have KS := Lib.hid kS
  clear kS
  generalize w1.heap.size = bS at *
  go_loopw [19] (fun i wr => ∃ j : Int, (j = 0 ∨ j = 1 ∨ j = 2) ∧ i = .int .i64 j ∧ Below w.heap.size w wr ∧ wr.heap[bS]? = some (.cells #[.int .i64 6, .int .i64 8, .int .i64 7, .int .i64 9] 37 (0, 0))) (fun i _ => 2 - (intOf i).toNat)
  case atStart => exact ⟨0, Or.inl rfl, rfl, kb, KS.out⟩
  case round =>
    clear kb KS
    obtain ⟨j, hj, rfl, kb, kS⟩ := hrel
    have hbS := blk_lt kS
    have c0 : wr.cell? ⟨bS, 0, none⟩ = some (.int .i64 6) := blk_cell kS rfl
    have c1 : wr.cell? ⟨bS, 1, none⟩ = some (.int .i64 8) := blk_cell kS rfl
    have c2 : wr.cell? ⟨bS, 2, none⟩ = some (.int .i64 7) := blk_cell kS rfl
    have c3 : wr.cell? ⟨bS, 3, none⟩ = some (.int .i64 9) := blk_cell kS rfl
    have KS := Lib.hid kS
    clear kS
    rcases hj with rfl | rfl | rfl
    · cases k6
      · go_wp2_with fail
        refine (Q6.out _).mono ?_
        rintro e w2 ⟨rfl, rfl⟩
        go_wp2_with fail
        refine (Q8.out _).mono ?_
        rintro e w2 ⟨rfl, rfl⟩
        go_wp2_with fail
        go_roundw
        case rel => exact ⟨1, by omega, rfl, below_alloc _ kb, blk_alloc KS.out _⟩
        case measure => simp [intOf]
      · have p1 := P1.out rfl
        go_wp2_with fail
        refine (Q6.out _).mono ?_
        rintro e w2 ⟨rfl, rfl⟩
        go_wp2_with fail
        refine (Q8.out _).mono ?_
        rintro e w2 ⟨rfl, rfl⟩
        go_wp2_with fail
        go_roundw
        case rel => exact ⟨1, by omega, rfl, below_alloc _ kb, blk_alloc KS.out _⟩
        case measure => simp [intOf]
    · cases k7
      · go_wp2_with fail
        refine (Q7.out _).mono ?_
        rintro e w2 ⟨rfl, rfl⟩
        go_wp2_with fail
        refine (Q9.out _).mono ?_
        rintro e w2 ⟨rfl, rfl⟩
        go_wp2_with fail
        go_roundw
        case rel => exact ⟨2, by omega, rfl, below_alloc _ kb, blk_alloc KS.out _⟩
        case measure => simp [intOf]
      · have p1 := P2.out rfl
        go_wp2_with fail
        refine (Q7.out _).mono ?_
        rintro e w2 ⟨rfl, rfl⟩
        go_wp2_with fail
        refine (Q9.out _).mono ?_
        rintro e w2 ⟨rfl, rfl⟩
        go_wp2_with fail
        go_roundw
        case rel => exact ⟨2, by omega, rfl, below_alloc _ kb, blk_alloc KS.out _⟩
        case measure => simp [intOf]
    · cases t20 <;> cases t21 <;> cases t16 <;> cases t18
      all_goals
        go_wp2_with fail
        refine (H20.out _).mono ?_
        rintro e w2 ⟨rfl, rfl⟩
        go_wp2_with fail
        refine (H18.out _).mono ?_
        rintro e w2 ⟨rfl, rfl⟩
        go_wp2_with fail
        refine (H21.out _).mono ?_
        rintro e w2 ⟨rfl, rfl⟩
        go_wp2_with fail
        refine (H19.out _).mono ?_
        rintro e w2 ⟨rfl, rfl⟩
        go_wp2_with fail
        refine (H16.out _).mono ?_
        rintro e w2 ⟨rfl, rfl⟩
        go_wp2_with fail
        refine (H17.out _).mono ?_
        rintro e w2 ⟨rfl, rfl⟩
        go_wp2_with fail
        refine (H18b.out _).mono ?_
        rintro e w2 ⟨rfl, rfl⟩
        go_wp2_with fail
        refine (H19b.out _).mono ?_
        rintro e w2 ⟨rfl, rfl⟩
        go_wp2_with fail
        go_returns
        exact ⟨rfl, kb⟩
end Go.Proofs.Yticgaknkonolnaa
