/- The walk of ArithFits: the law answers true, whatever the numbers. No condition. -/
import Derived.Test.YtaijipapdbahkaaParts
namespace Go.Proofs.Ytaijipapdbahkaa
open Go.RowKit
set_option linter.unusedVariables false
set_option maxHeartbeats 1000000
theorem bcell {W w1 : World} (hb : Below W.heap.size W w1) : (∀ b o, b < W.heap.size → w1.cell? ⟨b, o, none⟩ = W.cell? ⟨b, o, none⟩) ∧ (∀ b o, b < W.heap.size → w1.frozen? ⟨b, o, none⟩ = W.frozen? ⟨b, o, none⟩) :=
  ⟨fun b o h => hb.cell (p := ⟨b, o, none⟩) h, fun b o h => hb.frozen (p := ⟨b, o, none⟩) h⟩
/-- block g of a world is the comparisons' names -/
def namesAt (w : World) (g : Nat) : Prop :=
  w.heap[g]? = some (.cells #[.string (cmpB 0), .string (cmpB 1), .string (cmpB 2), .string (cmpB 3), .string (cmpB 4), .string (cmpB 5), .string (cmpB 6)] 9 (0, 0))
theorem namesAt.lt {w : World} {g : Nat} (h : namesAt w g) : g < w.heap.size := by
  unfold namesAt at h
  rcases Nat.lt_or_ge g w.heap.size with h1 | h1
  · exact h1
  · rw [Array.getElem?_eq_none h1] at h; cases h
theorem namesAt.cell {w : World} {g : Nat} (h : namesAt w g) (k : Nat) (hk : k < 7) : w.cell? ⟨g, k, none⟩ = some (.string (cmpB k)) := by
  unfold namesAt at h
  have hc : k = 0 ∨ k = 1 ∨ k = 2 ∨ k = 3 ∨ k = 4 ∨ k = 5 ∨ k = 6 := by omega
  rcases hc with rfl | rfl | rfl | rfl | rfl | rfl | rfl <;> simp [World.cell?, h]
theorem namesAt.below {w w' : World} {g : Nat} (h : namesAt w g) (hb : Below w.heap.size w w') : namesAt w' g := by
  have := h.lt
  unfold namesAt at *
  rw [hb.block g this]; exact h
theorem tyAt.alloc {w : World} {g : Nat} {sz : Int} {sg : Bool} (h : tyAt w g sz sg) (o : Obj) : tyAt (w.alloc o) g sz sg :=
  h.below ((Below.refl _ _).alloc (Nat.le_refl _) _)
theorem cmp_sum (sg : Bool) (x y : Int) : cmpS 2 sg x y + cmpS 5 sg x y = 1 := by
  simp only [cmpS]; split <;> split <;> omega
theorem cmp_turn (sg : Bool) (x y : Int) : cmpS 3 sg y x = cmpS 2 sg x y := rfl
theorem cmp_in (op : Nat) (sg : Bool) (x y : Int) : 0 ≤ cmpS op sg x y ∧ cmpS op sg x y ≤ 1 := by
  unfold cmpS; split <;> (try split) <;> omega
theorem fits_walk (h0 h1 a b : Int) (w : World) (i0 : In64 h0) (i1 : In64 h1) (ia : In64 a) (ib : In64 b) :
    Calls Try.prog 4 #[.agg #[.int .i64 h0, .int .i64 h1], .int .i64 a, .int .i64 b] w fun e w' => e = .returned (.bool true) ∧ Below w.heap.size w w' := by
  have hz := tySz_size h0
  have T := fun w => type_any h0 w i0
  generalize tySz h0 = sz at *
  generalize tySg h0 = sg at *
  have F1 := fun w => fit_any sz a sg w hz ia
  have F2 := fun w => fit_any sz b sg w hz ib
  have R1 := fun w => rfit_any sz a sg w hz ia
  have ex := fitS_idem (sg := sg) (n := a) hz
  have ix := fitS_in (sg := sg) (n := a) hz
  have iy := fitS_in (sg := sg) (n := b) hz
  have F3 := fun w => fit_any sz (fitS sz sg a) sg w hz ix
  rw [ex] at F3
  generalize fitS sz sg a = x at *
  generalize fitS sz sg b = y at *
  have C := fun op w (h : op < 7) => cmp_any op h sz x y sg w ix iy
  have R := fun op w (h : op < 7) => rcmp_any op h sz x y sg w ix iy
  have Cl := fun w => C 2 w (by decide)
  have Cg := fun w => C 5 w (by decide)
  have Ct := fun w => cmp_any 3 (by decide) sz y x sg w iy ix
  rw [cmp_turn] at Ct
  have hs := cmp_sum sg x y
  have hi2 := cmp_in 2 sg x y
  have hi5 := cmp_in 5 sg x y
  simp only [cmpB] at Cl Cg Ct
  generalize cmpS 2 sg x y = l at *
  generalize cmpS 5 sg x y = m at *
  have T := Lib.hid T
  have F1 := Lib.hid F1
  have F2 := Lib.hid F2
  have F3 := Lib.hid F3
  have R1 := Lib.hid R1
  have C := Lib.hid C
  have R := Lib.hid R
  have Cl := Lib.hid Cl
  have Cg := Lib.hid Cg
  have Ct := Lib.hid Ct
  rename_i T' F1' F2' F3' R1' C' R' Cl' Cg' Ct'
  clear T' F1' F2' F3' R1' C' R' Cl' Cg' Ct' i0 i1 ia ib ix iy hz ex
  have hs := Lib.hid hs
  rename_i hs'
  clear hs'
  go_enter Try.func4, Try.ntmps4
  go_wp2_with fail
  refine (fit_law _).mono ?_
  rintro e w1 ⟨rfl, hb1⟩
  have kb1 := below_new hb1
  obtain ⟨hc1, hf1⟩ := bcell hb1
  have hz1 : w.heap.size < w1.heap.size := by have := hb1.size; simp at this; omega
  go_wp2_with fail
  refine (T.out _).mono ?_
  rintro e w2 ⟨rfl, hb2⟩
  have kb2 := below_alloc (.cells #[.int .i64 1, .int .i64 sz, .bool sg, .bool false, .pointer none, .int .i64 0, .int .i64 0, .slice none 0 0, .pointer none] 27) (kb1.bt hb2)
  have ht2 := tyAt.new w2 sz sg
  clear hc1 hf1
  go_wp2_with fail
  refine wp_region_over (by kernel_rfl) (by kernel_rfl) ?_
  repeat (go_big_quiet_step (first | (go_at_call_of 13 (Value.int IntKind.i64 a); exact calls_over (by first | exact Nat.le_refl _ | simp) (F1.out _)) | (go_at_call_of 13 (Value.int IntKind.i64 b); exact calls_over (by first | exact Nat.le_refl _ | simp) (F2.out _))))
  refine wpQuiet_nil ?_
  intro w3 hb3
  have kb3 := kb2.bt hb3
  have ht3 := ht2.below hb3
  clear kb2 ht2 hb3 hb2 kb1 hb1
  generalize w2.heap.size = g at *
  have hlt := ht3.lt
  obtain ⟨c0, c1, c2, c3, c4, c5, c6, c7, c8⟩ := ht3.cells
  go_wp2_with fail
  refine (R1.out _).mono ?_
  rintro e w4 ⟨rfl, hb4⟩
  have kb4 := kb3.bt hb4
  have ht4 := ht3.below hb4
  clear kb3 ht3 hb4 hlt c0 c1 c2 c3 c4 c5 c6 c7 c8
  have hlt := ht4.lt
  obtain ⟨c0, c1, c2, c3, c4, c5, c6, c7, c8⟩ := ht4.cells
  go_wp2_with fail
  refine (F3.out _).mono ?_
  rintro e w5 ⟨rfl, hb5⟩
  have kb5 := kb4.bt hb5
  have ht5 := ht4.below hb5
  clear kb4 ht4 hb5 hlt c0 c1 c2 c3 c4 c5 c6 c7 c8
  have hlt := ht5.lt
  obtain ⟨c0, c1, c2, c3, c4, c5, c6, c7, c8⟩ := ht5.cells
  go_wp2_with fail
  have hn : namesAt (w5.alloc (.cells #[.string (cmpB 0), .string (cmpB 1), .string (cmpB 2), .string (cmpB 3), .string (cmpB 4), .string (cmpB 5), .string (cmpB 6)] 9)) w5.heap.size := by
    show (w5.heap.push _)[w5.heap.size]? = _
    simp
  generalize hgs : w5.heap.size = gs at *
  have hgs := Lib.hid hgs
  rename_i hgs'
  clear hgs' hlt c0 c1 c2 c3 c4 c5 c6 c7 c8
  go_loopw [37] (fun i wr => ∃ k : Nat, k ≤ 7 ∧ i = .int .i64 k ∧ tyAt wr g sz sg ∧ namesAt wr gs ∧ Below w.heap.size w wr) (fun i _ => 7 - (intOf i).toNat)
  case atStart => exact ⟨0, by omega, rfl, ht5.alloc _, hn, below_alloc _ kb5⟩
  case round =>
    obtain ⟨k, hk, rfl, ht, hna, kb⟩ := hrel
    obtain ⟨c0, c1, c2, c3, c4, c5, c6, c7, c8⟩ := ht.cells
    have hlt := ht.lt
    by_cases hlk : k < 7
    · have cn := hna.cell k hlk
      have hln := hna.lt
      go_wp2_with fail
      refine wp_region_over (by kernel_rfl) (by kernel_rfl) ?_
      repeat (go_big_quiet_step (first | (go_at_call 14; exact calls_over (by first | exact Nat.le_refl _ | simp) (C.out k _ hlk)) | (go_at_call 15; exact calls_over (by first | exact Nat.le_refl _ | simp) (R.out k _ hlk))))
      refine wpQuiet_nil ?_
      intro w6 hb6
      have kb6 := kb.bt hb6
      have ht6 := ht.below hb6
      have hn6 := hna.below hb6
      clear kb ht hna hb6 c0 c1 c2 c3 c4 c5 c6 c7 c8 cn hlt hln
      go_wp2_with fail
      go_roundw
      case rel => exact ⟨k + 1, by omega, by go_num, ht6, hn6, kb6⟩
      case measure => simp [intOf]; omega
    · have e : k = 7 := by omega
      subst e
      have hs := hs.out
      have hc2 : l = 1 ∧ m = 0 ∨ l = 0 ∧ m = 1 := by omega
      clear hs hi2 hi5
      rcases hc2 with ⟨rfl, rfl⟩ | ⟨rfl, rfl⟩
      all_goals
        go_wp2_with fail
        refine wp_region_over (by kernel_rfl) (by kernel_rfl) ?_
        repeat (go_big_quiet_step (first | (go_at_call_of 14 (Value.string { data := #[60] }); exact calls_over (by first | exact Nat.le_refl _ | simp) (Cl.out _)) | (go_at_call_of 14 (Value.string { data := #[62, 61] }); exact calls_over (by first | exact Nat.le_refl _ | simp) (Cg.out _)) | (go_at_call_of 14 (Value.string { data := #[62] }); exact calls_over (by first | exact Nat.le_refl _ | simp) (Ct.out _))))
        refine wpQuiet_nil ?_
        intro w7 hb7
        have kb7 := kb.bt hb7
        go_wp2_with fail
        go_returns
        exact ⟨rfl, kb7⟩
end Go.Proofs.Ytaijipapdbahkaa
