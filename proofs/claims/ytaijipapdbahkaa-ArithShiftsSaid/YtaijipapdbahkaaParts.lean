/- The walk of ArithParts: the law answers true, whatever the numbers. No condition. -/
import Derived.Test.YtaijipapdbahkaaExa
import Derived.Test.YtaijipapdbahkaaLaws
namespace Go.Proofs.Ytaijipapdbahkaa
open Go.RowKit
set_option linter.unusedVariables false
/-- block g of a world is a type's nine cells -/
def tyAt (w : World) (g : Nat) (sz : Int) (sg : Bool) : Prop :=
  w.heap[g]? = some (.cells #[.int .i64 1, .int .i64 sz, .bool sg, .bool false, .pointer none, .int .i64 0, .int .i64 0, .slice none 0 0, .pointer none] 27 (0, 0))
theorem tyAt.lt {w : World} {g : Nat} {sz : Int} {sg : Bool} (h : tyAt w g sz sg) : g < w.heap.size := by
  unfold tyAt at h
  rcases Nat.lt_or_ge g w.heap.size with h1 | h1
  · exact h1
  · rw [Array.getElem?_eq_none h1] at h; cases h
theorem tyAt.cells {w : World} {g : Nat} {sz : Int} {sg : Bool} (h : tyAt w g sz sg) :
    w.cell? ⟨g, 0, none⟩ = some (.int .i64 1) ∧ w.cell? ⟨g, 1, none⟩ = some (.int .i64 sz) ∧ w.cell? ⟨g, 2, none⟩ = some (.bool sg) ∧
    w.cell? ⟨g, 3, none⟩ = some (.bool false) ∧ w.cell? ⟨g, 4, none⟩ = some (.pointer none) ∧ w.cell? ⟨g, 5, none⟩ = some (.int .i64 0) ∧
    w.cell? ⟨g, 6, none⟩ = some (.int .i64 0) ∧ w.cell? ⟨g, 7, none⟩ = some (.slice none 0 0) ∧ w.cell? ⟨g, 8, none⟩ = some (.pointer none) := by
  unfold tyAt at h
  simp [World.cell?, h]
theorem tyAt.below {w w' : World} {g : Nat} {sz : Int} {sg : Bool} (h : tyAt w g sz sg) (hb : Below w.heap.size w w') : tyAt w' g sz sg := by
  have := h.lt
  unfold tyAt at *
  rw [hb.block g this]; exact h
theorem tyAt.new (w : World) (sz : Int) (sg : Bool) :
    tyAt (w.alloc (.cells #[.int .i64 1, .int .i64 sz, .bool sg, .bool false, .pointer none, .int .i64 0, .int .i64 0, .slice none 0 0, .pointer none] 27)) w.heap.size sz sg := by
  show (w.heap.push _)[w.heap.size]? = _
  simp
theorem below_alloc {w w1 : World} (o : Obj) (h : Below w.heap.size w w1) : Below w.heap.size w (w1.alloc o) := h.alloc h.size o
set_option maxHeartbeats 1000000
theorem parts_walk (h0 a b : Int) (w : World) (i0 : In64 h0) (ia : In64 a) (ib : In64 b) :
    Calls Try.prog 5 #[.int .i64 h0, .int .i64 a, .int .i64 b] w fun e w' => e = .returned (.bool true) ∧ Below w.heap.size w w' := by
  have hz := tySz_size h0
  have T := fun w => type_any h0 w i0
  generalize tySz h0 = sz at *
  generalize tySg h0 = sg at *
  have F1 := fun w => fit_any sz a sg w hz ia
  have F2 := fun w => fit_any sz b sg w hz ib
  have ex := fitS_idem (sg := sg) (n := a) hz
  have ey := fitS_idem (sg := sg) (n := b) hz
  have ix := fitS_in (sg := sg) (n := a) hz
  have iy := fitS_in (sg := sg) (n := b) hz
  generalize fitS sz sg a = x at *
  generalize fitS sz sg b = y at *
  have B8 := fun w => bin_any 8 (by decide) sz x y sg w hz ix iy
  have B9 := fun w => bin_any 9 (by decide) sz x y sg w hz ix iy
  have Bp := fun q w (hq : In64 q) => bin_any 2 (by decide) sz q y sg w hz hq iy
  have Bs := fun p r w (hp : In64 p) (hr : In64 r) => bin_any 0 (by decide) sz p r sg w hz hp hr
  have Bw := fun u w (hu : In64 u) => bin_any 1 (by decide) sz u y sg w hz hu iy
  have e9 := quo_ok sz sg x y
  have es := parts_s sz sg x y hz ex
  have ew := parts_w sz sg x y hz ex
  have hq : In64 (quoS 8 sz sg x y).1 := quo_In 8 sz sg x y hz
  have hr : In64 (quoS 9 sz sg x y).1 := quo_In 9 sz sg x y hz
  have hok : (quoS 8 sz sg x y).2 = !(y == 0 || (sz == 8 && sg && x == -9223372036854775808 && y == -1)) := by
    unfold quoS
    by_cases hy0 : y = 0
    · simp [hy0]
    · cases sg
      · simp [hy0]
      · by_cases h8 : sz = 8 ∧ x = -9223372036854775808 ∧ y = -1
        · simp [h8]
        · rw [if_neg (by simp [hy0]), if_neg (by simp), if_neg h8]
          by_cases hs : sz = 8
          · by_cases hxx : x = -9223372036854775808
            · have : y ≠ -1 := fun e => h8 ⟨hs, hxx, e⟩
              simp [hy0, this]
            · simp [hy0, hxx]
          · simp [hy0, hs]
  simp only [binS, opB] at B8 B9 Bp Bs Bw
  rw [e9] at B9
  have A9 : ∀ w, Calls Try.prog 11 #[.string ⟨#[37]⟩, .agg #[.int .i64 1, .int .i64 sz, .bool sg, .bool false, .pointer none, .int .i64 0, .int .i64 0, .slice none 0 0, .pointer none], .int .i64 x, .int .i64 y] w
      fun e w' => e = .returned (.tuple #[.int .i64 (quoS 9 sz sg x y).1, .bool (quoS 8 sz sg x y).2]) ∧ Below w.heap.size w w' := B9
  have A8 : ∀ w, Calls Try.prog 11 #[.string ⟨#[47]⟩, .agg #[.int .i64 1, .int .i64 sz, .bool sg, .bool false, .pointer none, .int .i64 0, .int .i64 0, .slice none 0 0, .pointer none], .int .i64 x, .int .i64 y] w
      fun e w' => e = .returned (.tuple #[.int .i64 (quoS 8 sz sg x y).1, .bool (quoS 8 sz sg x y).2]) ∧ Below w.heap.size w w' := B8
  clear B8 B9 e9
  generalize (quoS 8 sz sg x y).1 = q at *
  generalize (quoS 8 sz sg x y).2 = ok at *
  generalize (quoS 9 sz sg x y).1 = r at *
  have Ap := fun w => Bp q w hq
  have ip := fitS_in (sg := sg) (n := q * y) hz
  generalize fitS sz sg (q * y) = p at *
  have As := fun w => Bs p r w ip hr
  generalize fitS sz sg (p + r) = s at *
  have Au := fun w => Bs x y w ix iy
  have Av := fun w => Bs y x w iy ix
  have iu := fitS_in (sg := sg) (n := x + y) hz
  rw [Int.add_comm y x] at Av
  generalize fitS sz sg (x + y) = u at *
  have Aw := fun w => Bw u w iu
  rw [ew] at Aw
  clear Bp Bs Bw ew ex ey
  have T := Lib.hid T
  have F1 := Lib.hid F1
  have F2 := Lib.hid F2
  have A8 := Lib.hid A8
  have A9 := Lib.hid A9
  have Ap := Lib.hid Ap
  have As := Lib.hid As
  have Au := Lib.hid Au
  have Av := Lib.hid Av
  have Aw := Lib.hid Aw
  rename_i T' F1' F2' A8' A9' Ap' As' Au' Av' Aw'
  clear T' F1' F2' A8' A9' Ap' As' Au' Av' Aw' i0 ia ib ix iy hz hq hr ip iu
  cases ok with
  | false =>
    have hc : y = 0 ∨ (sz = 8 ∧ sg = true ∧ x = -9223372036854775808 ∧ y = -1) := by
      by_cases h0 : y = 0
      · exact Or.inl h0
      · right; simpa [h0, and_assoc] using hok
    clear hok es
    rcases hc with rfl | ⟨rfl, rfl, rfl, rfl⟩
    · go_enter Try.func5, Try.ntmps5
      go_wp2_with fail
      refine (fit_law _).mono ?_
      rintro e w1 ⟨rfl, hb1⟩
      go_wp2_with fail
      refine (T.out _).mono ?_
      rintro e w2 ⟨rfl, hb2⟩
      go_wp2_with fail
      have kb2 := below_alloc (.cells #[.int .i64 1, .int .i64 sz, .bool sg, .bool false, .pointer none, .int .i64 0, .int .i64 0, .slice none 0 0, .pointer none] 27) (hb1.bt hb2)
      have ht2 := tyAt.new w2 sz sg
      clear hb1 hb2
      refine wp_region_over (by kernel_rfl) (by kernel_rfl) ?_
      repeat (go_big_quiet_step (first | (go_at_call_of 13 (Value.int IntKind.i64 a); exact calls_over (by first | exact Nat.le_refl _ | simp) (F1.out _)) | (go_at_call_of 13 (Value.int IntKind.i64 b); exact calls_over (by first | exact Nat.le_refl _ | simp) (F2.out _))))
      refine wpQuiet_nil ?_
      intro w3 hb3
      have kb3 := kb2.bt hb3
      have ht3 := ht2.below hb3
      clear kb2 ht2 hb3
      generalize w2.heap.size = g at *
      have hlt := ht3.lt
      obtain ⟨c0, c1, c2, c3, c4, c5, c6, c7, c8⟩ := ht3.cells
      go_wp2_with fail
      refine (A8.out _).mono ?_
      rintro e w4 ⟨rfl, hb4⟩
      have kb4 := kb3.bt hb4
      have ht4 := ht3.below hb4
      clear kb3 ht3 hb4 hlt c0 c1 c2 c3 c4 c5 c6 c7 c8
      have hlt := ht4.lt
      obtain ⟨c0, c1, c2, c3, c4, c5, c6, c7, c8⟩ := ht4.cells
      go_wp2_with fail
      refine (A9.out _).mono ?_
      rintro e w5 ⟨rfl, hb5⟩
      have kb5 := kb4.bt hb5
      have ht5 := ht4.below hb5
      clear kb4 ht4 hb5 hlt c0 c1 c2 c3 c4 c5 c6 c7 c8
      have hlt := ht5.lt
      obtain ⟨c0, c1, c2, c3, c4, c5, c6, c7, c8⟩ := ht5.cells
      go_wp2_with fail
      refine (Ap.out _).mono ?_
      rintro e w6 ⟨rfl, hb6⟩
      have kb6 := kb5.bt hb6
      have ht6 := ht5.below hb6
      clear kb5 ht5 hb6 hlt c0 c1 c2 c3 c4 c5 c6 c7 c8
      have hlt := ht6.lt
      obtain ⟨c0, c1, c2, c3, c4, c5, c6, c7, c8⟩ := ht6.cells
      go_wp2_with fail
      refine (As.out _).mono ?_
      rintro e w7 ⟨rfl, hb7⟩
      have kb7 := kb6.bt hb7
      have ht7 := ht6.below hb7
      clear kb6 ht6 hb7 hlt c0 c1 c2 c3 c4 c5 c6 c7 c8
      have hlt := ht7.lt
      obtain ⟨c0, c1, c2, c3, c4, c5, c6, c7, c8⟩ := ht7.cells
      go_wp2_with fail
      refine (Au.out _).mono ?_
      rintro e w8 ⟨rfl, hb8⟩
      have kb8 := kb7.bt hb8
      have ht8 := ht7.below hb8
      clear kb7 ht7 hb8 hlt c0 c1 c2 c3 c4 c5 c6 c7 c8
      have hlt := ht8.lt
      obtain ⟨c0, c1, c2, c3, c4, c5, c6, c7, c8⟩ := ht8.cells
      go_wp2_with fail
      refine (Av.out _).mono ?_
      rintro e w9 ⟨rfl, hb9⟩
      have kb9 := kb8.bt hb9
      have ht9 := ht8.below hb9
      clear kb8 ht8 hb9 hlt c0 c1 c2 c3 c4 c5 c6 c7 c8
      have hlt := ht9.lt
      obtain ⟨c0, c1, c2, c3, c4, c5, c6, c7, c8⟩ := ht9.cells
      go_wp2_with fail
      refine (Aw.out _).mono ?_
      rintro e w10 ⟨rfl, hb10⟩
      have kb10 := kb9.bt hb10
      have ht10 := ht9.below hb10
      clear kb9 ht9 hb10 hlt c0 c1 c2 c3 c4 c5 c6 c7 c8
      have hlt := ht10.lt
      obtain ⟨c0, c1, c2, c3, c4, c5, c6, c7, c8⟩ := ht10.cells
      go_wp2_with fail
      go_returns
      exact ⟨rfl, kb10⟩
    · go_enter Try.func5, Try.ntmps5
      go_wp2_with fail
      refine (fit_law _).mono ?_
      rintro e w1 ⟨rfl, hb1⟩
      go_wp2_with fail
      refine (T.out _).mono ?_
      rintro e w2 ⟨rfl, hb2⟩
      go_wp2_with fail
      have kb2 := below_alloc (.cells #[.int .i64 1, .int .i64 8, .bool true, .bool false, .pointer none, .int .i64 0, .int .i64 0, .slice none 0 0, .pointer none] 27) (hb1.bt hb2)
      have ht2 := tyAt.new w2 8 true
      clear hb1 hb2
      refine wp_region_over (by kernel_rfl) (by kernel_rfl) ?_
      repeat (go_big_quiet_step (first | (go_at_call_of 13 (Value.int IntKind.i64 a); exact calls_over (by first | exact Nat.le_refl _ | simp) (F1.out _)) | (go_at_call_of 13 (Value.int IntKind.i64 b); exact calls_over (by first | exact Nat.le_refl _ | simp) (F2.out _))))
      refine wpQuiet_nil ?_
      intro w3 hb3
      have kb3 := kb2.bt hb3
      have ht3 := ht2.below hb3
      clear kb2 ht2 hb3
      generalize w2.heap.size = g at *
      have hlt := ht3.lt
      obtain ⟨c0, c1, c2, c3, c4, c5, c6, c7, c8⟩ := ht3.cells
      go_wp2_with fail
      refine (A8.out _).mono ?_
      rintro e w4 ⟨rfl, hb4⟩
      have kb4 := kb3.bt hb4
      have ht4 := ht3.below hb4
      clear kb3 ht3 hb4 hlt c0 c1 c2 c3 c4 c5 c6 c7 c8
      have hlt := ht4.lt
      obtain ⟨c0, c1, c2, c3, c4, c5, c6, c7, c8⟩ := ht4.cells
      go_wp2_with fail
      refine (A9.out _).mono ?_
      rintro e w5 ⟨rfl, hb5⟩
      have kb5 := kb4.bt hb5
      have ht5 := ht4.below hb5
      clear kb4 ht4 hb5 hlt c0 c1 c2 c3 c4 c5 c6 c7 c8
      have hlt := ht5.lt
      obtain ⟨c0, c1, c2, c3, c4, c5, c6, c7, c8⟩ := ht5.cells
      go_wp2_with fail
      refine (Ap.out _).mono ?_
      rintro e w6 ⟨rfl, hb6⟩
      have kb6 := kb5.bt hb6
      have ht6 := ht5.below hb6
      clear kb5 ht5 hb6 hlt c0 c1 c2 c3 c4 c5 c6 c7 c8
      have hlt := ht6.lt
      obtain ⟨c0, c1, c2, c3, c4, c5, c6, c7, c8⟩ := ht6.cells
      go_wp2_with fail
      refine (As.out _).mono ?_
      rintro e w7 ⟨rfl, hb7⟩
      have kb7 := kb6.bt hb7
      have ht7 := ht6.below hb7
      clear kb6 ht6 hb7 hlt c0 c1 c2 c3 c4 c5 c6 c7 c8
      have hlt := ht7.lt
      obtain ⟨c0, c1, c2, c3, c4, c5, c6, c7, c8⟩ := ht7.cells
      go_wp2_with fail
      refine (Au.out _).mono ?_
      rintro e w8 ⟨rfl, hb8⟩
      have kb8 := kb7.bt hb8
      have ht8 := ht7.below hb8
      clear kb7 ht7 hb8 hlt c0 c1 c2 c3 c4 c5 c6 c7 c8
      have hlt := ht8.lt
      obtain ⟨c0, c1, c2, c3, c4, c5, c6, c7, c8⟩ := ht8.cells
      go_wp2_with fail
      refine (Av.out _).mono ?_
      rintro e w9 ⟨rfl, hb9⟩
      have kb9 := kb8.bt hb9
      have ht9 := ht8.below hb9
      clear kb8 ht8 hb9 hlt c0 c1 c2 c3 c4 c5 c6 c7 c8
      have hlt := ht9.lt
      obtain ⟨c0, c1, c2, c3, c4, c5, c6, c7, c8⟩ := ht9.cells
      go_wp2_with fail
      refine (Aw.out _).mono ?_
      rintro e w10 ⟨rfl, hb10⟩
      have kb10 := kb9.bt hb10
      have ht10 := ht9.below hb10
      clear kb9 ht9 hb10 hlt c0 c1 c2 c3 c4 c5 c6 c7 c8
      have hlt := ht10.lt
      obtain ⟨c0, c1, c2, c3, c4, c5, c6, c7, c8⟩ := ht10.cells
      go_wp2_with fail
      go_returns
      exact ⟨rfl, kb10⟩
  | true =>
    have hs := es rfl
    have hc : y ≠ 0 ∧ (sz ≠ 8 ∨ (sz = 8 ∧ sg = false) ∨ (sz = 8 ∧ sg = true ∧ x ≠ -9223372036854775808) ∨ (sz = 8 ∧ sg = true ∧ x = -9223372036854775808 ∧ y ≠ -1)) := by
      constructor
      · intro e; subst e; simp at hok
      · by_cases h8 : sz = 8
        · cases sg
          · exact Or.inr (Or.inl ⟨h8, rfl⟩)
          · by_cases hx : x = -9223372036854775808
            · refine Or.inr (Or.inr (Or.inr ⟨h8, rfl, hx, ?_⟩))
              intro e; subst e; simp [h8, hx] at hok
            · exact Or.inr (Or.inr (Or.inl ⟨h8, rfl, hx⟩))
        · exact Or.inl h8
    clear hok es
    subst hs
    obtain ⟨hy0, hc⟩ := hc
    have hyf : (y == 0) = false := by simpa using hy0
    rcases hc with h8 | ⟨rfl, rfl⟩ | ⟨rfl, rfl, hx⟩ | ⟨rfl, rfl, rfl, hy⟩
    · have h9 : (sz == 8) = false := by simpa using h8
      go_enter Try.func5, Try.ntmps5
      go_wp2_with fail
      refine (fit_law _).mono ?_
      rintro e w1 ⟨rfl, hb1⟩
      go_wp2_with fail
      refine (T.out _).mono ?_
      rintro e w2 ⟨rfl, hb2⟩
      go_wp2_with fail
      have kb2 := below_alloc (.cells #[.int .i64 1, .int .i64 sz, .bool sg, .bool false, .pointer none, .int .i64 0, .int .i64 0, .slice none 0 0, .pointer none] 27) (hb1.bt hb2)
      have ht2 := tyAt.new w2 sz sg
      clear hb1 hb2
      refine wp_region_over (by kernel_rfl) (by kernel_rfl) ?_
      repeat (go_big_quiet_step (first | (go_at_call_of 13 (Value.int IntKind.i64 a); exact calls_over (by first | exact Nat.le_refl _ | simp) (F1.out _)) | (go_at_call_of 13 (Value.int IntKind.i64 b); exact calls_over (by first | exact Nat.le_refl _ | simp) (F2.out _))))
      refine wpQuiet_nil ?_
      intro w3 hb3
      have kb3 := kb2.bt hb3
      have ht3 := ht2.below hb3
      clear kb2 ht2 hb3
      generalize w2.heap.size = g at *
      have hlt := ht3.lt
      obtain ⟨c0, c1, c2, c3, c4, c5, c6, c7, c8⟩ := ht3.cells
      go_wp2_with fail
      refine (A8.out _).mono ?_
      rintro e w4 ⟨rfl, hb4⟩
      have kb4 := kb3.bt hb4
      have ht4 := ht3.below hb4
      clear kb3 ht3 hb4 hlt c0 c1 c2 c3 c4 c5 c6 c7 c8
      have hlt := ht4.lt
      obtain ⟨c0, c1, c2, c3, c4, c5, c6, c7, c8⟩ := ht4.cells
      go_wp2_with fail
      refine (A9.out _).mono ?_
      rintro e w5 ⟨rfl, hb5⟩
      have kb5 := kb4.bt hb5
      have ht5 := ht4.below hb5
      clear kb4 ht4 hb5 hlt c0 c1 c2 c3 c4 c5 c6 c7 c8
      have hlt := ht5.lt
      obtain ⟨c0, c1, c2, c3, c4, c5, c6, c7, c8⟩ := ht5.cells
      go_wp2_with fail
      refine (Ap.out _).mono ?_
      rintro e w6 ⟨rfl, hb6⟩
      have kb6 := kb5.bt hb6
      have ht6 := ht5.below hb6
      clear kb5 ht5 hb6 hlt c0 c1 c2 c3 c4 c5 c6 c7 c8
      have hlt := ht6.lt
      obtain ⟨c0, c1, c2, c3, c4, c5, c6, c7, c8⟩ := ht6.cells
      go_wp2_with fail
      refine (As.out _).mono ?_
      rintro e w7 ⟨rfl, hb7⟩
      have kb7 := kb6.bt hb7
      have ht7 := ht6.below hb7
      clear kb6 ht6 hb7 hlt c0 c1 c2 c3 c4 c5 c6 c7 c8
      have hlt := ht7.lt
      obtain ⟨c0, c1, c2, c3, c4, c5, c6, c7, c8⟩ := ht7.cells
      go_wp2_with fail
      refine (Au.out _).mono ?_
      rintro e w8 ⟨rfl, hb8⟩
      have kb8 := kb7.bt hb8
      have ht8 := ht7.below hb8
      clear kb7 ht7 hb8 hlt c0 c1 c2 c3 c4 c5 c6 c7 c8
      have hlt := ht8.lt
      obtain ⟨c0, c1, c2, c3, c4, c5, c6, c7, c8⟩ := ht8.cells
      go_wp2_with fail
      refine (Av.out _).mono ?_
      rintro e w9 ⟨rfl, hb9⟩
      have kb9 := kb8.bt hb9
      have ht9 := ht8.below hb9
      clear kb8 ht8 hb9 hlt c0 c1 c2 c3 c4 c5 c6 c7 c8
      have hlt := ht9.lt
      obtain ⟨c0, c1, c2, c3, c4, c5, c6, c7, c8⟩ := ht9.cells
      go_wp2_with fail
      refine (Aw.out _).mono ?_
      rintro e w10 ⟨rfl, hb10⟩
      have kb10 := kb9.bt hb10
      have ht10 := ht9.below hb10
      clear kb9 ht9 hb10 hlt c0 c1 c2 c3 c4 c5 c6 c7 c8
      have hlt := ht10.lt
      obtain ⟨c0, c1, c2, c3, c4, c5, c6, c7, c8⟩ := ht10.cells
      go_wp2_with fail
      go_returns
      exact ⟨rfl, kb10⟩
    · go_enter Try.func5, Try.ntmps5
      go_wp2_with fail
      refine (fit_law _).mono ?_
      rintro e w1 ⟨rfl, hb1⟩
      go_wp2_with fail
      refine (T.out _).mono ?_
      rintro e w2 ⟨rfl, hb2⟩
      go_wp2_with fail
      have kb2 := below_alloc (.cells #[.int .i64 1, .int .i64 8, .bool false, .bool false, .pointer none, .int .i64 0, .int .i64 0, .slice none 0 0, .pointer none] 27) (hb1.bt hb2)
      have ht2 := tyAt.new w2 8 false
      clear hb1 hb2
      refine wp_region_over (by kernel_rfl) (by kernel_rfl) ?_
      repeat (go_big_quiet_step (first | (go_at_call_of 13 (Value.int IntKind.i64 a); exact calls_over (by first | exact Nat.le_refl _ | simp) (F1.out _)) | (go_at_call_of 13 (Value.int IntKind.i64 b); exact calls_over (by first | exact Nat.le_refl _ | simp) (F2.out _))))
      refine wpQuiet_nil ?_
      intro w3 hb3
      have kb3 := kb2.bt hb3
      have ht3 := ht2.below hb3
      clear kb2 ht2 hb3
      generalize w2.heap.size = g at *
      have hlt := ht3.lt
      obtain ⟨c0, c1, c2, c3, c4, c5, c6, c7, c8⟩ := ht3.cells
      go_wp2_with fail
      refine (A8.out _).mono ?_
      rintro e w4 ⟨rfl, hb4⟩
      have kb4 := kb3.bt hb4
      have ht4 := ht3.below hb4
      clear kb3 ht3 hb4 hlt c0 c1 c2 c3 c4 c5 c6 c7 c8
      have hlt := ht4.lt
      obtain ⟨c0, c1, c2, c3, c4, c5, c6, c7, c8⟩ := ht4.cells
      go_wp2_with fail
      refine (A9.out _).mono ?_
      rintro e w5 ⟨rfl, hb5⟩
      have kb5 := kb4.bt hb5
      have ht5 := ht4.below hb5
      clear kb4 ht4 hb5 hlt c0 c1 c2 c3 c4 c5 c6 c7 c8
      have hlt := ht5.lt
      obtain ⟨c0, c1, c2, c3, c4, c5, c6, c7, c8⟩ := ht5.cells
      go_wp2_with fail
      refine (Ap.out _).mono ?_
      rintro e w6 ⟨rfl, hb6⟩
      have kb6 := kb5.bt hb6
      have ht6 := ht5.below hb6
      clear kb5 ht5 hb6 hlt c0 c1 c2 c3 c4 c5 c6 c7 c8
      have hlt := ht6.lt
      obtain ⟨c0, c1, c2, c3, c4, c5, c6, c7, c8⟩ := ht6.cells
      go_wp2_with fail
      refine (As.out _).mono ?_
      rintro e w7 ⟨rfl, hb7⟩
      have kb7 := kb6.bt hb7
      have ht7 := ht6.below hb7
      clear kb6 ht6 hb7 hlt c0 c1 c2 c3 c4 c5 c6 c7 c8
      have hlt := ht7.lt
      obtain ⟨c0, c1, c2, c3, c4, c5, c6, c7, c8⟩ := ht7.cells
      go_wp2_with fail
      refine (Au.out _).mono ?_
      rintro e w8 ⟨rfl, hb8⟩
      have kb8 := kb7.bt hb8
      have ht8 := ht7.below hb8
      clear kb7 ht7 hb8 hlt c0 c1 c2 c3 c4 c5 c6 c7 c8
      have hlt := ht8.lt
      obtain ⟨c0, c1, c2, c3, c4, c5, c6, c7, c8⟩ := ht8.cells
      go_wp2_with fail
      refine (Av.out _).mono ?_
      rintro e w9 ⟨rfl, hb9⟩
      have kb9 := kb8.bt hb9
      have ht9 := ht8.below hb9
      clear kb8 ht8 hb9 hlt c0 c1 c2 c3 c4 c5 c6 c7 c8
      have hlt := ht9.lt
      obtain ⟨c0, c1, c2, c3, c4, c5, c6, c7, c8⟩ := ht9.cells
      go_wp2_with fail
      refine (Aw.out _).mono ?_
      rintro e w10 ⟨rfl, hb10⟩
      have kb10 := kb9.bt hb10
      have ht10 := ht9.below hb10
      clear kb9 ht9 hb10 hlt c0 c1 c2 c3 c4 c5 c6 c7 c8
      have hlt := ht10.lt
      obtain ⟨c0, c1, c2, c3, c4, c5, c6, c7, c8⟩ := ht10.cells
      go_wp2_with fail
      go_returns
      exact ⟨rfl, kb10⟩
    · have h9 : (s == -9223372036854775808) = false := by simpa using hx
      go_enter Try.func5, Try.ntmps5
      go_wp2_with fail
      refine (fit_law _).mono ?_
      rintro e w1 ⟨rfl, hb1⟩
      go_wp2_with fail
      refine (T.out _).mono ?_
      rintro e w2 ⟨rfl, hb2⟩
      go_wp2_with fail
      have kb2 := below_alloc (.cells #[.int .i64 1, .int .i64 8, .bool true, .bool false, .pointer none, .int .i64 0, .int .i64 0, .slice none 0 0, .pointer none] 27) (hb1.bt hb2)
      have ht2 := tyAt.new w2 8 true
      clear hb1 hb2
      refine wp_region_over (by kernel_rfl) (by kernel_rfl) ?_
      repeat (go_big_quiet_step (first | (go_at_call_of 13 (Value.int IntKind.i64 a); exact calls_over (by first | exact Nat.le_refl _ | simp) (F1.out _)) | (go_at_call_of 13 (Value.int IntKind.i64 b); exact calls_over (by first | exact Nat.le_refl _ | simp) (F2.out _))))
      refine wpQuiet_nil ?_
      intro w3 hb3
      have kb3 := kb2.bt hb3
      have ht3 := ht2.below hb3
      clear kb2 ht2 hb3
      generalize w2.heap.size = g at *
      have hlt := ht3.lt
      obtain ⟨c0, c1, c2, c3, c4, c5, c6, c7, c8⟩ := ht3.cells
      go_wp2_with fail
      refine (A8.out _).mono ?_
      rintro e w4 ⟨rfl, hb4⟩
      have kb4 := kb3.bt hb4
      have ht4 := ht3.below hb4
      clear kb3 ht3 hb4 hlt c0 c1 c2 c3 c4 c5 c6 c7 c8
      have hlt := ht4.lt
      obtain ⟨c0, c1, c2, c3, c4, c5, c6, c7, c8⟩ := ht4.cells
      go_wp2_with fail
      refine (A9.out _).mono ?_
      rintro e w5 ⟨rfl, hb5⟩
      have kb5 := kb4.bt hb5
      have ht5 := ht4.below hb5
      clear kb4 ht4 hb5 hlt c0 c1 c2 c3 c4 c5 c6 c7 c8
      have hlt := ht5.lt
      obtain ⟨c0, c1, c2, c3, c4, c5, c6, c7, c8⟩ := ht5.cells
      go_wp2_with fail
      refine (Ap.out _).mono ?_
      rintro e w6 ⟨rfl, hb6⟩
      have kb6 := kb5.bt hb6
      have ht6 := ht5.below hb6
      clear kb5 ht5 hb6 hlt c0 c1 c2 c3 c4 c5 c6 c7 c8
      have hlt := ht6.lt
      obtain ⟨c0, c1, c2, c3, c4, c5, c6, c7, c8⟩ := ht6.cells
      go_wp2_with fail
      refine (As.out _).mono ?_
      rintro e w7 ⟨rfl, hb7⟩
      have kb7 := kb6.bt hb7
      have ht7 := ht6.below hb7
      clear kb6 ht6 hb7 hlt c0 c1 c2 c3 c4 c5 c6 c7 c8
      have hlt := ht7.lt
      obtain ⟨c0, c1, c2, c3, c4, c5, c6, c7, c8⟩ := ht7.cells
      go_wp2_with fail
      refine (Au.out _).mono ?_
      rintro e w8 ⟨rfl, hb8⟩
      have kb8 := kb7.bt hb8
      have ht8 := ht7.below hb8
      clear kb7 ht7 hb8 hlt c0 c1 c2 c3 c4 c5 c6 c7 c8
      have hlt := ht8.lt
      obtain ⟨c0, c1, c2, c3, c4, c5, c6, c7, c8⟩ := ht8.cells
      go_wp2_with fail
      refine (Av.out _).mono ?_
      rintro e w9 ⟨rfl, hb9⟩
      have kb9 := kb8.bt hb9
      have ht9 := ht8.below hb9
      clear kb8 ht8 hb9 hlt c0 c1 c2 c3 c4 c5 c6 c7 c8
      have hlt := ht9.lt
      obtain ⟨c0, c1, c2, c3, c4, c5, c6, c7, c8⟩ := ht9.cells
      go_wp2_with fail
      refine (Aw.out _).mono ?_
      rintro e w10 ⟨rfl, hb10⟩
      have kb10 := kb9.bt hb10
      have ht10 := ht9.below hb10
      clear kb9 ht9 hb10 hlt c0 c1 c2 c3 c4 c5 c6 c7 c8
      have hlt := ht10.lt
      obtain ⟨c0, c1, c2, c3, c4, c5, c6, c7, c8⟩ := ht10.cells
      go_wp2_with fail
      go_returns
      exact ⟨rfl, kb10⟩
    · have h9 : (y == -1) = false := by simpa using hy
      go_enter Try.func5, Try.ntmps5
      go_wp2_with fail
      refine (fit_law _).mono ?_
      rintro e w1 ⟨rfl, hb1⟩
      go_wp2_with fail
      refine (T.out _).mono ?_
      rintro e w2 ⟨rfl, hb2⟩
      go_wp2_with fail
      have kb2 := below_alloc (.cells #[.int .i64 1, .int .i64 8, .bool true, .bool false, .pointer none, .int .i64 0, .int .i64 0, .slice none 0 0, .pointer none] 27) (hb1.bt hb2)
      have ht2 := tyAt.new w2 8 true
      clear hb1 hb2
      refine wp_region_over (by kernel_rfl) (by kernel_rfl) ?_
      repeat (go_big_quiet_step (first | (go_at_call_of 13 (Value.int IntKind.i64 a); exact calls_over (by first | exact Nat.le_refl _ | simp) (F1.out _)) | (go_at_call_of 13 (Value.int IntKind.i64 b); exact calls_over (by first | exact Nat.le_refl _ | simp) (F2.out _))))
      refine wpQuiet_nil ?_
      intro w3 hb3
      have kb3 := kb2.bt hb3
      have ht3 := ht2.below hb3
      clear kb2 ht2 hb3
      generalize w2.heap.size = g at *
      have hlt := ht3.lt
      obtain ⟨c0, c1, c2, c3, c4, c5, c6, c7, c8⟩ := ht3.cells
      go_wp2_with fail
      refine (A8.out _).mono ?_
      rintro e w4 ⟨rfl, hb4⟩
      have kb4 := kb3.bt hb4
      have ht4 := ht3.below hb4
      clear kb3 ht3 hb4 hlt c0 c1 c2 c3 c4 c5 c6 c7 c8
      have hlt := ht4.lt
      obtain ⟨c0, c1, c2, c3, c4, c5, c6, c7, c8⟩ := ht4.cells
      go_wp2_with fail
      refine (A9.out _).mono ?_
      rintro e w5 ⟨rfl, hb5⟩
      have kb5 := kb4.bt hb5
      have ht5 := ht4.below hb5
      clear kb4 ht4 hb5 hlt c0 c1 c2 c3 c4 c5 c6 c7 c8
      have hlt := ht5.lt
      obtain ⟨c0, c1, c2, c3, c4, c5, c6, c7, c8⟩ := ht5.cells
      go_wp2_with fail
      refine (Ap.out _).mono ?_
      rintro e w6 ⟨rfl, hb6⟩
      have kb6 := kb5.bt hb6
      have ht6 := ht5.below hb6
      clear kb5 ht5 hb6 hlt c0 c1 c2 c3 c4 c5 c6 c7 c8
      have hlt := ht6.lt
      obtain ⟨c0, c1, c2, c3, c4, c5, c6, c7, c8⟩ := ht6.cells
      go_wp2_with fail
      refine (As.out _).mono ?_
      rintro e w7 ⟨rfl, hb7⟩
      have kb7 := kb6.bt hb7
      have ht7 := ht6.below hb7
      clear kb6 ht6 hb7 hlt c0 c1 c2 c3 c4 c5 c6 c7 c8
      have hlt := ht7.lt
      obtain ⟨c0, c1, c2, c3, c4, c5, c6, c7, c8⟩ := ht7.cells
      go_wp2_with fail
      refine (Au.out _).mono ?_
      rintro e w8 ⟨rfl, hb8⟩
      have kb8 := kb7.bt hb8
      have ht8 := ht7.below hb8
      clear kb7 ht7 hb8 hlt c0 c1 c2 c3 c4 c5 c6 c7 c8
      have hlt := ht8.lt
      obtain ⟨c0, c1, c2, c3, c4, c5, c6, c7, c8⟩ := ht8.cells
      go_wp2_with fail
      refine (Av.out _).mono ?_
      rintro e w9 ⟨rfl, hb9⟩
      have kb9 := kb8.bt hb9
      have ht9 := ht8.below hb9
      clear kb8 ht8 hb9 hlt c0 c1 c2 c3 c4 c5 c6 c7 c8
      have hlt := ht9.lt
      obtain ⟨c0, c1, c2, c3, c4, c5, c6, c7, c8⟩ := ht9.cells
      go_wp2_with fail
      refine (Aw.out _).mono ?_
      rintro e w10 ⟨rfl, hb10⟩
      have kb10 := kb9.bt hb10
      have ht10 := ht9.below hb10
      clear kb9 ht9 hb10 hlt c0 c1 c2 c3 c4 c5 c6 c7 c8
      have hlt := ht10.lt
      obtain ⟨c0, c1, c2, c3, c4, c5, c6, c7, c8⟩ := ht10.cells
      go_wp2_with fail
      go_returns
      exact ⟨rfl, kb10⟩
end Go.Proofs.Ytaijipapdbahkaa
