/- The walk of ArithShifts: the law answers true, whatever the numbers. No condition. -/
import Derived.Test.YtaijipapdbahkaaParts
import Derived.Test.YtaijipapdbahkaaShl
namespace Go.Proofs.Ytaijipapdbahkaa
open Go.RowKit
set_option linter.unusedVariables false
set_option maxHeartbeats 1000000
theorem shS_of (sz b : Int) (k : Nat) (h : (b % (8 * sz)) = k) : shS sz b = k := by unfold shS; omega
theorem shifts_1_true (h0 n by_ : Int) (w : World) (i0 : In64 h0) (ia : In64 n) (ib : In64 by_) (hsz : tySz h0 = 1) (hsg : tySg h0 = true) :
    Calls Try.prog 6 #[.int .i64 h0, .int .i64 n, .int .i64 by_] w fun e w' => e = .returned (.bool true) ∧ Below w.heap.size w w' := by
  have hz : Size 1 := by unfold Size; omega
  have T := fun w => type_any h0 w i0
  rw [hsz, hsg] at T
  have F1 := fun w => fit_any 1 n true w hz ia
  have ix := fitS_in (sg := true) (n := n) hz
  generalize fitS 1 true n = x at *
  obtain ⟨k, hk⟩ : ∃ k : Nat, by_ % 8 = k := ⟨(by_ % 8).toNat, by omega⟩
  have hkl : k < 8 := by omega
  have hm : bits .and .i64 by_ 7 = (k : Int) := by rw [mask by_ 3 (by decide) 7 (by decide)]; exact hk
  have ik : In64 (k : Int) := by unfold In64; omega
  have A := fun w => bin_any 6 (by decide) 1 x by_ true w hz ix ib
  have B := fun w => bin_any 6 (by decide) 1 x k true w hz ix ik
  have C := fun w => bin_any 7 (by decide) 1 (fitS 1 true (x * 2 ^ k)) k true w hz (fitS_in hz) ik
  simp only [binS, opB, shS_of 1 by_ k hk, shS_of 1 k k (by omega)] at A B C
  have hL := shift_s 1 8 k x (by decide) hz hkl
  generalize fitS 1 true (x * 2 ^ k) = v at *
  simp only [if_true] at C
  rw [hL] at C
  have T := Lib.hid T
  have F1 := Lib.hid F1
  have A := Lib.hid A
  have B := Lib.hid B
  have C := Lib.hid C
  rename_i T' F1' A' B' C'
  clear T' F1' A' B' C' i0 ia ib ix ik hz hk hL hsz hsg
  go_enter Try.func6, Try.ntmps6
  go_wp2_with fail
  refine (fit_law _).mono ?_
  rintro e w1 ⟨rfl, hb1⟩
  go_wp2_with fail
  refine (T.out _).mono ?_
  rintro e w2 ⟨rfl, hb2⟩
  have kb2 := below_alloc (.cells #[.int .i64 1, .int .i64 1, .bool true, .bool false, .pointer none, .int .i64 0, .int .i64 0, .slice none 0 0, .pointer none] 27) (hb1.bt hb2)
  have ht2 := tyAt.new w2 1 true
  go_wp2_with fail
  refine (F1.out _).mono ?_
  rintro e w3 ⟨rfl, hb3⟩
  have kb3 := kb2.bt hb3
  have ht3 := ht2.below hb3
  clear kb2 ht2 hb3 hb1 hb2
  generalize w2.heap.size = g at *
  have hlt := ht3.lt
  obtain ⟨c0, c1, c2, c3, c4, c5, c6, c7, c8⟩ := ht3.cells
  go_wp2_with fail
  refine (A.out _).mono ?_
  rintro e w4 ⟨rfl, hb4⟩
  have kb4 := kb3.bt hb4
  have ht4 := ht3.below hb4
  clear kb3 ht3 hb4 hlt c0 c1 c2 c3 c4 c5 c6 c7 c8
  have hlt := ht4.lt
  obtain ⟨c0, c1, c2, c3, c4, c5, c6, c7, c8⟩ := ht4.cells
  go_wp2_with fail
  refine (B.out _).mono ?_
  rintro e w5 ⟨rfl, hb5⟩
  have kb5 := kb4.bt hb5
  have ht5 := ht4.below hb5
  clear kb4 ht4 hb5 hlt c0 c1 c2 c3 c4 c5 c6 c7 c8
  have hlt := ht5.lt
  obtain ⟨c0, c1, c2, c3, c4, c5, c6, c7, c8⟩ := ht5.cells
  go_wp2_with fail
  refine (C.out _).mono ?_
  rintro e w6 ⟨rfl, hb6⟩
  have kb6 := kb5.bt hb6
  have ht6 := ht5.below hb6
  clear kb5 ht5 hb6 hlt c0 c1 c2 c3 c4 c5 c6 c7 c8
  have hlt := ht6.lt
  obtain ⟨c0, c1, c2, c3, c4, c5, c6, c7, c8⟩ := ht6.cells
  go_wp2_with fail
  go_returns
  exact ⟨rfl, kb6⟩
theorem shifts_1_false (h0 n by_ : Int) (w : World) (i0 : In64 h0) (ia : In64 n) (ib : In64 by_) (hsz : tySz h0 = 1) (hsg : tySg h0 = false) :
    Calls Try.prog 6 #[.int .i64 h0, .int .i64 n, .int .i64 by_] w fun e w' => e = .returned (.bool true) ∧ Below w.heap.size w w' := by
  have hz : Size 1 := by unfold Size; omega
  have T := fun w => type_any h0 w i0
  rw [hsz, hsg] at T
  have F1 := fun w => fit_any 1 n false w hz ia
  have ix := fitS_in (sg := false) (n := n) hz
  generalize fitS 1 false n = x at *
  obtain ⟨k, hk⟩ : ∃ k : Nat, by_ % 8 = k := ⟨(by_ % 8).toNat, by omega⟩
  have hkl : k < 8 := by omega
  have hm : bits .and .i64 by_ 7 = (k : Int) := by rw [mask by_ 3 (by decide) 7 (by decide)]; exact hk
  have ik : In64 (k : Int) := by unfold In64; omega
  have A := fun w => bin_any 6 (by decide) 1 x by_ false w hz ix ib
  have B := fun w => bin_any 6 (by decide) 1 x k false w hz ix ik
  have C := fun w => bin_any 7 (by decide) 1 (fitS 1 false (x * 2 ^ k)) k false w hz (fitS_in hz) ik
  simp only [binS, opB, shS_of 1 by_ k hk, shS_of 1 k k (by omega)] at A B C
  have hL := shift_u 1 8 k x (by decide) hz hkl
  have hw : uS x = IntKind.u64.wrap x := (IntKind.wrap_u64 x).symm
  rw [hw] at hL
  clear hw
  generalize fitS 1 false (x * 2 ^ k) = v at *
  simp only [Bool.false_eq_true, if_false] at C
  rw [hL] at C
  have T := Lib.hid T
  have F1 := Lib.hid F1
  have A := Lib.hid A
  have B := Lib.hid B
  have C := Lib.hid C
  rename_i T' F1' A' B' C'
  clear T' F1' A' B' C' i0 ia ib ix ik hz hk hL hsz hsg
  go_enter Try.func6, Try.ntmps6
  go_wp2_with fail
  refine (fit_law _).mono ?_
  rintro e w1 ⟨rfl, hb1⟩
  go_wp2_with fail
  refine (T.out _).mono ?_
  rintro e w2 ⟨rfl, hb2⟩
  have kb2 := below_alloc (.cells #[.int .i64 1, .int .i64 1, .bool false, .bool false, .pointer none, .int .i64 0, .int .i64 0, .slice none 0 0, .pointer none] 27) (hb1.bt hb2)
  have ht2 := tyAt.new w2 1 false
  go_wp2_with fail
  refine (F1.out _).mono ?_
  rintro e w3 ⟨rfl, hb3⟩
  have kb3 := kb2.bt hb3
  have ht3 := ht2.below hb3
  clear kb2 ht2 hb3 hb1 hb2
  generalize w2.heap.size = g at *
  have hlt := ht3.lt
  obtain ⟨c0, c1, c2, c3, c4, c5, c6, c7, c8⟩ := ht3.cells
  go_wp2_with fail
  refine (A.out _).mono ?_
  rintro e w4 ⟨rfl, hb4⟩
  have kb4 := kb3.bt hb4
  have ht4 := ht3.below hb4
  clear kb3 ht3 hb4 hlt c0 c1 c2 c3 c4 c5 c6 c7 c8
  have hlt := ht4.lt
  obtain ⟨c0, c1, c2, c3, c4, c5, c6, c7, c8⟩ := ht4.cells
  go_wp2_with fail
  refine (B.out _).mono ?_
  rintro e w5 ⟨rfl, hb5⟩
  have kb5 := kb4.bt hb5
  have ht5 := ht4.below hb5
  clear kb4 ht4 hb5 hlt c0 c1 c2 c3 c4 c5 c6 c7 c8
  have hlt := ht5.lt
  obtain ⟨c0, c1, c2, c3, c4, c5, c6, c7, c8⟩ := ht5.cells
  go_wp2_with fail
  refine (C.out _).mono ?_
  rintro e w6 ⟨rfl, hb6⟩
  have kb6 := kb5.bt hb6
  have ht6 := ht5.below hb6
  clear kb5 ht5 hb6 hlt c0 c1 c2 c3 c4 c5 c6 c7 c8
  have hlt := ht6.lt
  obtain ⟨c0, c1, c2, c3, c4, c5, c6, c7, c8⟩ := ht6.cells
  go_wp2_with fail
  go_returns
  exact ⟨rfl, kb6⟩
theorem shifts_2_true (h0 n by_ : Int) (w : World) (i0 : In64 h0) (ia : In64 n) (ib : In64 by_) (hsz : tySz h0 = 2) (hsg : tySg h0 = true) :
    Calls Try.prog 6 #[.int .i64 h0, .int .i64 n, .int .i64 by_] w fun e w' => e = .returned (.bool true) ∧ Below w.heap.size w w' := by
  have hz : Size 2 := by unfold Size; omega
  have T := fun w => type_any h0 w i0
  rw [hsz, hsg] at T
  have F1 := fun w => fit_any 2 n true w hz ia
  have ix := fitS_in (sg := true) (n := n) hz
  generalize fitS 2 true n = x at *
  obtain ⟨k, hk⟩ : ∃ k : Nat, by_ % 16 = k := ⟨(by_ % 16).toNat, by omega⟩
  have hkl : k < 16 := by omega
  have hm : bits .and .i64 by_ 15 = (k : Int) := by rw [mask by_ 4 (by decide) 15 (by decide)]; exact hk
  have ik : In64 (k : Int) := by unfold In64; omega
  have A := fun w => bin_any 6 (by decide) 2 x by_ true w hz ix ib
  have B := fun w => bin_any 6 (by decide) 2 x k true w hz ix ik
  have C := fun w => bin_any 7 (by decide) 2 (fitS 2 true (x * 2 ^ k)) k true w hz (fitS_in hz) ik
  simp only [binS, opB, shS_of 2 by_ k hk, shS_of 2 k k (by omega)] at A B C
  have hL := shift_s 2 16 k x (by decide) hz hkl
  generalize fitS 2 true (x * 2 ^ k) = v at *
  simp only [if_true] at C
  rw [hL] at C
  have T := Lib.hid T
  have F1 := Lib.hid F1
  have A := Lib.hid A
  have B := Lib.hid B
  have C := Lib.hid C
  rename_i T' F1' A' B' C'
  clear T' F1' A' B' C' i0 ia ib ix ik hz hk hL hsz hsg
  go_enter Try.func6, Try.ntmps6
  go_wp2_with fail
  refine (fit_law _).mono ?_
  rintro e w1 ⟨rfl, hb1⟩
  go_wp2_with fail
  refine (T.out _).mono ?_
  rintro e w2 ⟨rfl, hb2⟩
  have kb2 := below_alloc (.cells #[.int .i64 1, .int .i64 2, .bool true, .bool false, .pointer none, .int .i64 0, .int .i64 0, .slice none 0 0, .pointer none] 27) (hb1.bt hb2)
  have ht2 := tyAt.new w2 2 true
  go_wp2_with fail
  refine (F1.out _).mono ?_
  rintro e w3 ⟨rfl, hb3⟩
  have kb3 := kb2.bt hb3
  have ht3 := ht2.below hb3
  clear kb2 ht2 hb3 hb1 hb2
  generalize w2.heap.size = g at *
  have hlt := ht3.lt
  obtain ⟨c0, c1, c2, c3, c4, c5, c6, c7, c8⟩ := ht3.cells
  go_wp2_with fail
  refine (A.out _).mono ?_
  rintro e w4 ⟨rfl, hb4⟩
  have kb4 := kb3.bt hb4
  have ht4 := ht3.below hb4
  clear kb3 ht3 hb4 hlt c0 c1 c2 c3 c4 c5 c6 c7 c8
  have hlt := ht4.lt
  obtain ⟨c0, c1, c2, c3, c4, c5, c6, c7, c8⟩ := ht4.cells
  go_wp2_with fail
  refine (B.out _).mono ?_
  rintro e w5 ⟨rfl, hb5⟩
  have kb5 := kb4.bt hb5
  have ht5 := ht4.below hb5
  clear kb4 ht4 hb5 hlt c0 c1 c2 c3 c4 c5 c6 c7 c8
  have hlt := ht5.lt
  obtain ⟨c0, c1, c2, c3, c4, c5, c6, c7, c8⟩ := ht5.cells
  go_wp2_with fail
  refine (C.out _).mono ?_
  rintro e w6 ⟨rfl, hb6⟩
  have kb6 := kb5.bt hb6
  have ht6 := ht5.below hb6
  clear kb5 ht5 hb6 hlt c0 c1 c2 c3 c4 c5 c6 c7 c8
  have hlt := ht6.lt
  obtain ⟨c0, c1, c2, c3, c4, c5, c6, c7, c8⟩ := ht6.cells
  go_wp2_with fail
  go_returns
  exact ⟨rfl, kb6⟩
theorem shifts_2_false (h0 n by_ : Int) (w : World) (i0 : In64 h0) (ia : In64 n) (ib : In64 by_) (hsz : tySz h0 = 2) (hsg : tySg h0 = false) :
    Calls Try.prog 6 #[.int .i64 h0, .int .i64 n, .int .i64 by_] w fun e w' => e = .returned (.bool true) ∧ Below w.heap.size w w' := by
  have hz : Size 2 := by unfold Size; omega
  have T := fun w => type_any h0 w i0
  rw [hsz, hsg] at T
  have F1 := fun w => fit_any 2 n false w hz ia
  have ix := fitS_in (sg := false) (n := n) hz
  generalize fitS 2 false n = x at *
  obtain ⟨k, hk⟩ : ∃ k : Nat, by_ % 16 = k := ⟨(by_ % 16).toNat, by omega⟩
  have hkl : k < 16 := by omega
  have hm : bits .and .i64 by_ 15 = (k : Int) := by rw [mask by_ 4 (by decide) 15 (by decide)]; exact hk
  have ik : In64 (k : Int) := by unfold In64; omega
  have A := fun w => bin_any 6 (by decide) 2 x by_ false w hz ix ib
  have B := fun w => bin_any 6 (by decide) 2 x k false w hz ix ik
  have C := fun w => bin_any 7 (by decide) 2 (fitS 2 false (x * 2 ^ k)) k false w hz (fitS_in hz) ik
  simp only [binS, opB, shS_of 2 by_ k hk, shS_of 2 k k (by omega)] at A B C
  have hL := shift_u 2 16 k x (by decide) hz hkl
  have hw : uS x = IntKind.u64.wrap x := (IntKind.wrap_u64 x).symm
  rw [hw] at hL
  clear hw
  generalize fitS 2 false (x * 2 ^ k) = v at *
  simp only [Bool.false_eq_true, if_false] at C
  rw [hL] at C
  have T := Lib.hid T
  have F1 := Lib.hid F1
  have A := Lib.hid A
  have B := Lib.hid B
  have C := Lib.hid C
  rename_i T' F1' A' B' C'
  clear T' F1' A' B' C' i0 ia ib ix ik hz hk hL hsz hsg
  go_enter Try.func6, Try.ntmps6
  go_wp2_with fail
  refine (fit_law _).mono ?_
  rintro e w1 ⟨rfl, hb1⟩
  go_wp2_with fail
  refine (T.out _).mono ?_
  rintro e w2 ⟨rfl, hb2⟩
  have kb2 := below_alloc (.cells #[.int .i64 1, .int .i64 2, .bool false, .bool false, .pointer none, .int .i64 0, .int .i64 0, .slice none 0 0, .pointer none] 27) (hb1.bt hb2)
  have ht2 := tyAt.new w2 2 false
  go_wp2_with fail
  refine (F1.out _).mono ?_
  rintro e w3 ⟨rfl, hb3⟩
  have kb3 := kb2.bt hb3
  have ht3 := ht2.below hb3
  clear kb2 ht2 hb3 hb1 hb2
  generalize w2.heap.size = g at *
  have hlt := ht3.lt
  obtain ⟨c0, c1, c2, c3, c4, c5, c6, c7, c8⟩ := ht3.cells
  go_wp2_with fail
  refine (A.out _).mono ?_
  rintro e w4 ⟨rfl, hb4⟩
  have kb4 := kb3.bt hb4
  have ht4 := ht3.below hb4
  clear kb3 ht3 hb4 hlt c0 c1 c2 c3 c4 c5 c6 c7 c8
  have hlt := ht4.lt
  obtain ⟨c0, c1, c2, c3, c4, c5, c6, c7, c8⟩ := ht4.cells
  go_wp2_with fail
  refine (B.out _).mono ?_
  rintro e w5 ⟨rfl, hb5⟩
  have kb5 := kb4.bt hb5
  have ht5 := ht4.below hb5
  clear kb4 ht4 hb5 hlt c0 c1 c2 c3 c4 c5 c6 c7 c8
  have hlt := ht5.lt
  obtain ⟨c0, c1, c2, c3, c4, c5, c6, c7, c8⟩ := ht5.cells
  go_wp2_with fail
  refine (C.out _).mono ?_
  rintro e w6 ⟨rfl, hb6⟩
  have kb6 := kb5.bt hb6
  have ht6 := ht5.below hb6
  clear kb5 ht5 hb6 hlt c0 c1 c2 c3 c4 c5 c6 c7 c8
  have hlt := ht6.lt
  obtain ⟨c0, c1, c2, c3, c4, c5, c6, c7, c8⟩ := ht6.cells
  go_wp2_with fail
  go_returns
  exact ⟨rfl, kb6⟩
theorem shifts_4_true (h0 n by_ : Int) (w : World) (i0 : In64 h0) (ia : In64 n) (ib : In64 by_) (hsz : tySz h0 = 4) (hsg : tySg h0 = true) :
    Calls Try.prog 6 #[.int .i64 h0, .int .i64 n, .int .i64 by_] w fun e w' => e = .returned (.bool true) ∧ Below w.heap.size w w' := by
  have hz : Size 4 := by unfold Size; omega
  have T := fun w => type_any h0 w i0
  rw [hsz, hsg] at T
  have F1 := fun w => fit_any 4 n true w hz ia
  have ix := fitS_in (sg := true) (n := n) hz
  generalize fitS 4 true n = x at *
  obtain ⟨k, hk⟩ : ∃ k : Nat, by_ % 32 = k := ⟨(by_ % 32).toNat, by omega⟩
  have hkl : k < 32 := by omega
  have hm : bits .and .i64 by_ 31 = (k : Int) := by rw [mask by_ 5 (by decide) 31 (by decide)]; exact hk
  have ik : In64 (k : Int) := by unfold In64; omega
  have A := fun w => bin_any 6 (by decide) 4 x by_ true w hz ix ib
  have B := fun w => bin_any 6 (by decide) 4 x k true w hz ix ik
  have C := fun w => bin_any 7 (by decide) 4 (fitS 4 true (x * 2 ^ k)) k true w hz (fitS_in hz) ik
  simp only [binS, opB, shS_of 4 by_ k hk, shS_of 4 k k (by omega)] at A B C
  have hL := shift_s 4 32 k x (by decide) hz hkl
  generalize fitS 4 true (x * 2 ^ k) = v at *
  simp only [if_true] at C
  rw [hL] at C
  have T := Lib.hid T
  have F1 := Lib.hid F1
  have A := Lib.hid A
  have B := Lib.hid B
  have C := Lib.hid C
  rename_i T' F1' A' B' C'
  clear T' F1' A' B' C' i0 ia ib ix ik hz hk hL hsz hsg
  go_enter Try.func6, Try.ntmps6
  go_wp2_with fail
  refine (fit_law _).mono ?_
  rintro e w1 ⟨rfl, hb1⟩
  go_wp2_with fail
  refine (T.out _).mono ?_
  rintro e w2 ⟨rfl, hb2⟩
  have kb2 := below_alloc (.cells #[.int .i64 1, .int .i64 4, .bool true, .bool false, .pointer none, .int .i64 0, .int .i64 0, .slice none 0 0, .pointer none] 27) (hb1.bt hb2)
  have ht2 := tyAt.new w2 4 true
  go_wp2_with fail
  refine (F1.out _).mono ?_
  rintro e w3 ⟨rfl, hb3⟩
  have kb3 := kb2.bt hb3
  have ht3 := ht2.below hb3
  clear kb2 ht2 hb3 hb1 hb2
  generalize w2.heap.size = g at *
  have hlt := ht3.lt
  obtain ⟨c0, c1, c2, c3, c4, c5, c6, c7, c8⟩ := ht3.cells
  go_wp2_with fail
  refine (A.out _).mono ?_
  rintro e w4 ⟨rfl, hb4⟩
  have kb4 := kb3.bt hb4
  have ht4 := ht3.below hb4
  clear kb3 ht3 hb4 hlt c0 c1 c2 c3 c4 c5 c6 c7 c8
  have hlt := ht4.lt
  obtain ⟨c0, c1, c2, c3, c4, c5, c6, c7, c8⟩ := ht4.cells
  go_wp2_with fail
  refine (B.out _).mono ?_
  rintro e w5 ⟨rfl, hb5⟩
  have kb5 := kb4.bt hb5
  have ht5 := ht4.below hb5
  clear kb4 ht4 hb5 hlt c0 c1 c2 c3 c4 c5 c6 c7 c8
  have hlt := ht5.lt
  obtain ⟨c0, c1, c2, c3, c4, c5, c6, c7, c8⟩ := ht5.cells
  go_wp2_with fail
  refine (C.out _).mono ?_
  rintro e w6 ⟨rfl, hb6⟩
  have kb6 := kb5.bt hb6
  have ht6 := ht5.below hb6
  clear kb5 ht5 hb6 hlt c0 c1 c2 c3 c4 c5 c6 c7 c8
  have hlt := ht6.lt
  obtain ⟨c0, c1, c2, c3, c4, c5, c6, c7, c8⟩ := ht6.cells
  go_wp2_with fail
  go_returns
  exact ⟨rfl, kb6⟩
theorem shifts_4_false (h0 n by_ : Int) (w : World) (i0 : In64 h0) (ia : In64 n) (ib : In64 by_) (hsz : tySz h0 = 4) (hsg : tySg h0 = false) :
    Calls Try.prog 6 #[.int .i64 h0, .int .i64 n, .int .i64 by_] w fun e w' => e = .returned (.bool true) ∧ Below w.heap.size w w' := by
  have hz : Size 4 := by unfold Size; omega
  have T := fun w => type_any h0 w i0
  rw [hsz, hsg] at T
  have F1 := fun w => fit_any 4 n false w hz ia
  have ix := fitS_in (sg := false) (n := n) hz
  generalize fitS 4 false n = x at *
  obtain ⟨k, hk⟩ : ∃ k : Nat, by_ % 32 = k := ⟨(by_ % 32).toNat, by omega⟩
  have hkl : k < 32 := by omega
  have hm : bits .and .i64 by_ 31 = (k : Int) := by rw [mask by_ 5 (by decide) 31 (by decide)]; exact hk
  have ik : In64 (k : Int) := by unfold In64; omega
  have A := fun w => bin_any 6 (by decide) 4 x by_ false w hz ix ib
  have B := fun w => bin_any 6 (by decide) 4 x k false w hz ix ik
  have C := fun w => bin_any 7 (by decide) 4 (fitS 4 false (x * 2 ^ k)) k false w hz (fitS_in hz) ik
  simp only [binS, opB, shS_of 4 by_ k hk, shS_of 4 k k (by omega)] at A B C
  have hL := shift_u 4 32 k x (by decide) hz hkl
  have hw : uS x = IntKind.u64.wrap x := (IntKind.wrap_u64 x).symm
  rw [hw] at hL
  clear hw
  generalize fitS 4 false (x * 2 ^ k) = v at *
  simp only [Bool.false_eq_true, if_false] at C
  rw [hL] at C
  have T := Lib.hid T
  have F1 := Lib.hid F1
  have A := Lib.hid A
  have B := Lib.hid B
  have C := Lib.hid C
  rename_i T' F1' A' B' C'
  clear T' F1' A' B' C' i0 ia ib ix ik hz hk hL hsz hsg
  go_enter Try.func6, Try.ntmps6
  go_wp2_with fail
  refine (fit_law _).mono ?_
  rintro e w1 ⟨rfl, hb1⟩
  go_wp2_with fail
  refine (T.out _).mono ?_
  rintro e w2 ⟨rfl, hb2⟩
  have kb2 := below_alloc (.cells #[.int .i64 1, .int .i64 4, .bool false, .bool false, .pointer none, .int .i64 0, .int .i64 0, .slice none 0 0, .pointer none] 27) (hb1.bt hb2)
  have ht2 := tyAt.new w2 4 false
  go_wp2_with fail
  refine (F1.out _).mono ?_
  rintro e w3 ⟨rfl, hb3⟩
  have kb3 := kb2.bt hb3
  have ht3 := ht2.below hb3
  clear kb2 ht2 hb3 hb1 hb2
  generalize w2.heap.size = g at *
  have hlt := ht3.lt
  obtain ⟨c0, c1, c2, c3, c4, c5, c6, c7, c8⟩ := ht3.cells
  go_wp2_with fail
  refine (A.out _).mono ?_
  rintro e w4 ⟨rfl, hb4⟩
  have kb4 := kb3.bt hb4
  have ht4 := ht3.below hb4
  clear kb3 ht3 hb4 hlt c0 c1 c2 c3 c4 c5 c6 c7 c8
  have hlt := ht4.lt
  obtain ⟨c0, c1, c2, c3, c4, c5, c6, c7, c8⟩ := ht4.cells
  go_wp2_with fail
  refine (B.out _).mono ?_
  rintro e w5 ⟨rfl, hb5⟩
  have kb5 := kb4.bt hb5
  have ht5 := ht4.below hb5
  clear kb4 ht4 hb5 hlt c0 c1 c2 c3 c4 c5 c6 c7 c8
  have hlt := ht5.lt
  obtain ⟨c0, c1, c2, c3, c4, c5, c6, c7, c8⟩ := ht5.cells
  go_wp2_with fail
  refine (C.out _).mono ?_
  rintro e w6 ⟨rfl, hb6⟩
  have kb6 := kb5.bt hb6
  have ht6 := ht5.below hb6
  clear kb5 ht5 hb6 hlt c0 c1 c2 c3 c4 c5 c6 c7 c8
  have hlt := ht6.lt
  obtain ⟨c0, c1, c2, c3, c4, c5, c6, c7, c8⟩ := ht6.cells
  go_wp2_with fail
  go_returns
  exact ⟨rfl, kb6⟩
theorem shifts_8_true (h0 n by_ : Int) (w : World) (i0 : In64 h0) (ia : In64 n) (ib : In64 by_) (hsz : tySz h0 = 8) (hsg : tySg h0 = true) :
    Calls Try.prog 6 #[.int .i64 h0, .int .i64 n, .int .i64 by_] w fun e w' => e = .returned (.bool true) ∧ Below w.heap.size w w' := by
  have hz : Size 8 := by unfold Size; omega
  have T := fun w => type_any h0 w i0
  rw [hsz, hsg] at T
  have F1 := fun w => fit_any 8 n true w hz ia
  have ix := fitS_in (sg := true) (n := n) hz
  generalize fitS 8 true n = x at *
  obtain ⟨k, hk⟩ : ∃ k : Nat, by_ % 64 = k := ⟨(by_ % 64).toNat, by omega⟩
  have hkl : k < 64 := by omega
  have hm : bits .and .i64 by_ 63 = (k : Int) := by rw [mask by_ 6 (by decide) 63 (by decide)]; exact hk
  have ik : In64 (k : Int) := by unfold In64; omega
  have A := fun w => bin_any 6 (by decide) 8 x by_ true w hz ix ib
  have B := fun w => bin_any 6 (by decide) 8 x k true w hz ix ik
  have C := fun w => bin_any 7 (by decide) 8 (fitS 8 true (x * 2 ^ k)) k true w hz (fitS_in hz) ik
  simp only [binS, opB, shS_of 8 by_ k hk, shS_of 8 k k (by omega)] at A B C
  have hL := shift_s 8 64 k x (by decide) hz hkl
  generalize fitS 8 true (x * 2 ^ k) = v at *
  simp only [if_true] at C
  rw [hL] at C
  have T := Lib.hid T
  have F1 := Lib.hid F1
  have A := Lib.hid A
  have B := Lib.hid B
  have C := Lib.hid C
  rename_i T' F1' A' B' C'
  clear T' F1' A' B' C' i0 ia ib ix ik hz hk hL hsz hsg
  go_enter Try.func6, Try.ntmps6
  go_wp2_with fail
  refine (fit_law _).mono ?_
  rintro e w1 ⟨rfl, hb1⟩
  go_wp2_with fail
  refine (T.out _).mono ?_
  rintro e w2 ⟨rfl, hb2⟩
  have kb2 := below_alloc (.cells #[.int .i64 1, .int .i64 8, .bool true, .bool false, .pointer none, .int .i64 0, .int .i64 0, .slice none 0 0, .pointer none] 27) (hb1.bt hb2)
  have ht2 := tyAt.new w2 8 true
  go_wp2_with fail
  refine (F1.out _).mono ?_
  rintro e w3 ⟨rfl, hb3⟩
  have kb3 := kb2.bt hb3
  have ht3 := ht2.below hb3
  clear kb2 ht2 hb3 hb1 hb2
  generalize w2.heap.size = g at *
  have hlt := ht3.lt
  obtain ⟨c0, c1, c2, c3, c4, c5, c6, c7, c8⟩ := ht3.cells
  go_wp2_with fail
  refine (A.out _).mono ?_
  rintro e w4 ⟨rfl, hb4⟩
  have kb4 := kb3.bt hb4
  have ht4 := ht3.below hb4
  clear kb3 ht3 hb4 hlt c0 c1 c2 c3 c4 c5 c6 c7 c8
  have hlt := ht4.lt
  obtain ⟨c0, c1, c2, c3, c4, c5, c6, c7, c8⟩ := ht4.cells
  go_wp2_with fail
  refine (B.out _).mono ?_
  rintro e w5 ⟨rfl, hb5⟩
  have kb5 := kb4.bt hb5
  have ht5 := ht4.below hb5
  clear kb4 ht4 hb5 hlt c0 c1 c2 c3 c4 c5 c6 c7 c8
  have hlt := ht5.lt
  obtain ⟨c0, c1, c2, c3, c4, c5, c6, c7, c8⟩ := ht5.cells
  go_wp2_with fail
  refine (C.out _).mono ?_
  rintro e w6 ⟨rfl, hb6⟩
  have kb6 := kb5.bt hb6
  have ht6 := ht5.below hb6
  clear kb5 ht5 hb6 hlt c0 c1 c2 c3 c4 c5 c6 c7 c8
  have hlt := ht6.lt
  obtain ⟨c0, c1, c2, c3, c4, c5, c6, c7, c8⟩ := ht6.cells
  go_wp2_with fail
  go_returns
  exact ⟨rfl, kb6⟩
theorem shifts_8_false (h0 n by_ : Int) (w : World) (i0 : In64 h0) (ia : In64 n) (ib : In64 by_) (hsz : tySz h0 = 8) (hsg : tySg h0 = false) :
    Calls Try.prog 6 #[.int .i64 h0, .int .i64 n, .int .i64 by_] w fun e w' => e = .returned (.bool true) ∧ Below w.heap.size w w' := by
  have hz : Size 8 := by unfold Size; omega
  have T := fun w => type_any h0 w i0
  rw [hsz, hsg] at T
  have F1 := fun w => fit_any 8 n false w hz ia
  have ix := fitS_in (sg := false) (n := n) hz
  generalize fitS 8 false n = x at *
  obtain ⟨k, hk⟩ : ∃ k : Nat, by_ % 64 = k := ⟨(by_ % 64).toNat, by omega⟩
  have hkl : k < 64 := by omega
  have hm : bits .and .i64 by_ 63 = (k : Int) := by rw [mask by_ 6 (by decide) 63 (by decide)]; exact hk
  have ik : In64 (k : Int) := by unfold In64; omega
  have A := fun w => bin_any 6 (by decide) 8 x by_ false w hz ix ib
  have B := fun w => bin_any 6 (by decide) 8 x k false w hz ix ik
  have C := fun w => bin_any 7 (by decide) 8 (fitS 8 false (x * 2 ^ k)) k false w hz (fitS_in hz) ik
  simp only [binS, opB, shS_of 8 by_ k hk, shS_of 8 k k (by omega)] at A B C
  have hL := shift_u 8 64 k x (by decide) hz hkl
  have hw : uS x = IntKind.u64.wrap x := (IntKind.wrap_u64 x).symm
  rw [hw] at hL
  clear hw
  generalize fitS 8 false (x * 2 ^ k) = v at *
  simp only [Bool.false_eq_true, if_false] at C
  rw [hL] at C
  have T := Lib.hid T
  have F1 := Lib.hid F1
  have A := Lib.hid A
  have B := Lib.hid B
  have C := Lib.hid C
  rename_i T' F1' A' B' C'
  clear T' F1' A' B' C' i0 ia ib ix ik hz hk hL hsz hsg
  go_enter Try.func6, Try.ntmps6
  go_wp2_with fail
  refine (fit_law _).mono ?_
  rintro e w1 ⟨rfl, hb1⟩
  go_wp2_with fail
  refine (T.out _).mono ?_
  rintro e w2 ⟨rfl, hb2⟩
  have kb2 := below_alloc (.cells #[.int .i64 1, .int .i64 8, .bool false, .bool false, .pointer none, .int .i64 0, .int .i64 0, .slice none 0 0, .pointer none] 27) (hb1.bt hb2)
  have ht2 := tyAt.new w2 8 false
  go_wp2_with fail
  refine (F1.out _).mono ?_
  rintro e w3 ⟨rfl, hb3⟩
  have kb3 := kb2.bt hb3
  have ht3 := ht2.below hb3
  clear kb2 ht2 hb3 hb1 hb2
  generalize w2.heap.size = g at *
  have hlt := ht3.lt
  obtain ⟨c0, c1, c2, c3, c4, c5, c6, c7, c8⟩ := ht3.cells
  go_wp2_with fail
  refine (A.out _).mono ?_
  rintro e w4 ⟨rfl, hb4⟩
  have kb4 := kb3.bt hb4
  have ht4 := ht3.below hb4
  clear kb3 ht3 hb4 hlt c0 c1 c2 c3 c4 c5 c6 c7 c8
  have hlt := ht4.lt
  obtain ⟨c0, c1, c2, c3, c4, c5, c6, c7, c8⟩ := ht4.cells
  go_wp2_with fail
  refine (B.out _).mono ?_
  rintro e w5 ⟨rfl, hb5⟩
  have kb5 := kb4.bt hb5
  have ht5 := ht4.below hb5
  clear kb4 ht4 hb5 hlt c0 c1 c2 c3 c4 c5 c6 c7 c8
  have hlt := ht5.lt
  obtain ⟨c0, c1, c2, c3, c4, c5, c6, c7, c8⟩ := ht5.cells
  go_wp2_with fail
  refine (C.out _).mono ?_
  rintro e w6 ⟨rfl, hb6⟩
  have kb6 := kb5.bt hb6
  have ht6 := ht5.below hb6
  clear kb5 ht5 hb6 hlt c0 c1 c2 c3 c4 c5 c6 c7 c8
  have hlt := ht6.lt
  obtain ⟨c0, c1, c2, c3, c4, c5, c6, c7, c8⟩ := ht6.cells
  go_wp2_with fail
  go_returns
  exact ⟨rfl, kb6⟩
theorem shifts_walk (h0 n by_ : Int) (w : World) (i0 : In64 h0) (ia : In64 n) (ib : In64 by_) :
    Calls Try.prog 6 #[.int .i64 h0, .int .i64 n, .int .i64 by_] w fun e w' => e = .returned (.bool true) ∧ Below w.heap.size w w' := by
  have hz := tySz_size h0
  unfold Size at hz
  cases hg : tySg h0
  · rcases hz with h | h | h | h
    · exact shifts_1_false h0 n by_ w i0 ia ib h hg
    · exact shifts_2_false h0 n by_ w i0 ia ib h hg
    · exact shifts_4_false h0 n by_ w i0 ia ib h hg
    · exact shifts_8_false h0 n by_ w i0 ia ib h hg
  · rcases hz with h | h | h | h
    · exact shifts_1_true h0 n by_ w i0 ia ib h hg
    · exact shifts_2_true h0 n by_ w i0 ia ib h hg
    · exact shifts_4_true h0 n by_ w i0 ia ib h hg
    · exact shifts_8_true h0 n by_ w i0 ia ib h hg
end Go.Proofs.Ytaijipapdbahkaa
