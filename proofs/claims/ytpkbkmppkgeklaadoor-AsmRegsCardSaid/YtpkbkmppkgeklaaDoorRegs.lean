/- AsmRegs: the law walked. No condition. -/
import Derived.Test.YtpkbkmppkgeklaaDoorRegJ
import Derived.Test.YtpkbkmppkgeklaaDoorFitG
import Derived.Test.YtpkbkmppkgeklaaDoorBits
namespace Go.Proofs.YtpkbkmppkgeklaaDoor
open Go.RowKit
set_option linter.unusedVariables false
set_option maxHeartbeats 4000000
def GsOk (w : World) : Prop := NeedOk gs w ∧ gn ≤ w.heap.size
theorem GsOk.below {w w' : World} (h : GsOk w) (hb : Below w.heap.size w w') : GsOk w' := by
  refine ⟨fun g hg k v hv => ?_, Nat.le_trans h.2 (hb.size)⟩
  rw [(bcell hb).1 _ _ (Nat.lt_of_lt_of_le (gs_ok g hg).1 h.2)]
  exact h.1 g hg k v hv
theorem and_bits (a : Int) (k : Nat) (hk : k < 60) : ∃ r : Nat, r < 2 ^ k ∧ bits .and .i64 a ((2 ^ k - 1 : Nat) : Int) = (r : Int) := by
  obtain ⟨r, h1, h2⟩ := and_low a k hk
  have h3 : evB2 .and .i64 a .i64 ((2 ^ k - 1 : Nat) : Int) = some (.int .i64 (bits .and .i64 a ((2 ^ k - 1 : Nat) : Int))) := rfl
  rw [h3] at h2
  exact ⟨r, h1, by simpa using h2⟩
theorem shl_one (n : Nat) (hn : n < 4) (w : World) : (Op.shift .shl .i64 1 .i64 (n : Int)).run Tryd.prog w = .ok (.int .i64 ((2 ^ n : Nat) : Int)) w := by
  match n, hn with
  | 0, _ => rfl
  | 1, _ => rfl
  | 2, _ => rfl
  | 3, _ => rfl
  | n + 4, h => omega
theorem two_pow (n : Nat) (hn : n < 4) : wrap64 (2 ^ n) = ((2 ^ n : Nat) : Int) :=
  match n, hn with
  | 0, _ => by kernel_rfl
  | 1, _ => by kernel_rfl
  | 2, _ => by kernel_rfl
  | 3, _ => by kernel_rfl
  | n + 4, h => by omega
def sameB : Bool := (List.range 16).all fun r => (List.range 16).all fun s => (List.range 4).all fun k => (List.range 4).all fun m => (regN r k == regN s m) == (r == s && k == m)
theorem same_all : sameB = true := by kernel_rfl
theorem full_all : ((List.range 16).all fun r => (List.range 4).all fun k => !(regN r k).isEmpty) = true := by kernel_rfl
theorem same {r s k m : Nat} (hr : r < 16) (hs : s < 16) (hk : k < 4) (hm : m < 4) : (regN r k == regN s m) = (r == s && k == m) := by
  have h := same_all
  simp only [sameB, List.all_eq_true, List.mem_range] at h
  exact eq_of_beq (h r hr s hs k hk m hm)
theorem full {r k : Nat} (hr : r < 16) (hk : k < 4) : regN r k ≠ [] := by
  have h := full_all
  simp only [List.all_eq_true, List.mem_range] at h
  have := h r hr k hk
  intro e
  rw [e] at this
  cases this
theorem pow_all : ((List.range 4).all fun k => (List.range 4).all fun m => (wrap64 (2 ^ k) == wrap64 (2 ^ m)) == (k == m)) = true := by kernel_rfl
theorem pow_ne {k m : Nat} (hk : k < 4) (hm : m < 4) (h : k ≠ m) : (wrap64 (2 ^ k) == wrap64 (2 ^ m)) = false := by
  have h1 := pow_all
  simp only [List.all_eq_true, List.mem_range] at h1
  rw [eq_of_beq (h1 k hk m hm)]
  simpa using h
theorem reg_size (w : World) (hN : GsOk w) (r k : Nat) (hr : r < 16) (hk : k < 4) : Calls Tryd.prog 16 #[.int .i64 (r : Int), .int .i64 (wrap64 (2 ^ k))] w fun e w' => e = .returned (.string ⟨⟨regN r k⟩⟩) ∧ Below w.heap.size w w' := by
  rw [two_pow k hk]; exact reg_sizes w hN r k hr hk
set_option maxRecDepth 100000 in
theorem regs_a (a0 a1 b0 b1 : Int) (w : World) (hN : GsOk w) (r k : Nat) (hr : r < 16) (hk : k < 4) (er : bits .and .i64 a0 15 = (r : Int)) (es : bits .and .i64 b0 15 = (r : Int)) (ek : bits .and .i64 a1 3 = (k : Int)) (em : bits .and .i64 b1 3 = (k : Int)) :
    Calls Tryd.prog 6 #[.agg #[.int .i64 a0, .int .i64 a1], .agg #[.int .i64 b0, .int .i64 b1]] w fun e w' => e = .returned (.bool true) ∧ Below w.heap.size w w' := by
  have hF : (regN r k == []) = false := by simpa using full hr hk
  go_enter Tryd.func6, Tryd.ntmps6
  go_wp2_with fail
  have S1 : ∀ w, (Op.shift .shl .i64 1 .i64 (bits .and .i64 a1 3)).run Tryd.prog w = .ok (.int .i64 ((2 ^ k : Nat) : Int)) w := fun w => by rw [ek]; exact shl_one k hk w
  have S2 : ∀ w, (Op.shift .shl .i64 1 .i64 (bits .and .i64 b1 3)).run Tryd.prog w = .ok (.int .i64 ((2 ^ k : Nat) : Int)) w := fun w => by rw [em]; exact shl_one k hk w
  have S1 := Lib.hid S1
  have S2 := Lib.hid S2
  have kbA : Below w.heap.size w ((w.alloc (Obj.cells #[Value.int IntKind.i64 a0, Value.int IntKind.i64 a1] 42)).alloc (Obj.cells #[Value.int IntKind.i64 b0, Value.int IntKind.i64 b1] 42)) := below_alloc _ (below_alloc _ (Below.refl _ _))
  refine (fit_vm _ (hN.below kbA)).mono ?_
  rintro e w1 ⟨rfl, kb1⟩
  have k1 := blk_below (blk_alloc (blk_new w _) _) kb1
  have k2 := blk_below (blk_new (w.alloc _) _) kb1
  rw [show (w.alloc (Obj.cells #[Value.int IntKind.i64 a0, Value.int IntKind.i64 a1] 42)).heap.size = w.heap.size + 1 from Array.size_push ..] at k2
  have kb1 := kbA.bt kb1
  have hN1 := hN.below kb1
  have l1 := blk_lt k1
  have l2 := blk_lt k2
  have l10 : w1.cell? ⟨w.heap.size, 0, none⟩ = some (.int .i64 a0) := blk_cell k1 rfl
  have l11 : w1.cell? ⟨w.heap.size, 1, none⟩ = some (.int .i64 a1) := blk_cell k1 rfl
  have l20 : w1.cell? ⟨w.heap.size + 1, 0, none⟩ = some (.int .i64 b0) := blk_cell k2 rfl
  have l21 : w1.cell? ⟨w.heap.size + 1, 1, none⟩ = some (.int .i64 b1) := blk_cell k2 rfl
  clear k1 k2 kbA
  go_wp2_with fail
  refine wp_region_over (by kernel_rfl) (by kernel_rfl) ?_
  repeat (go_big_quiet_step (fail))
  refine wpQuiet_nil ?_
  intro w2 kb2
  have hN2 := hN1.below kb2
  have kbT := kb1.bt kb2
  obtain ⟨f1, f2⟩ := bcell kb2
  rw [← f1 _ _ l1] at l10 l11
  rw [← f1 _ _ l2] at l20 l21
  have l1 : _ < w2.heap.size := Nat.lt_of_lt_of_le l1 kb2.size
  have l2 : _ < w2.heap.size := Nat.lt_of_lt_of_le l2 kb2.size
  clear f1 f2 kb2 kb1 hN1
  go_wp2_with fail
  refine wp_region_over (by kernel_rfl) (by kernel_rfl) ?_
  repeat (go_big_quiet_step ((simp only [S1.out, S2.out, Result.andThen]; exact ⟨rfl, rfl⟩)))
  refine wpQuiet_nil ?_
  intro w3 kb3
  have hN3 := hN2.below kb3
  have kbT := kbT.bt kb3
  clear kb3 hN2 l1 l2 l10 l11 l20 l21
  go_wp2_with fail
  refine (reg_size _ hN3 r k hr hk).mono ?_
  rintro e w4 ⟨rfl, kb4⟩
  have hN4 := hN3.below kb4
  have kbT := kbT.bt kb4
  clear hN3 kb4
  go_wp2_with fail
  refine (reg_size _ hN4 r k hr hk).mono ?_
  rintro e w5 ⟨rfl, kb5⟩
  have hN5 := hN4.below kb5
  have kbT := kbT.bt kb5
  clear hN4 kb5
  go_wp2_with fail
  refine (reg_size _ hN5 r k hr hk).mono ?_
  rintro e w6 ⟨rfl, kb6⟩
  have hN6 := hN5.below kb6
  have kbT := kbT.bt kb6
  clear hN5 kb6
  go_wp2_with fail
  refine (reg_else _ hN6 r 3 hr (by decide)).mono ?_
  rintro e w7 ⟨rfl, kb7⟩
  have kbT := kbT.bt kb7
  clear hN6 kb7
  go_wp2_with fail
  refine (reg_high _ 16 _ (by decide) (by decide)).mono ?_
  rintro e w8 ⟨rfl, kb8⟩
  have kbT := kbT.bt kb8
  clear kb8
  go_wp2_with fail
  refine (reg_low _ (-1) _ (by decide)).mono ?_
  rintro e w9 ⟨rfl, kb9⟩
  have kbT := kbT.bt kb9
  clear kb9
  go_wp2_with fail
  go_returns
  exact ⟨rfl, kbT⟩
set_option maxRecDepth 100000 in
theorem regs_b (a0 a1 b0 b1 : Int) (w : World) (hN : GsOk w) (r k m : Nat) (hr : r < 16) (hk : k < 4) (hm : m < 4) (er : bits .and .i64 a0 15 = (r : Int)) (es : bits .and .i64 b0 15 = (r : Int)) (ek : bits .and .i64 a1 3 = (k : Int)) (em : bits .and .i64 b1 3 = (m : Int)) (E1 : (regN r k == regN r m) = false) (E2 : (wrap64 (2 ^ k) == wrap64 (2 ^ m)) = false) :
    Calls Tryd.prog 6 #[.agg #[.int .i64 a0, .int .i64 a1], .agg #[.int .i64 b0, .int .i64 b1]] w fun e w' => e = .returned (.bool true) ∧ Below w.heap.size w w' := by
  have hF : (regN r k == []) = false := by simpa using full hr hk
  go_enter Tryd.func6, Tryd.ntmps6
  go_wp2_with fail
  have S1 : ∀ w, (Op.shift .shl .i64 1 .i64 (bits .and .i64 a1 3)).run Tryd.prog w = .ok (.int .i64 ((2 ^ k : Nat) : Int)) w := fun w => by rw [ek]; exact shl_one k hk w
  have S2 : ∀ w, (Op.shift .shl .i64 1 .i64 (bits .and .i64 b1 3)).run Tryd.prog w = .ok (.int .i64 ((2 ^ m : Nat) : Int)) w := fun w => by rw [em]; exact shl_one m hm w
  have S1 := Lib.hid S1
  have S2 := Lib.hid S2
  have kbA : Below w.heap.size w ((w.alloc (Obj.cells #[Value.int IntKind.i64 a0, Value.int IntKind.i64 a1] 42)).alloc (Obj.cells #[Value.int IntKind.i64 b0, Value.int IntKind.i64 b1] 42)) := below_alloc _ (below_alloc _ (Below.refl _ _))
  refine (fit_vm _ (hN.below kbA)).mono ?_
  rintro e w1 ⟨rfl, kb1⟩
  have k1 := blk_below (blk_alloc (blk_new w _) _) kb1
  have k2 := blk_below (blk_new (w.alloc _) _) kb1
  rw [show (w.alloc (Obj.cells #[Value.int IntKind.i64 a0, Value.int IntKind.i64 a1] 42)).heap.size = w.heap.size + 1 from Array.size_push ..] at k2
  have kb1 := kbA.bt kb1
  have hN1 := hN.below kb1
  have l1 := blk_lt k1
  have l2 := blk_lt k2
  have l10 : w1.cell? ⟨w.heap.size, 0, none⟩ = some (.int .i64 a0) := blk_cell k1 rfl
  have l11 : w1.cell? ⟨w.heap.size, 1, none⟩ = some (.int .i64 a1) := blk_cell k1 rfl
  have l20 : w1.cell? ⟨w.heap.size + 1, 0, none⟩ = some (.int .i64 b0) := blk_cell k2 rfl
  have l21 : w1.cell? ⟨w.heap.size + 1, 1, none⟩ = some (.int .i64 b1) := blk_cell k2 rfl
  clear k1 k2 kbA
  go_wp2_with fail
  refine wp_region_over (by kernel_rfl) (by kernel_rfl) ?_
  repeat (go_big_quiet_step (fail))
  refine wpQuiet_nil ?_
  intro w2 kb2
  have hN2 := hN1.below kb2
  have kbT := kb1.bt kb2
  obtain ⟨f1, f2⟩ := bcell kb2
  rw [← f1 _ _ l1] at l10 l11
  rw [← f1 _ _ l2] at l20 l21
  have l1 : _ < w2.heap.size := Nat.lt_of_lt_of_le l1 kb2.size
  have l2 : _ < w2.heap.size := Nat.lt_of_lt_of_le l2 kb2.size
  clear f1 f2 kb2 kb1 hN1
  go_wp2_with fail
  refine wp_region_over (by kernel_rfl) (by kernel_rfl) ?_
  repeat (go_big_quiet_step ((simp only [S1.out, S2.out, Result.andThen]; exact ⟨rfl, rfl⟩)))
  refine wpQuiet_nil ?_
  intro w3 kb3
  have hN3 := hN2.below kb3
  have kbT := kbT.bt kb3
  clear kb3 hN2 l1 l2 l10 l11 l20 l21
  go_wp2_with fail
  refine (reg_size _ hN3 r k hr hk).mono ?_
  rintro e w4 ⟨rfl, kb4⟩
  have hN4 := hN3.below kb4
  have kbT := kbT.bt kb4
  clear hN3 kb4
  go_wp2_with fail
  refine (reg_size _ hN4 r m hr hm).mono ?_
  rintro e w5 ⟨rfl, kb5⟩
  have hN5 := hN4.below kb5
  have kbT := kbT.bt kb5
  clear hN4 kb5
  go_wp2_with fail
  refine (reg_size _ hN5 r k hr hk).mono ?_
  rintro e w6 ⟨rfl, kb6⟩
  have hN6 := hN5.below kb6
  have kbT := kbT.bt kb6
  clear hN5 kb6
  go_wp2_with fail
  refine (reg_else _ hN6 r 3 hr (by decide)).mono ?_
  rintro e w7 ⟨rfl, kb7⟩
  have kbT := kbT.bt kb7
  clear hN6 kb7
  go_wp2_with fail
  refine (reg_high _ 16 _ (by decide) (by decide)).mono ?_
  rintro e w8 ⟨rfl, kb8⟩
  have kbT := kbT.bt kb8
  clear kb8
  go_wp2_with fail
  refine (reg_low _ (-1) _ (by decide)).mono ?_
  rintro e w9 ⟨rfl, kb9⟩
  have kbT := kbT.bt kb9
  clear kb9
  go_wp2_with fail
  go_returns
  exact ⟨rfl, kbT⟩
set_option maxRecDepth 100000 in
theorem regs_c (a0 a1 b0 b1 : Int) (w : World) (hN : GsOk w) (r s k m : Nat) (hr : r < 16) (hs : s < 16) (hk : k < 4) (hm : m < 4) (er : bits .and .i64 a0 15 = (r : Int)) (es : bits .and .i64 b0 15 = (s : Int)) (ek : bits .and .i64 a1 3 = (k : Int)) (em : bits .and .i64 b1 3 = (m : Int)) (E1 : (regN r k == regN s m) = false) (E2 : ((r : Int) == (s : Int)) = false) :
    Calls Tryd.prog 6 #[.agg #[.int .i64 a0, .int .i64 a1], .agg #[.int .i64 b0, .int .i64 b1]] w fun e w' => e = .returned (.bool true) ∧ Below w.heap.size w w' := by
  have hF : (regN r k == []) = false := by simpa using full hr hk
  go_enter Tryd.func6, Tryd.ntmps6
  go_wp2_with fail
  have S1 : ∀ w, (Op.shift .shl .i64 1 .i64 (bits .and .i64 a1 3)).run Tryd.prog w = .ok (.int .i64 ((2 ^ k : Nat) : Int)) w := fun w => by rw [ek]; exact shl_one k hk w
  have S2 : ∀ w, (Op.shift .shl .i64 1 .i64 (bits .and .i64 b1 3)).run Tryd.prog w = .ok (.int .i64 ((2 ^ m : Nat) : Int)) w := fun w => by rw [em]; exact shl_one m hm w
  have S1 := Lib.hid S1
  have S2 := Lib.hid S2
  have kbA : Below w.heap.size w ((w.alloc (Obj.cells #[Value.int IntKind.i64 a0, Value.int IntKind.i64 a1] 42)).alloc (Obj.cells #[Value.int IntKind.i64 b0, Value.int IntKind.i64 b1] 42)) := below_alloc _ (below_alloc _ (Below.refl _ _))
  refine (fit_vm _ (hN.below kbA)).mono ?_
  rintro e w1 ⟨rfl, kb1⟩
  have k1 := blk_below (blk_alloc (blk_new w _) _) kb1
  have k2 := blk_below (blk_new (w.alloc _) _) kb1
  rw [show (w.alloc (Obj.cells #[Value.int IntKind.i64 a0, Value.int IntKind.i64 a1] 42)).heap.size = w.heap.size + 1 from Array.size_push ..] at k2
  have kb1 := kbA.bt kb1
  have hN1 := hN.below kb1
  have l1 := blk_lt k1
  have l2 := blk_lt k2
  have l10 : w1.cell? ⟨w.heap.size, 0, none⟩ = some (.int .i64 a0) := blk_cell k1 rfl
  have l11 : w1.cell? ⟨w.heap.size, 1, none⟩ = some (.int .i64 a1) := blk_cell k1 rfl
  have l20 : w1.cell? ⟨w.heap.size + 1, 0, none⟩ = some (.int .i64 b0) := blk_cell k2 rfl
  have l21 : w1.cell? ⟨w.heap.size + 1, 1, none⟩ = some (.int .i64 b1) := blk_cell k2 rfl
  clear k1 k2 kbA
  go_wp2_with fail
  refine wp_region_over (by kernel_rfl) (by kernel_rfl) ?_
  repeat (go_big_quiet_step (fail))
  refine wpQuiet_nil ?_
  intro w2 kb2
  have hN2 := hN1.below kb2
  have kbT := kb1.bt kb2
  obtain ⟨f1, f2⟩ := bcell kb2
  rw [← f1 _ _ l1] at l10 l11
  rw [← f1 _ _ l2] at l20 l21
  have l1 : _ < w2.heap.size := Nat.lt_of_lt_of_le l1 kb2.size
  have l2 : _ < w2.heap.size := Nat.lt_of_lt_of_le l2 kb2.size
  clear f1 f2 kb2 kb1 hN1
  go_wp2_with fail
  refine wp_region_over (by kernel_rfl) (by kernel_rfl) ?_
  repeat (go_big_quiet_step ((simp only [S1.out, S2.out, Result.andThen]; exact ⟨rfl, rfl⟩)))
  refine wpQuiet_nil ?_
  intro w3 kb3
  have hN3 := hN2.below kb3
  have kbT := kbT.bt kb3
  clear kb3 hN2 l1 l2 l10 l11 l20 l21
  go_wp2_with fail
  refine (reg_size _ hN3 r k hr hk).mono ?_
  rintro e w4 ⟨rfl, kb4⟩
  have hN4 := hN3.below kb4
  have kbT := kbT.bt kb4
  clear hN3 kb4
  go_wp2_with fail
  refine (reg_size _ hN4 s m hs hm).mono ?_
  rintro e w5 ⟨rfl, kb5⟩
  have hN5 := hN4.below kb5
  have kbT := kbT.bt kb5
  clear hN4 kb5
  go_wp2_with fail
  refine (reg_size _ hN5 r k hr hk).mono ?_
  rintro e w6 ⟨rfl, kb6⟩
  have hN6 := hN5.below kb6
  have kbT := kbT.bt kb6
  clear hN5 kb6
  go_wp2_with fail
  refine (reg_else _ hN6 r 3 hr (by decide)).mono ?_
  rintro e w7 ⟨rfl, kb7⟩
  have kbT := kbT.bt kb7
  clear hN6 kb7
  go_wp2_with fail
  refine (reg_high _ 16 _ (by decide) (by decide)).mono ?_
  rintro e w8 ⟨rfl, kb8⟩
  have kbT := kbT.bt kb8
  clear kb8
  go_wp2_with fail
  refine (reg_low _ (-1) _ (by decide)).mono ?_
  rintro e w9 ⟨rfl, kb9⟩
  have kbT := kbT.bt kb9
  clear kb9
  go_wp2_with fail
  go_returns
  exact ⟨rfl, kbT⟩
theorem regs_walk (a0 a1 b0 b1 : Int) (w : World) (hN : NeedOk gs w ∧ gn ≤ w.heap.size) :
    Calls Tryd.prog 6 #[.agg #[.int .i64 a0, .int .i64 a1], .agg #[.int .i64 b0, .int .i64 b1]] w fun e w' => e = .returned (.bool true) ∧ Below w.heap.size w w' := by
  have hN : GsOk w := hN
  obtain ⟨r, hr, er⟩ := and_bits a0 4 (by decide)
  obtain ⟨s, hs, es⟩ := and_bits b0 4 (by decide)
  obtain ⟨k, hk, ek⟩ := and_bits a1 2 (by decide)
  obtain ⟨m, hm, em⟩ := and_bits b1 2 (by decide)
  have hE := same hr hs hk hm
  by_cases h1 : r = s
  · subst h1
    by_cases h2 : k = m
    · subst h2
      exact regs_a a0 a1 b0 b1 w hN r k hr hk er es ek em
    · exact regs_b a0 a1 b0 b1 w hN r k m hr hk hm er es ek em (by rw [hE]; simpa using h2) (pow_ne hk hm h2)
  · exact regs_c a0 a1 b0 b1 w hN r s k m hr hs hk hm er es ek em (by rw [hE]; simp [h1]) (by simp only [beq_eq_false_iff_ne, ne_eq]; omega)
end Go.Proofs.YtpkbkmppkgeklaaDoor
