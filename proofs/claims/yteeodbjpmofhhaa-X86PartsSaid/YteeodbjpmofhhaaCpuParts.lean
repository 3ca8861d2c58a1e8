/- The walk of X86Parts. No condition. -/
import Derived.Test.YteeodbjpmofhhaaCpuP
namespace Go.Proofs.Yteeodbjpmofhhaa
open Go.RowKit
set_option linter.unusedVariables false
set_option maxHeartbeats 1000000
theorem bcell2 {W w1 : World} {B : Nat} (hB : B = W.heap.size) (hb : Below W.heap.size W w1) : (∀ b o, b < B → w1.cell? ⟨b, o, none⟩ = W.cell? ⟨b, o, none⟩) ∧ (∀ b o, b < B → w1.frozen? ⟨b, o, none⟩ = W.frozen? ⟨b, o, none⟩) := by
  subst hB; exact bcell hb
set_option maxRecDepth 100000 in
theorem parts_core (a b d t x n : Int) (z s c o z2 s2 o2 z3 s3 c3 o3 z4 s4 c4 o4 z5 s5 c5 o5 z6 s6 c6 o6 : Bool) (w : World) (ha : InU64 a) (hb : InU64 b) (hd : InU64 d) (hx : 0 ≤ x) (hn : 0 ≤ n) (hxn : x + n ≤ 18446744073709551615)
    (hc : c = decide (a < b)) (ht : t = IntKind.u64.wrap (x + n + n))
    (h1 : alu 8 a b noF = (d, ⟨z, s, c, o⟩, true)) (h2 : alu 7 d b noF = (a, ⟨z3, s3, c3, o3⟩, true)) (h3 : alu 13 a b noF = (a, ⟨z, s, c, o⟩, true))
    (h4 : alu 7 a b noF = (t, ⟨z2, s2, decide (t < a), o2⟩, true)) (h5 : alu 11 a b noF = (x, ⟨z4, s4, c4, o4⟩, true)) (h6 : alu 10 a b noF = (x + n, ⟨z5, s5, c5, o5⟩, true)) (h7 : alu 9 a b noF = (n, ⟨z6, s6, c6, o6⟩, true)) :
    Calls Try.prog 4 #[.int .u64 a, .int .u64 b] w fun e w' => e = .returned (.bool true) ∧ Below w.heap.size w w' := by
  have C1 := Lib.hid (fun w => alu_is _ _ _ _ _ _ _ _ _ _ w ha hb h1)
  have C2 := Lib.hid (fun w => alu_is _ _ _ _ _ _ _ _ _ _ w hd hb h2)
  have C3 := Lib.hid (fun w => alu_is _ _ _ _ _ _ _ _ _ _ w ha hb h3)
  have C4 := Lib.hid (fun w => alu_is _ _ _ _ _ _ _ _ _ _ w ha hb h4)
  have C5 := Lib.hid (fun w => alu_is _ _ _ _ _ _ _ _ _ _ w ha hb h5)
  have C6 := Lib.hid (fun w => alu_is _ _ _ _ _ _ _ _ _ _ w ha hb h6)
  have C7 := Lib.hid (fun w => alu_is _ _ _ _ _ _ _ _ _ _ w ha hb h7)
  clear h1 h2 h3 h4 h5 h6 h7 ha hb hd
  subst hc ht
  go_enter Try.func4, Try.ntmps4
  go_wp2_with fail
  refine (fit_walk _).mono ?_
  rintro e w1 ⟨rfl, kb1⟩
  go_wp2_with fail
  refine (C1.out _).mono ?_
  rintro e w2 ⟨rfl, hb2⟩
  have kb2 := kb1.bt hb2
  clear hb2
  go_wp2_with fail
  refine (C2.out _).mono ?_
  rintro e w3 ⟨rfl, hb3⟩
  have kb3 := kb2.bt (below_new hb3)
  have k2 := blk_below (blk_new w2 _) hb3
  clear hb3
  go_wp2_with fail
  refine (C3.out _).mono ?_
  rintro e w4 ⟨rfl, hb4⟩
  have kb4 := kb3.bt (below_new hb4)
  have k2 := blk_below (blk_alloc k2 _) hb4
  clear hb4
  go_wp2_with fail
  refine (C4.out _).mono ?_
  rintro e w5 ⟨rfl, hb5⟩
  have kb5 := kb4.bt (below_new hb5)
  have k2 := blk_below (blk_alloc k2 _) hb5
  have k4 := blk_below (blk_new w4 _) hb5
  clear hb5
  go_wp2_with fail
  refine (C5.out _).mono ?_
  rintro e w6 ⟨rfl, hb6⟩
  have kb6 := kb5.bt (below_new hb6)
  have k2 := blk_below (blk_alloc k2 _) hb6
  have k4 := blk_below (blk_alloc k4 _) hb6
  have k5 := blk_below (blk_new w5 _) hb6
  clear hb6
  go_wp2_with fail
  refine (C6.out _).mono ?_
  rintro e w7 ⟨rfl, hb7⟩
  have kb7 := kb6.bt (below_new hb7)
  have k2 := blk_below (blk_alloc k2 _) hb7
  have k4 := blk_below (blk_alloc k4 _) hb7
  have k5 := blk_below (blk_alloc k5 _) hb7
  clear hb7
  go_wp2_with fail
  refine (C7.out _).mono ?_
  rintro e w8 ⟨rfl, hb8⟩
  have kb8 := kb7.bt (below_new hb8)
  have k2 := blk_below (blk_alloc k2 _) hb8
  have k4 := blk_below (blk_alloc k4 _) hb8
  have k5 := blk_below (blk_alloc k5 _) hb8
  clear hb8
  have l20 : w8.cell? ⟨w2.heap.size, 0, none⟩ = some (.bool _) := blk_cell k2 rfl
  have l21 : w8.cell? ⟨w2.heap.size, 1, none⟩ = some (.bool _) := blk_cell k2 rfl
  have l22 : w8.cell? ⟨w2.heap.size, 2, none⟩ = some (.bool _) := blk_cell k2 rfl
  have l23 : w8.cell? ⟨w2.heap.size, 3, none⟩ = some (.bool _) := blk_cell k2 rfl
  have l40 : w8.cell? ⟨w4.heap.size, 0, none⟩ = some (.bool _) := blk_cell k4 rfl
  have l41 : w8.cell? ⟨w4.heap.size, 1, none⟩ = some (.bool _) := blk_cell k4 rfl
  have l42 : w8.cell? ⟨w4.heap.size, 2, none⟩ = some (.bool _) := blk_cell k4 rfl
  have l43 : w8.cell? ⟨w4.heap.size, 3, none⟩ = some (.bool _) := blk_cell k4 rfl
  have l50 : w8.cell? ⟨w5.heap.size, 0, none⟩ = some (.bool _) := blk_cell k5 rfl
  have l51 : w8.cell? ⟨w5.heap.size, 1, none⟩ = some (.bool _) := blk_cell k5 rfl
  have l52 : w8.cell? ⟨w5.heap.size, 2, none⟩ = some (.bool _) := blk_cell k5 rfl
  have l53 : w8.cell? ⟨w5.heap.size, 3, none⟩ = some (.bool _) := blk_cell k5 rfl
  have hz2 := blk_lt k2
  have hz4 := blk_lt k4
  have hz5 := blk_lt k5
  clear k2 k4 k5
  go_wp2_with fail
  go_returns
  refine ⟨ret_bool ?_, below_alloc _ kb8⟩
  simp
theorem parts_walk (a b : Int) (w : World) (ha : InU64 a) (hb : InU64 b) :
    Calls Try.prog 4 #[.int .u64 a, .int .u64 b] w fun e w' => e = .returned (.bool true) ∧ Below w.heap.size w w' := by
  have hx := xor_in a b ha hb
  have hn := and_in a b ha hb
  have ho := or_in a b ha hb
  have e1 := xor_and_or a b ha hb
  have e2 := or_and_sum a b ha hb
  have e3 : w64 (w64 (a - b) + b) = a := by
    obtain ⟨a1, a2⟩ := ha
    rw [w64_eq, w64_eq]; omega
  refine parts_core a b (w64 (a - b)) (w64 (a + b)) (bits .xor .u64 a b) (bits .and .u64 a b) (cmpF a b).z (cmpF a b).s (cmpF a b).c (cmpF a b).o (addF a b).z (addF a b).s (addF a b).o
    (addF (w64 (a - b)) b).z (addF (w64 (a - b)) b).s (addF (w64 (a - b)) b).c (addF (w64 (a - b)) b).o (logF (bits .xor .u64 a b)).z (logF (bits .xor .u64 a b)).s false false
    (logF (bits .or .u64 a b)).z (logF (bits .or .u64 a b)).s false false (logF (bits .and .u64 a b)).z (logF (bits .and .u64 a b)).s false false w ha hb (w64_in _) hx.1 hn.1 (by rw [e1]; exact ho.2) rfl
    (by rw [e1, e2]; rfl) (by simp [alu]) ?_ (by simp [alu]) (by simp [alu, addF]) (by simp [alu, logF]) (by rw [e1]; simp [alu, logF]) (by simp [alu, logF])
  have : alu 7 (w64 (a - b)) b noF = (w64 (w64 (a - b) + b), addF (w64 (a - b)) b, true) := by simp [alu]
  rw [this, e3]
end Go.Proofs.Yteeodbjpmofhhaa
