/- The walk of X86Alu. No condition. -/
import Derived.Test.YteeodbjpmofhhaaCpuRef
namespace Go.Proofs.Yteeodbjpmofhhaa
open Go.RowKit
set_option linter.unusedVariables false
set_option maxHeartbeats 4000000
/-- both answer alike at an operation -/
theorem alu_split (op a b : Int) (f : Fl) : ∃ n z s c o ok, alu op a b f = (n, ⟨z, s, c, o⟩, ok) := ⟨_, _, _, _, _, _, rfl⟩
set_option maxRecDepth 100000 in
theorem alu_law (h0 h1 a b : Int) (w : World) (i0 : In64 h0) (i1 : In64 h1) (ha : InU64 a) (hb : InU64 b) :
    Calls Try.prog 3 #[.agg #[.int .i64 h0, .int .i64 h1], .int .u64 a, .int .u64 b] w fun e w' => e = .returned (.bool true) ∧ Below w.heap.size w w' := by
  have FL := Lib.hid (fun w => flags_walk h1 w)
  have IA := Lib.hid (fun op f n z s c o ok w hr => alu_is op a b f n z s c o ok w ha hb hr)
  have IR := Lib.hid (fun op f n z s c o ok w ho hr => ref_is op a b f n z s c o ok w ho ha hb hr)
  have CW := Lib.hid (fun w => compare_walk a b w ha hb)
  obtain ⟨k, hk, hkl⟩ : ∃ k : Nat, (h0.tmod 23 + 23) % 23 = (k : Int) ∧ k < 23 := ⟨((h0.tmod 23 + 23) % 23).toNat, by omega, by omega⟩
  have hlo : -22 ≤ h0.tmod 23 ∧ h0.tmod 23 ≤ 22 := by rw [tmod_eq_if]; split <;> omega
  obtain ⟨i01, i02⟩ := i0
  clear i1 ha hb
  go_enter Try.func3, Try.ntmps3
  go_wp2_with fail
  refine (fit_walk _).mono ?_
  rintro e w1 ⟨rfl, hb1⟩
  obtain ⟨hc1, hf1⟩ := bcell hb1
  have hz1 : w.heap.size < w1.heap.size := by have := hb1.size; simp at this; omega
  have kb1 := below_new hb1
  clear hb1
  go_wp2_with fail
  refine (FL.out _).mono ?_
  rintro e w2 ⟨⟨f, rfl⟩, hb2⟩
  obtain ⟨hc2, hf2⟩ := bcell hb2
  have hz2 : w.heap.size < w2.heap.size := by have := hb2.size; omega
  have kb2 := kb1.bt hb2
  clear hb2
  obtain ⟨fz, fs, fc, fo⟩ := f
  unfold Fl.v
  go_wp2_with fail
  have kF : ((w2.alloc (.cells #[.bool fz, .bool fs, .bool fc, .bool fo] 26)).alloc (.cells #[.int .i64 h0, .int .i64 (7 + k)] 3)).heap[w2.heap.size]? = some (.cells #[.bool fz, .bool fs, .bool fc, .bool fo] 26 (0, 0)) := blk_alloc (blk_new _ _) _
  have kS : ((w2.alloc (.cells #[.bool fz, .bool fs, .bool fc, .bool fo] 26)).alloc (.cells #[.int .i64 h0, .int .i64 (7 + k)] 3)).heap[w2.heap.size + 1]? = some (.cells #[.int .i64 h0, .int .i64 (7 + k)] 3 (0, 0)) := by
    have := blk_new (w2.alloc (.cells #[.bool fz, .bool fs, .bool fc, .bool fo] 26)) (.cells #[.int .i64 h0, .int .i64 (7 + k)] 3)
    simpa using this
  have kb := below_alloc (.cells #[.int .i64 h0, .int .i64 (7 + k)] 3) (below_alloc (.cells #[.bool fz, .bool fs, .bool fc, .bool fo] 26) kb2)
  clear hc1 hf1 hc2 hf2 hz1 kb1
  have hzz : w.heap.size ≤ w2.heap.size := by omega
  clear hz2
  generalize hW : (w2.alloc (.cells #[.bool fz, .bool fs, .bool fc, .bool fo] 26)).alloc (.cells #[.int .i64 h0, .int .i64 (7 + k)] 3) = W0 at *
  clear hW
  have KF := Lib.hid kF
  have KS := Lib.hid kS
  clear kF kS kb2
  generalize w2.heap.size = bF at *
  rw [hk]
  clear hk
  go_loopw [34] (fun i wr => ∃ j : Nat, j ≤ 2 ∧ i = .int .i64 j ∧ Below w.heap.size w wr ∧ wr.heap[bF]? = some (.cells #[.bool fz, .bool fs, .bool fc, .bool fo] 26 (0, 0)) ∧ wr.heap[bF + 1]? = some (.cells #[.int .i64 h0, .int .i64 (7 + k)] 3 (0, 0))) (fun i _ => 2 - (intOf i).toNat)
  case atStart => exact ⟨0, by omega, rfl, kb, KF.out, KS.out⟩
  case round =>
    clear kb KF KS
    obtain ⟨j, hj, rfl, kb, kF, kS⟩ := hrel
    have hbS := blk_lt kS
    by_cases hlt : j < 2
    · obtain ⟨op, hop, cop⟩ : ∃ op, In64 op ∧ wr.cell? ⟨bF + 1, j, none⟩ = some (.int .i64 op) := by
        have : j = 0 ∨ j = 1 := by omega
        rcases this with rfl | rfl
        · exact ⟨_, ⟨i01, i02⟩, blk_cell kS rfl⟩
        · exact ⟨_, by unfold In64; omega, blk_cell kS rfl⟩
      obtain ⟨n, z, s, c, o, ok, hr⟩ := alu_split op a b ⟨fz, fs, fc, fo⟩
      have A1 := Lib.hid (fun w => IA.out op _ n z s c o ok w hr)
      have R1 := Lib.hid (fun w => IR.out op _ n z s c o ok w hop hr)
      unfold Fl.v at A1 R1
      have c0 : wr.cell? ⟨bF, 0, none⟩ = some (.bool fz) := blk_cell kF rfl
      have c1 : wr.cell? ⟨bF, 1, none⟩ = some (.bool fs) := blk_cell kF rfl
      have c2 : wr.cell? ⟨bF, 2, none⟩ = some (.bool fc) := blk_cell kF rfl
      have c3 : wr.cell? ⟨bF, 3, none⟩ = some (.bool fo) := blk_cell kF rfl
      have KF := Lib.hid kF
      have KS := Lib.hid kS
      clear kF kS hr hop
      go_wp2_with fail
      refine (A1.out _).mono ?_
      rintro e w3 ⟨rfl, hb3⟩
      clear c0 c1 c2 c3 cop
      have kF3 := blk_below KF.out hb3
      have KS3 := Lib.hid (blk_below KS.out hb3)
      have kb3 := kb.bt hb3
      have hz3 : bF < w3.heap.size := blk_lt kF3
      have c0 : w3.cell? ⟨bF, 0, none⟩ = some (.bool fz) := blk_cell kF3 rfl
      have c1 : w3.cell? ⟨bF, 1, none⟩ = some (.bool fs) := blk_cell kF3 rfl
      have c2 : w3.cell? ⟨bF, 2, none⟩ = some (.bool fc) := blk_cell kF3 rfl
      have c3 : w3.cell? ⟨bF, 3, none⟩ = some (.bool fo) := blk_cell kF3 rfl
      have KF3 := Lib.hid kF3
      clear kF3 hb3 KF KS
      go_wp2_with fail
      refine (R1.out _).mono ?_
      rintro e w4 ⟨rfl, hb4⟩
      have k11 := blk_below (blk_new w3 _) hb4
      have KF4 := Lib.hid (blk_below (blk_alloc KF3.out _) hb4)
      have KS4 := Lib.hid (blk_below (blk_alloc KS3.out _) hb4)
      have kb4 := kb3.bt (below_new hb4)
      have hz4 := blk_lt k11
      clear hb4 c0 c1 c2 c3
      have c0 : w4.cell? ⟨w3.heap.size, 0, none⟩ = some (.bool z) := blk_cell k11 rfl
      have c1 : w4.cell? ⟨w3.heap.size, 1, none⟩ = some (.bool s) := blk_cell k11 rfl
      have c2 : w4.cell? ⟨w3.heap.size, 2, none⟩ = some (.bool c) := blk_cell k11 rfl
      have c3 : w4.cell? ⟨w3.heap.size, 3, none⟩ = some (.bool o) := blk_cell k11 rfl
      clear k11
      go_wp2_with fail
      go_roundw
      case rel => exact ⟨j + 1, by omega, by go_num, below_alloc _ kb4, blk_alloc KF4.out _, blk_alloc KS4.out _⟩
      case measure => simp [intOf]; omega
    · obtain rfl : j = 2 := by omega
      have R1 := Lib.hid (fun w => IR.out 8 ⟨fz, fs, fc, fo⟩ (w64 (a - b)) _ _ _ _ true w ⟨by decide, by decide⟩ (show alu 8 a b ⟨fz, fs, fc, fo⟩ = (w64 (a - b), ⟨(cmpF a b).z, (cmpF a b).s, (cmpF a b).c, (cmpF a b).o⟩, true) by simp [alu]))
      unfold Fl.v at R1
      have CW2 := Lib.hid CW.out
      unfold Fl.v at CW2
      clear CW
      generalize (cmpF a b).z = z at *
      generalize (cmpF a b).s = s at *
      generalize (cmpF a b).c = c at *
      generalize (cmpF a b).o = o at *
      have c0 : wr.cell? ⟨bF, 0, none⟩ = some (.bool fz) := blk_cell kF rfl
      have c1 : wr.cell? ⟨bF, 1, none⟩ = some (.bool fs) := blk_cell kF rfl
      have c2 : wr.cell? ⟨bF, 2, none⟩ = some (.bool fc) := blk_cell kF rfl
      have c3 : wr.cell? ⟨bF, 3, none⟩ = some (.bool fo) := blk_cell kF rfl
      clear kF kS
      go_wp2_with fail
      refine (R1.out _).mono ?_
      rintro e w3 ⟨rfl, hb3⟩
      have kb3 := kb.bt hb3
      clear hb3 c0 c1 c2 c3
      go_wp2_with fail
      refine wp_region_over (by kernel_rfl) (by kernel_rfl) ?_
      repeat (go_big_quiet_step ((go_at_call 12; exact calls_over (by first | exact Nat.le_refl _ | simp) (CW2.out _))))
      refine wpQuiet_nil ?_
      intro w4 hb4
      go_wp2
      go_returns
      refine ⟨ret_bool (by simp), ?_⟩
      exact kb3.bt (below_new hb4)
end Go.Proofs.Yteeodbjpmofhhaa
