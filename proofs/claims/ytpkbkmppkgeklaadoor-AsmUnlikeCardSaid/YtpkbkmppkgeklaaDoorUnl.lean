/- AsmUnlike: the law walked. No condition. -/
import Derived.Test.YtpkbkmppkgeklaaDoorUni
import Derived.Test.YtpkbkmppkgeklaaDoorShL
import Derived.Laws.StructEq
namespace Go.Proofs.YtpkbkmppkgeklaaDoor
open Go.RowKit
set_option linter.unusedVariables false
set_option linter.unusedSimpArgs false
set_option maxHeartbeats 8000000
def eqInsB (op dst src imm size : Int) (g : Bool) (cond : Int) (s : ByteArray) (op1 dst1 src1 imm1 size1 : Int) (g1 : Bool) (cond1 : Int) (s1 : ByteArray) : Bool :=
  op == op1 && (dst == dst1 && (src == src1 && (imm == imm1 && (size == size1 && (g == g1 && (cond == cond1 && s.toList == s1.toList))))))
theorem eq_ins (op dst src imm size : Int) (g : Bool) (cond : Int) (s : ByteArray) (op1 dst1 src1 imm1 size1 : Int) (g1 : Bool) (cond1 : Int) (s1 : ByteArray) (w : World) :
    (Op.equalIn 10000 23 (.agg #[.int .i64 op, .int .i64 dst, .int .i64 src, .int .i64 imm, .int .i64 size, .bool g, .int .i64 cond, .string s]) (.agg #[.int .i64 op1, .int .i64 dst1, .int .i64 src1, .int .i64 imm1, .int .i64 size1, .bool g1, .int .i64 cond1, .string s1])).run Tryd.prog w
      = .ok (eqInsB op dst src imm size g cond s op1 dst1 src1 imm1 size1 g1 cond1 s1) w := by
  have u1 := Tryd.underlying3
  have a1 := Tryd.isAgg3
  have z1 := Tryd.sizeOf3
  have u2 := Tryd.underlying2
  have a2 := Tryd.isAgg2
  have z2 := Tryd.sizeOf2
  have u3 := Tryd.underlying4
  have a3 := Tryd.isAgg4
  have z3 := Tryd.sizeOf4
  have u4 := Tryd.underlying9
  have a4 := Tryd.isAgg9
  have z4 := Tryd.sizeOf9
  have hS : Tryd.prog.underlying 23 = some (.struct (Tryd.prog.fieldsOf 23)) := by kernel_rfl
  have hp : Tryd.prog.stoodInHeld 23 = false := by kernel_rfl
  rw [show (10000 : Nat) = 9999 + 1 from rfl, run_equalIn_agg w 9999 23 _ _ hS hp]
  simp only [Program.fieldsOf, Tryd.underlying23]
  go_simp
  unfold eqInsB
  repeat' split
  all_goals simp_all
theorem eqInsB_iff (op dst src imm size : Int) (g : Bool) (cond : Int) (tl : List UInt8) (op1 dst1 src1 imm1 size1 : Int) (g1 : Bool) (cond1 : Int) (tl1 : List UInt8) :
    eqInsB op dst src imm size g cond ⟨⟨tl⟩⟩ op1 dst1 src1 imm1 size1 g1 cond1 ⟨⟨tl1⟩⟩ = true ↔ op = op1 ∧ USame dst src imm size g cond tl dst1 src1 imm1 size1 g1 cond1 tl1 := by
  unfold eqInsB USame
  rw [toList_data, toList_data]
  simp only [Bool.and_eq_true, beq_iff_eq]
theorem showB_good {op dst src imm size cond : Int} {g : Bool} {tl : List UInt8} (h : showB op dst src imm size g cond tl ≠ []) : goodP op dst src imm size g cond tl ∧ showB op dst src imm size g cond tl = showL op dst src imm size (kOf size) g cond tl := by
  unfold showB at h ⊢
  by_cases hg : goodP op dst src imm size g cond tl
  · exact ⟨hg, if_pos hg⟩
  · rw [if_neg hg] at h; exact absurd rfl h
theorem unlike_plain {op dst src imm size cond : Int} {g : Bool} {tl : List UInt8} {op1 dst1 src1 imm1 size1 cond1 : Int} {g1 : Bool} {tl1 : List UInt8} (h : showB op dst src imm size g cond tl ≠ []) (h1 : showB op1 dst1 src1 imm1 size1 g1 cond1 tl1 ≠ []) :
    (showB op dst src imm size g cond tl = showB op1 dst1 src1 imm1 size1 g1 cond1 tl1) ↔ eqInsB op dst src imm size g cond ⟨⟨tl⟩⟩ op1 dst1 src1 imm1 size1 g1 cond1 ⟨⟨tl1⟩⟩ = true := by
  rw [eqInsB_iff]
  constructor
  · intro e
    obtain ⟨a, b⟩ := showB_good h
    obtain ⟨a1, b1⟩ := showB_good h1
    rw [b, b1] at e
    exact line_inj a a1 e
  · rintro ⟨rfl, rfl, rfl, rfl, rfl, rfl, rfl, rfl⟩
    rfl
set_option maxRecDepth 100000 in
theorem unlike_law (op dst src imm size : Int) (g : Bool) (cond : Int) (tl : List UInt8) (op1 dst1 src1 imm1 size1 : Int) (g1 : Bool) (cond1 : Int) (tl1 : List UInt8) (w : World) (hN : GsOk w) (hP : PowOk w) (ho : In64 op) (hd : In64 dst) (hs : In64 src) (hi : In64 imm) (hz : In64 size) (hc : In64 cond) (ho1 : In64 op1) (hd1 : In64 dst1) (hs1 : In64 src1) (hi1 : In64 imm1) (hz1 : In64 size1) (hc1 : In64 cond1) :
    Calls Tryd.prog 4 #[.agg #[.int .i64 op, .int .i64 dst, .int .i64 src, .int .i64 imm, .int .i64 size, .bool g, .int .i64 cond, .string ⟨⟨tl⟩⟩], .agg #[.int .i64 op1, .int .i64 dst1, .int .i64 src1, .int .i64 imm1, .int .i64 size1, .bool g1, .int .i64 cond1, .string ⟨⟨tl1⟩⟩]] w fun e w' => e = .returned (.bool true) ∧ Below w.heap.size w w' := by
  have HEQ := Lib.hid (unlike_plain (op := op) (dst := dst) (src := src) (imm := imm) (size := size) (cond := cond) (g := g) (tl := tl) (op1 := op1) (dst1 := dst1) (src1 := src1) (imm1 := imm1) (size1 := size1) (cond1 := cond1) (g1 := g1) (tl1 := tl1))
  obtain ⟨s0, hs0⟩ : ∃ t : ByteArray, t = ⟨⟨tl⟩⟩ := ⟨_, rfl⟩
  obtain ⟨s9, hs9⟩ : ∃ t : ByteArray, t = ⟨⟨tl1⟩⟩ := ⟨_, rfl⟩
  have hlen : s0.size = tl.length := by rw [hs0]; rfl
  have hlen1 : s9.size = tl1.length := by rw [hs9]; rfl
  obtain ⟨w0, hW0⟩ : ∃ W0, W0 = (w.alloc (.cells #[.int .i64 op, .int .i64 dst, .int .i64 src, .int .i64 imm, .int .i64 size, .bool g, .int .i64 cond, .string s0] 23)).alloc (.cells #[.int .i64 op1, .int .i64 dst1, .int .i64 src1, .int .i64 imm1, .int .i64 size1, .bool g1, .int .i64 cond1, .string s9] 23) := ⟨_, rfl⟩
  have HB0 := Lib.hid (show Below w.heap.size w w0 by rw [hW0]; exact below_alloc _ (below_alloc _ (Below.refl _ _)))
  have HK0 := Lib.hid (show w0.heap[w.heap.size]? = some (.cells #[.int .i64 op, .int .i64 dst, .int .i64 src, .int .i64 imm, .int .i64 size, .bool g, .int .i64 cond, .string s0] 23 (0, 0)) by rw [hW0]; exact blk_alloc (blk_new _ _) _)
  have HJ0 := Lib.hid (show w0.heap[w.heap.size + 1]? = some (.cells #[.int .i64 op1, .int .i64 dst1, .int .i64 src1, .int .i64 imm1, .int .i64 size1, .bool g1, .int .i64 cond1, .string s9] 23 (0, 0)) by rw [hW0, ← World.size_alloc]; exact blk_new _ _)
  have HG := Lib.hid hN
  have HPW := Lib.hid hP
  have HA := Lib.hid (fun W (h1 : GsOk W) (h2 : PowOk W) (ht : tl.length ≤ 300) => show_any W h1 h2 op dst src imm size cond g tl ho hd hs hi hz hc ht)
  have HA1 := Lib.hid (fun W (h1 : GsOk W) (h2 : PowOk W) (ht : tl1.length ≤ 300) => show_any W h1 h2 op1 dst1 src1 imm1 size1 cond1 g1 tl1 ho1 hd1 hs1 hi1 hz1 hc1 ht)
  have HRR := Lib.hid (fun W => rr_is op dst src imm size g cond tl ho hd hs hi hz hc W)
  have HRR1 := Lib.hid (fun W => rr_is op1 dst1 src1 imm1 size1 g1 cond1 tl1 ho1 hd1 hs1 hi1 hz1 hc1 W)
  obtain ⟨S, hS⟩ : ∃ S : ByteArray, S = ⟨⟨showB op dst src imm size g cond tl⟩⟩ := ⟨_, rfl⟩
  obtain ⟨S1, hS1⟩ : ∃ S : ByteArray, S = ⟨⟨showB op1 dst1 src1 imm1 size1 g1 cond1 tl1⟩⟩ := ⟨_, rfl⟩
  rw [← hS, ← hs0] at HA
  rw [← hS1, ← hs9] at HA1
  rw [← hs0] at HRR ⊢
  rw [← hs9] at HRR1 ⊢
  rw [← hs0, ← hs9] at HEQ
  have HSS := Lib.hid hS
  have HSS1 := Lib.hid hS1
  clear hN hP ho hd hs hi hz hc ho1 hd1 hs1 hi1 hz1 hc1 hS hS1 hs0 hs9
  obtain ⟨gB, hgB⟩ : ∃ n, n = w.heap.size + 1 := ⟨_, rfl⟩
  rw [← hgB] at HJ0
  have HGB := Lib.hid hgB
  clear hgB
  go_enter Tryd.func4, Tryd.ntmps4
  go_wp2_with fail
  rw [← hW0, ← HGB.out]
  clear hW0
  refine (fit_vm _ (HG.out.below HB0.out)).mono ?_
  rintro e w1 ⟨rfl, kb⟩
  have HB1 := Lib.hid (HB0.out.bt kb)
  have HK1 := Lib.hid (blk_below HK0.out kb)
  have HJ1 := Lib.hid (blk_below HJ0.out kb)
  clear kb
  have c7 : w1.cell? ⟨w.heap.size, 7, none⟩ = some (.string s0) := blk_cell HK1.out rfl
  have d7 : w1.cell? ⟨gB, 7, none⟩ = some (.string s9) := blk_cell HJ1.out rfl
  by_cases hbig : 200 < s0.size
  · go_wp2_with fail
    go_returns
    exact ⟨rfl, HB1.out⟩
  by_cases hbig1 : 200 < s9.size
  · go_wp2_with fail
    go_returns
    exact ⟨rfl, HB1.out⟩
  have HL := Lib.hid (show tl.length ≤ 300 by omega)
  have HL1 := Lib.hid (show tl1.length ≤ 300 by omega)
  clear hlen hlen1
  clear c7 d7
  obtain ⟨c0, c1, c2, c3, c4, c5, c6, c7⟩ := cells8 HK1.out
  obtain ⟨d0, d1, d2, d3, d4, d5, d6, d7⟩ := cells8 HJ1.out
  have lw := blk_lt HK1.out
  have lw9 := blk_lt HJ1.out
  by_cases hQ : RQ op dst src imm size g cond tl
  case neg =>
    have HRB := Lib.hid (fun W => (HRR.out W).mono (fun en w' h => (⟨(right_bool h.1).2 hQ, h.2⟩ : en = Ending.returned (.bool false) ∧ Below W.heap.size W w')))
    clear hQ
    go_wp2_with fail
    refine (HRB.out _).mono ?_
    rintro e w2 ⟨rfl, kb⟩
    go_wp2_with fail
    go_returns
    exact ⟨rfl, HB1.out.bt kb⟩
  have HRB := Lib.hid (fun W => (HRR.out W).mono (fun en w' h => (⟨(right_bool h.1).1 hQ, h.2⟩ : en = Ending.returned (.bool true) ∧ Below W.heap.size W w')))
  clear hQ
  go_wp2_with fail
  refine (HRB.out _).mono ?_
  rintro e w2 ⟨rfl, kb⟩
  have HB2 := Lib.hid (HB1.out.bt kb)
  have HK2 := Lib.hid (blk_below HK1.out kb)
  have HJ2 := Lib.hid (blk_below HJ1.out kb)
  clear kb c0 c1 c2 c3 c4 c5 c6 c7 d0 d1 d2 d3 d4 d5 d6 d7 lw lw9
  obtain ⟨d0, d1, d2, d3, d4, d5, d6, d7⟩ := cells8 HJ2.out
  have lw9 := blk_lt HJ2.out
  by_cases hQ1 : RQ op1 dst1 src1 imm1 size1 g1 cond1 tl1
  case neg =>
    have HRB1 := Lib.hid (fun W => (HRR1.out W).mono (fun en w' h => (⟨(right_bool h.1).2 hQ1, h.2⟩ : en = Ending.returned (.bool false) ∧ Below W.heap.size W w')))
    clear hQ1
    go_wp2_with fail
    refine (HRB1.out _).mono ?_
    rintro e w3 ⟨rfl, kb⟩
    go_wp2_with fail
    go_returns
    exact ⟨rfl, HB2.out.bt kb⟩
  have HRB1 := Lib.hid (fun W => (HRR1.out W).mono (fun en w' h => (⟨(right_bool h.1).1 hQ1, h.2⟩ : en = Ending.returned (.bool true) ∧ Below W.heap.size W w')))
  clear hQ1
  go_wp2_with fail
  refine (HRB1.out _).mono ?_
  rintro e w3 ⟨rfl, kb⟩
  have HB3 := Lib.hid (HB2.out.bt kb)
  have HK3 := Lib.hid (blk_below HK2.out kb)
  have HJ3 := Lib.hid (blk_below HJ2.out kb)
  clear kb d0 d1 d2 d3 d4 d5 d6 d7 lw9
  obtain ⟨c0, c1, c2, c3, c4, c5, c6, c7⟩ := cells8 HK3.out
  obtain ⟨d0, d1, d2, d3, d4, d5, d6, d7⟩ := cells8 HJ3.out
  have lw := blk_lt HK3.out
  have lw9 := blk_lt HJ3.out
  go_wp2_with fail
  refine wp_region_over (by kernel_rfl) (by kernel_rfl) ?_
  repeat (go_big_quiet_step (fail))
  go_big_quiet_step ((go_at_call 9; exact calls_over (by exact Nat.le_refl _) (HA.out _ ((HG.out.below HB3.out).below (over_below _ _ _)) ((HPW.out.below HB3.out).below (over_below _ _ _)) HL.out)))
  repeat (go_big_quiet_step (fail))
  go_big_quiet_step ((go_at_call 9; exact calls_over (by exact Nat.le_refl _) (HA1.out _ ((HG.out.below HB3.out).below (over_below _ _ _)) ((HPW.out.below HB3.out).below (over_below _ _ _)) HL1.out)))
  repeat (go_big_quiet_step (fail))
  refine wpQuiet_nil ?_
  intro w4 kb
  have HB4 := Lib.hid (HB3.out.bt kb)
  have HK4 := Lib.hid (blk_below HK3.out kb)
  have HJ4 := Lib.hid (blk_below HJ3.out kb)
  clear kb c0 c1 c2 c3 c4 c5 c6 c7 d0 d1 d2 d3 d4 d5 d6 d7 lw lw9
  obtain ⟨c0, c1, c2, c3, c4, c5, c6, c7⟩ := cells8 HK4.out
  obtain ⟨d0, d1, d2, d3, d4, d5, d6, d7⟩ := cells8 HJ4.out
  have lw := blk_lt HK4.out
  have lw9 := blk_lt HJ4.out
  by_cases hE : showB op dst src imm size g cond tl = []
  · have hS0 : S = ⟨⟨[]⟩⟩ := by rw [HSS.out, hE]
    subst hS0
    have hq1 : ((⟨⟨[]⟩⟩ : ByteArray).toList.isEmpty) = true := by kernel_rfl
    clear hE
    go_wp2_with fail
    go_returns
    exact ⟨rfl, HB4.out⟩
  have hn0 : ¬ S.toList = [] := by rw [HSS.out, toList_data]; exact hE
  have hn1 : S.toList.isEmpty = false := by cases h : S.toList with | nil => exact absurd h hn0 | cons => rfl
  have hn2 : (S.toList == []) = false := by simpa using hn0
  by_cases hE1 : showB op1 dst1 src1 imm1 size1 g1 cond1 tl1 = []
  · have hS0 : S1 = ⟨⟨[]⟩⟩ := by rw [HSS1.out, hE1]
    subst hS0
    have hq1 : ((⟨⟨[]⟩⟩ : ByteArray).toList.isEmpty) = true := by kernel_rfl
    clear hE hE1
    go_wp2_with fail
    go_returns
    exact ⟨rfl, HB4.out⟩
  have hm0 : ¬ S1.toList = [] := by rw [HSS1.out, toList_data]; exact hE1
  have hm1 : S1.toList.isEmpty = false := by cases h : S1.toList with | nil => exact absurd h hm0 | cons => rfl
  have hm2 : (S1.toList == []) = false := by simpa using hm0
  have hq := HEQ.out hE hE1
  have hst : S.toList = S1.toList ↔ showB op dst src imm size g cond tl = showB op1 dst1 src1 imm1 size1 g1 cond1 tl1 := by
    rw [HSS.out, HSS1.out, toList_data, toList_data]
  have he := fun W => eq_ins op dst src imm size g cond s0 op1 dst1 src1 imm1 size1 g1 cond1 s9 W
  cases hb : eqInsB op dst src imm size g cond s0 op1 dst1 src1 imm1 size1 g1 cond1 s9 with
  | true =>
    have h1 : (S.toList == S1.toList) = true := by rw [beq_iff_eq, hst, hq, hb]
    rw [hb] at he
    clear hq hst hb hE hE1
    go_wp2_with fail
    go_returns
    exact ⟨rfl, HB4.out⟩
  | false =>
    have h1 : (S.toList == S1.toList) = false := by
      cases h : S.toList == S1.toList with
      | false => rfl
      | true => rw [beq_iff_eq, hst, hq, hb] at h; cases h
    rw [hb] at he
    clear hq hst hb hE hE1
    go_wp2_with fail
    go_returns
    exact ⟨rfl, HB4.out⟩
end Go.Proofs.YtpkbkmppkgeklaaDoor
