/- An instruction that came in as an argument. AsmShows: the law walked. No condition. -/
import Derived.Test.YtpkbkmppkgeklaaDoorOpen
import Derived.Test.YtpkbkmppkgeklaaDoorChecked
import Derived.Test.YtpkbkmppkgeklaaDoorShK
namespace Go.Proofs.YtpkbkmppkgeklaaDoor
open Go.RowKit
set_option linter.unusedVariables false
set_option linter.unusedSimpArgs false
set_option maxRecDepth 100000
theorem open_ins {H : Type} {enc : TypeId × Value → H} {w : World} {base : Nat} {spare : Nat → Bool} {held : Bool} {r : Reach} {b0 : Nat} {v : Value} {d : DataW H} {p : List MemPlace}
    (hv : Value.okWide Tryd.prog w r b0 23 v) (h : DataW.Trod enc Tryd.prog w base spare held 23 v d p) :
    ∃ (op dst src imm size : Int) (sg : Bool) (cond : Int) (to_ : ByteArray), v = .agg #[.int .i64 op, .int .i64 dst, .int .i64 src, .int .i64 imm, .int .i64 size, .bool sg, .int .i64 cond, .string to_] ∧
      In64 op ∧ In64 dst ∧ In64 src ∧ In64 imm ∧ In64 size ∧ In64 cond ∧ to_.size ≤ maxLen := by
  obtain ⟨v0, v1, v2, v3, v4, v5, v6, v7, y0, y1, y2, y3, y4, y5, y6, y7, n, rfl, t0, t1, t2, t3, t4, t5, t6, t7⟩ := open_agg8' Tryd.underlying23 (by kernel_rfl) (by kernel_rfl) hv h
  obtain ⟨a0, e0, _, w0⟩ := DataW.trod_int Tryd.underlying3 t0
  obtain ⟨a1, e1, _, w1⟩ := DataW.trod_int Tryd.underlying3 t1
  obtain ⟨a2, e2, _, w2⟩ := DataW.trod_int Tryd.underlying3 t2
  obtain ⟨a3, e3, _, w3⟩ := DataW.trod_int Tryd.underlying2 t3
  obtain ⟨a4, e4, _, w4⟩ := DataW.trod_int Tryd.underlying3 t4
  obtain ⟨a5, e5, _⟩ := DataW.trod_bool Tryd.underlying4 t5
  obtain ⟨a6, e6, _, w6⟩ := DataW.trod_int Tryd.underlying3 t6
  obtain ⟨a7, e7, _, w7⟩ := DataW.trod_string Tryd.underlying9 t7
  simp only [List.cons.injEq, and_true] at e0 e1 e2 e3 e4 e5 e6 e7
  subst e0 e1 e2 e3 e4 e5 e6 e7
  exact ⟨a0, a1, a2, a3, a4, a5, a6, a7, rfl, in64_of w0, in64_of w1, in64_of w2, in64_of w3, in64_of w4, in64_of w6, w7⟩
end Go.Proofs.YtpkbkmppkgeklaaDoor
namespace Go.Proofs.YtpkbkmppkgeklaaDoor
open Go.RowKit
set_option linter.unusedVariables false
set_option linter.unusedSimpArgs false
set_option maxHeartbeats 8000000
theorem show_full (op : Int) (dst src imm size : Int) (k : Nat) (g : Bool) (cond : Int) (tl : List UInt8) : showL op dst src imm size k g cond tl ≠ [] := by
  have hm : (moveF k g).1 ≠ [] := by unfold moveF; split <;> simp
  unfold showL
  by_cases h1 : op = 1
  · rw [if_pos h1]
    simp [hm]
  rw [if_neg h1]
  by_cases h2 : op = 2
  · rw [if_pos h2]
    split <;> simp
  rw [if_neg h2]
  by_cases h3 : op = 3
  · rw [if_pos h3]
    simp [hm]
  rw [if_neg h3]
  by_cases h4 : op = 4
  · rw [if_pos h4]
    simp [hm]
  rw [if_neg h4]
  by_cases h5 : op = 5
  · rw [if_pos h5]
    simp [hm]
  rw [if_neg h5]
  by_cases h6 : op = 6
  · rw [if_pos h6]
    simp [hm]
  rw [if_neg h6]
  by_cases h7 : op = 7
  · rw [if_pos h7]
    simp [hm]
  rw [if_neg h7]
  by_cases h8 : op = 8
  · rw [if_pos h8]
    simp [hm]
  rw [if_neg h8]
  by_cases h9 : op = 9
  · rw [if_pos h9]
    simp [hm]
  rw [if_neg h9]
  by_cases h10 : op = 10
  · rw [if_pos h10]
    simp [hm]
  rw [if_neg h10]
  by_cases h11 : op = 11
  · rw [if_pos h11]
    simp [hm]
  rw [if_neg h11]
  by_cases h12 : op = 12
  · rw [if_pos h12]
    simp [hm]
  rw [if_neg h12]
  by_cases h13 : op = 13
  · rw [if_pos h13]
    simp [hm]
  rw [if_neg h13]
  by_cases h14 : op = 14
  · rw [if_pos h14]
    simp [hm]
  rw [if_neg h14]
  by_cases h15 : op = 15
  · rw [if_pos h15]
    simp [hm]
  rw [if_neg h15]
  by_cases h16 : op = 16
  · rw [if_pos h16]
    simp [hm]
  rw [if_neg h16]
  by_cases h17 : op = 17
  · rw [if_pos h17]
    simp [hm]
  rw [if_neg h17]
  by_cases h18 : op = 18
  · rw [if_pos h18]
    simp [hm]
  rw [if_neg h18]
  by_cases h19 : op = 19
  · rw [if_pos h19]
    simp [hm]
  rw [if_neg h19]
  by_cases h20 : op = 20
  · rw [if_pos h20]
    simp [hm]
  rw [if_neg h20]
  by_cases h21 : op = 21
  · rw [if_pos h21]
    simp [hm]
  rw [if_neg h21]
  by_cases h22 : op = 22
  · rw [if_pos h22]
    simp [hm]
  rw [if_neg h22]
  by_cases h23 : op = 23
  · rw [if_pos h23]
    simp [hm]
  rw [if_neg h23]
  by_cases h24 : op = 24
  · rw [if_pos h24]
    simp [hm]
  rw [if_neg h24]
  by_cases h25 : op = 25
  · rw [if_pos h25]
    simp [hm]
  rw [if_neg h25]
  by_cases h26 : op = 26
  · rw [if_pos h26]
    simp [hm]
  rw [if_neg h26]
  by_cases h27 : op = 27
  · rw [if_pos h27]
    simp [hm]
  rw [if_neg h27]
  by_cases h28 : op = 28
  · rw [if_pos h28]
    simp [hm]
  rw [if_neg h28]
  by_cases h29 : op = 29
  · rw [if_pos h29]
    simp [hm]
  rw [if_neg h29]
  by_cases h30 : op = 30
  · rw [if_pos h30]
    simp [hm]
  rw [if_neg h30]
  by_cases h31 : op = 31
  · rw [if_pos h31]
    simp [hm]
  rw [if_neg h31]
  by_cases h32 : op = 32
  · rw [if_pos h32]
    simp [hm]
  rw [if_neg h32]
  by_cases h33 : op = 33
  · rw [if_pos h33]
    simp [hm]
  rw [if_neg h33]
  by_cases h34 : op = 34
  · rw [if_pos h34]
    simp [hm]
  rw [if_neg h34]
  by_cases h35 : op = 35
  · rw [if_pos h35]
    simp [hm]
  rw [if_neg h35]
  by_cases h36 : op = 36
  · rw [if_pos h36]
    simp [hm]
  rw [if_neg h36]
  by_cases h37 : op = 37
  · rw [if_pos h37]
    simp [hm]
  rw [if_neg h37]
  by_cases h38 : op = 38
  · rw [if_pos h38]
    simp [hm]
  rw [if_neg h38]
  by_cases h39 : op = 39
  · rw [if_pos h39]
    simp [hm]
  rw [if_neg h39]
  by_cases h40 : op = 40
  · rw [if_pos h40]
    simp [hm]
  rw [if_neg h40]
  simp
theorem showB_empty {op dst src imm size cond : Int} {g : Bool} {tl : List UInt8} (h : showB op dst src imm size g cond tl = []) (hQ : RQ op dst src imm size g cond tl) : namedB ⟨⟨tl⟩⟩ = false := by
  unfold showB at h
  split at h
  · exact absurd h (show_full _ _ _ _ _ _ _ _ _)
  · rename_i hg
    cases hn : namedB ⟨⟨tl⟩⟩ with
    | false => rfl
    | true => exact absurd ⟨hQ, fun _ => hn⟩ hg
set_option maxRecDepth 100000 in
theorem shows_law (op dst src imm size : Int) (g : Bool) (cond : Int) (tl : List UInt8) (w : World) (hN : GsOk w) (hP : PowOk w) (ho : In64 op) (hd : In64 dst) (hs : In64 src) (hi : In64 imm) (hz : In64 size) (hc : In64 cond) :
    Calls Tryd.prog 3 #[.agg #[.int .i64 op, .int .i64 dst, .int .i64 src, .int .i64 imm, .int .i64 size, .bool g, .int .i64 cond, .string ⟨⟨tl⟩⟩]] w fun e w' => e = .returned (.bool true) ∧ Below w.heap.size w w' := by
  obtain ⟨to_, hto⟩ : ∃ t : ByteArray, t = ⟨⟨tl⟩⟩ := ⟨_, rfl⟩
  have hlen : to_.size = tl.length := by rw [hto]; rfl
  obtain ⟨w0, hW0⟩ : ∃ W0, W0 = w.alloc (.cells #[.int .i64 op, .int .i64 dst, .int .i64 src, .int .i64 imm, .int .i64 size, .bool g, .int .i64 cond, .string to_] 23) := ⟨_, rfl⟩
  have HB0 := Lib.hid (show Below w.heap.size w w0 by rw [hW0]; exact below_alloc _ (Below.refl _ _))
  have HK0 := Lib.hid (show w0.heap[w.heap.size]? = some (.cells #[.int .i64 op, .int .i64 dst, .int .i64 src, .int .i64 imm, .int .i64 size, .bool g, .int .i64 cond, .string to_] 23 (0, 0)) by rw [hW0]; exact blk_new _ _)
  have HG := Lib.hid hN
  have HPW := Lib.hid hP
  have HA := Lib.hid (fun W (h1 : GsOk W) (h2 : PowOk W) (ht : tl.length ≤ 300) => show_any W h1 h2 op dst src imm size cond g tl ho hd hs hi hz hc ht)
  have HC := Lib.hid (fun W (h1 : GsOk W) (h2 : PowOk W) (ht : tl.length ≤ 300) => rshow_any W h1 h2 op dst src imm size cond g tl ho hd hs hi hz hc ht)
  have HRR := Lib.hid (fun W => rr_is op dst src imm size g cond tl ho hd hs hi hz hc W)
  have HNM := Lib.hid (fun W (h : to_.size ≤ 300) => rnamed_any W to_ (by unfold maxLen; omega))
  obtain ⟨S, hS⟩ : ∃ S : ByteArray, S = ⟨⟨showB op dst src imm size g cond tl⟩⟩ := ⟨_, rfl⟩
  rw [← hS, ← hto] at HA HC
  rw [← hto] at HRR ⊢
  have HSS := Lib.hid hS
  have HT := Lib.hid hto
  clear hN hP ho hd hs hi hz hc hS hto
  go_enter Tryd.func3, Tryd.ntmps3
  go_wp2_with fail
  rw [← hW0]
  clear hW0
  refine (fit_vm _ (HG.out.below HB0.out)).mono ?_
  rintro e w1 ⟨rfl, kb⟩
  have HB1 := Lib.hid (HB0.out.bt kb)
  have HK1 := Lib.hid (blk_below HK0.out kb)
  clear kb
  have c7 : w1.cell? ⟨w.heap.size, 7, none⟩ = some (.string to_) := blk_cell HK1.out rfl
  by_cases hbig : 200 < to_.size
  · go_wp2_with fail
    go_returns
    exact ⟨rfl, HB1.out⟩
  have c0 : w1.cell? ⟨w.heap.size, 0, none⟩ = some (.int .i64 op) := blk_cell HK1.out rfl
  have c1 : w1.cell? ⟨w.heap.size, 1, none⟩ = some (.int .i64 dst) := blk_cell HK1.out rfl
  have c2 : w1.cell? ⟨w.heap.size, 2, none⟩ = some (.int .i64 src) := blk_cell HK1.out rfl
  have c3 : w1.cell? ⟨w.heap.size, 3, none⟩ = some (.int .i64 imm) := blk_cell HK1.out rfl
  have c4 : w1.cell? ⟨w.heap.size, 4, none⟩ = some (.int .i64 size) := blk_cell HK1.out rfl
  have c5 : w1.cell? ⟨w.heap.size, 5, none⟩ = some (.bool g) := blk_cell HK1.out rfl
  have c6 : w1.cell? ⟨w.heap.size, 6, none⟩ = some (.int .i64 cond) := blk_cell HK1.out rfl
  have lw := blk_lt HK1.out
  have HL := Lib.hid (show tl.length ≤ 300 by omega)
  have HL2 := Lib.hid (show to_.size ≤ 300 by omega)
  have hse : (S.toList == S.toList) = true := beq_self_eq_true _
  clear hlen
  go_wp2_with fail
  by_cases hE : showB op dst src imm size g cond tl = []
  · have hS0 : S = ⟨⟨[]⟩⟩ := by rw [HSS.out, hE]
    subst hS0
    have hq1 : ((⟨⟨[]⟩⟩ : ByteArray).toList.isEmpty) = true := by kernel_rfl
    by_cases hQ : RQ op dst src imm size g cond tl
    · have HRB := Lib.hid (fun W => (HRR.out W).mono (fun en w' h => (⟨(right_bool h.1).1 hQ, h.2⟩ : en = Ending.returned (.bool true) ∧ Below W.heap.size W w')))
      have hj := showB_empty hE hQ
      have HNB := Lib.hid (fun W => HNM.out W HL2.out)
      rw [HT.out, hj] at HNB
      rw [← HT.out] at HNB
      clear hQ hj hE
      refine wp_region_over (by kernel_rfl) (by kernel_rfl) ?_
      repeat (go_big_quiet_step (first | (go_at_call 9; exact calls_over (by exact Nat.le_refl _) (HA.out _ ((HG.out.below HB1.out).below (over_below _ _ _)) ((HPW.out.below HB1.out).below (over_below _ _ _)) HL.out)) | (go_at_call 10; exact calls_over (by exact Nat.le_refl _) (HC.out _ ((HG.out.below HB1.out).below (over_below _ _ _)) ((HPW.out.below HB1.out).below (over_below _ _ _)) HL.out)) | (go_at_call 11; exact calls_over (by exact Nat.le_refl _) (HRB.out _)) | (go_at_call 12; exact calls_over (by exact Nat.le_refl _) (HNB.out _))))
      refine wpQuiet_nil ?_
      intro w2 kb2
      go_wp2_with fail
      go_returns
      exact ⟨rfl, HB1.out.bt kb2⟩
    · have HRB := Lib.hid (fun W => (HRR.out W).mono (fun en w' h => (⟨(right_bool h.1).2 hQ, h.2⟩ : en = Ending.returned (.bool false) ∧ Below W.heap.size W w')))
      clear hQ hE
      refine wp_region_over (by kernel_rfl) (by kernel_rfl) ?_
      repeat (go_big_quiet_step (first | (go_at_call 9; exact calls_over (by exact Nat.le_refl _) (HA.out _ ((HG.out.below HB1.out).below (over_below _ _ _)) ((HPW.out.below HB1.out).below (over_below _ _ _)) HL.out)) | (go_at_call 10; exact calls_over (by exact Nat.le_refl _) (HC.out _ ((HG.out.below HB1.out).below (over_below _ _ _)) ((HPW.out.below HB1.out).below (over_below _ _ _)) HL.out)) | (go_at_call 11; exact calls_over (by exact Nat.le_refl _) (HRB.out _))))
      refine wpQuiet_nil ?_
      intro w2 kb2
      go_wp2_with fail
      go_returns
      exact ⟨rfl, HB1.out.bt kb2⟩
  · have hn0 : ¬ S.toList = [] := by rw [HSS.out, toList_data]; exact hE
    have hn1 : S.toList.isEmpty = false := by cases h : S.toList with | nil => exact absurd h hn0 | cons => rfl
    have hn2 : (S.toList == []) = false := by simpa using hn0
    clear hE
    refine wp_region_over (by kernel_rfl) (by kernel_rfl) ?_
    repeat (go_big_quiet_step (first | (go_at_call 9; exact calls_over (by exact Nat.le_refl _) (HA.out _ ((HG.out.below HB1.out).below (over_below _ _ _)) ((HPW.out.below HB1.out).below (over_below _ _ _)) HL.out)) | (go_at_call 10; exact calls_over (by exact Nat.le_refl _) (HC.out _ ((HG.out.below HB1.out).below (over_below _ _ _)) ((HPW.out.below HB1.out).below (over_below _ _ _)) HL.out))))
    refine wpQuiet_nil ?_
    intro w2 kb2
    go_wp2_with fail
    go_returns
    exact ⟨rfl, HB1.out.bt kb2⟩
end Go.Proofs.YtpkbkmppkgeklaaDoor
