/- ReadLines: the law walked. No condition. -/
import Derived.Test.YtmmpkkpmlaiapaaGreatDoorOpen
import Derived.Test.YtmmpkkpmlaiapaaGreatDoorQi
import Derived.Test.YtmmpkkpmlaiapaaGreatDoorQc
import Derived.Test.YtmmpkkpmlaiapaaGreatDoorQh
import Derived.Deep.Cut
import Derived.Deep.CutRange
import Derived.Deep.DeepCutAuto
namespace Go.Proofs.YtmmpkkpmlaiapaaGreatDoor
open Go.ChangeShapes Go.WideShapes Go.RowKit
set_option linter.unusedVariables false
set_option linter.unusedSimpArgs false
set_option maxRecDepth 100000
theorem open_ins {H : Type} {enc : TypeId × Value → H} {w : World} {base : Nat} {spare : Nat → Bool} {held : Bool} {r : Reach} {b0 : Nat} {v : Value} {d : DataW H} {p : List MemPlace}
    (hv : Value.okWide Tryz.prog w r b0 23 v) (h : DataW.Trod enc Tryz.prog w base spare held 23 v d p) :
    ∃ (op dst src imm size : Int) (sg : Bool) (cond : Int) (to_ : ByteArray), v = .agg #[.int .i64 op, .int .i64 dst, .int .i64 src, .int .i64 imm, .int .i64 size, .bool sg, .int .i64 cond, .string to_] ∧
      In64 op ∧ In64 dst ∧ In64 src ∧ In64 imm ∧ In64 size ∧ In64 cond ∧ to_.size ≤ maxLen := by
  obtain ⟨v0, v1, v2, v3, v4, v5, v6, v7, y0, y1, y2, y3, y4, y5, y6, y7, n, rfl, t0, t1, t2, t3, t4, t5, t6, t7⟩ := open_agg8' Tryz.underlying23 (by kernel_rfl) (by kernel_rfl) hv h
  obtain ⟨a0, e0, _, w0⟩ := DataW.trod_int Tryz.underlying3 t0
  obtain ⟨a1, e1, _, w1⟩ := DataW.trod_int Tryz.underlying3 t1
  obtain ⟨a2, e2, _, w2⟩ := DataW.trod_int Tryz.underlying3 t2
  obtain ⟨a3, e3, _, w3⟩ := DataW.trod_int Tryz.underlying2 t3
  obtain ⟨a4, e4, _, w4⟩ := DataW.trod_int Tryz.underlying3 t4
  obtain ⟨a5, e5, _⟩ := DataW.trod_bool Tryz.underlying4 t5
  obtain ⟨a6, e6, _, w6⟩ := DataW.trod_int Tryz.underlying3 t6
  obtain ⟨a7, e7, _, w7⟩ := DataW.trod_string Tryz.underlying9 t7
  simp only [List.cons.injEq, and_true] at e0 e1 e2 e3 e4 e5 e6 e7
  subst e0 e1 e2 e3 e4 e5 e6 e7
  exact ⟨a0, a1, a2, a3, a4, a5, a6, a7, rfl, in64_of w0, in64_of w1, in64_of w2, in64_of w3, in64_of w4, in64_of w6, w7⟩
set_option maxHeartbeats 8000000
def eqInsB (op dst src imm size : Int) (g : Bool) (cond : Int) (s : ByteArray) (op1 dst1 src1 imm1 size1 : Int) (g1 : Bool) (cond1 : Int) (s1 : ByteArray) : Bool :=
  op == op1 && (dst == dst1 && (src == src1 && (imm == imm1 && (size == size1 && (g == g1 && (cond == cond1 && s.toList == s1.toList))))))
theorem eq_ins (op dst src imm size : Int) (g : Bool) (cond : Int) (s : ByteArray) (op1 dst1 src1 imm1 size1 : Int) (g1 : Bool) (cond1 : Int) (s1 : ByteArray) (w : World) :
    (Op.equalIn 10000 23 (.agg #[.int .i64 op, .int .i64 dst, .int .i64 src, .int .i64 imm, .int .i64 size, .bool g, .int .i64 cond, .string s]) (.agg #[.int .i64 op1, .int .i64 dst1, .int .i64 src1, .int .i64 imm1, .int .i64 size1, .bool g1, .int .i64 cond1, .string s1])).run Tryz.prog w
      = .ok (eqInsB op dst src imm size g cond s op1 dst1 src1 imm1 size1 g1 cond1 s1) w := by
  have u1 := Tryz.underlying3
  have a1 := Tryz.isAgg3
  have z1 := Tryz.sizeOf3
  have u2 := Tryz.underlying2
  have a2 := Tryz.isAgg2
  have z2 := Tryz.sizeOf2
  have u3 := Tryz.underlying4
  have a3 := Tryz.isAgg4
  have z3 := Tryz.sizeOf4
  have u4 := Tryz.underlying9
  have a4 := Tryz.isAgg9
  have z4 := Tryz.sizeOf9
  have hS : Tryz.prog.underlying 23 = some (.struct (Tryz.prog.fieldsOf 23)) := by kernel_rfl
  have hp : Tryz.prog.stoodInHeld 23 = false := by kernel_rfl
  rw [show (10000 : Nat) = 9999 + 1 from rfl, run_equalIn_agg w 9999 23 _ _ hS hp]
  simp only [Program.fieldsOf, Tryz.underlying23]
  go_simp
  unfold eqInsB
  repeat' split
  all_goals simp_all
theorem rright_x (x : XInsD) (hx : XIn x) (hq : RQ x.op x.dst x.src x.imm x.size x.signed x.cond x.to_.data.toList) (W : World) : Calls Tryz.prog 9 #[.agg (insV x).toArray] W fun en w' => en = .returned (.bool true) ∧ Below W.heap.size W w' := by
  obtain ⟨op, dst, src, imm, size, g, cond, ⟨⟨tl⟩⟩⟩ := x
  obtain ⟨h1, h2, h3, h4, h5, h6, h7⟩ := hx
  refine (rr_is op dst src imm size g cond tl h1 h2 h3 h4 h5 h6 W).mono ?_
  rintro en w' ⟨h, hb⟩
  exact ⟨(right_bool h).1 hq, hb⟩
theorem rshow_x (w : World) (hN : GsOk w) (hP : PowOk w) (x : XInsD) (h : XIn x) : Calls Tryz.prog 7 #[.agg (insV x).toArray] w fun en w' => en = .returned (.string ⟨⟨showX x⟩⟩) ∧ Below w.heap.size w w' := by
  obtain ⟨op, dst, src, imm, size, g, cond, ⟨⟨tl⟩⟩⟩ := x
  obtain ⟨h1, h2, h3, h4, h5, h6, h7⟩ := h
  exact rshow_any w hN hP op dst src imm size cond g tl h1 h2 h3 h4 h5 h6 h7
theorem showX_len (x : XInsD) (h : XIn x) : (showX x).length ≤ 400 := by
  have h7 := h.2.2.2.2.2.2
  unfold showX showB
  split
  · exact Nat.le_trans (showL_len _ _ _ _ _ _ _ _ _ h.2.2.2.1) (by have : x.to_.data.toList.length = x.to_.size := rfl; omega)
  · simp
theorem showX_right {x : XInsD} {s : List UInt8} (h : showX x = s) (hs : s ≠ []) : RQ x.op x.dst x.src x.imm x.size x.signed x.cond x.to_.data.toList := by
  unfold showX showB at h
  split at h
  · rename_i hg; exact hg.1
  · exact absurd h.symm hs
theorem iz {w : World} {n : Nat} {y : XInsD} {T : TypeId} {q : Nat × Nat} (h : w.heap[n]? = some (.cells (insV y).toArray T q)) : w.cell? ⟨n, 0, none⟩ = some (.int .i64 y.op) ∧ w.cell? ⟨n, 1, none⟩ = some (.int .i64 y.dst) ∧ w.cell? ⟨n, 2, none⟩ = some (.int .i64 y.src) ∧ w.cell? ⟨n, 3, none⟩ = some (.int .i64 y.imm) ∧ w.cell? ⟨n, 4, none⟩ = some (.int .i64 y.size) ∧ w.cell? ⟨n, 5, none⟩ = some (.bool y.signed) ∧ w.cell? ⟨n, 6, none⟩ = some (.int .i64 y.cond) ∧ w.cell? ⟨n, 7, none⟩ = some (.string y.to_) ∧ n < w.heap.size := by
  refine ⟨?_, ?_, ?_, ?_, ?_, ?_, ?_, ?_, blk_lt h⟩ <;> exact blk_cell h rfl
theorem lines_law (op dst src imm size : Int) (g : Bool) (cond : Int) (to_ : ByteArray) (s : ByteArray) (w : World) (hN : GsOk w) (hR : RdOk w) (ho : In64 op) (hd : In64 dst) (hs : In64 src) (hi : In64 imm) (hz : In64 size) (hc : In64 cond) :
    Calls Tryz.prog 3 #[.agg #[.int .i64 op, .int .i64 dst, .int .i64 src, .int .i64 imm, .int .i64 size, .bool g, .int .i64 cond, .string to_], .string s] w fun e w' => e = .returned (.bool true) ∧ Below w.heap.size w w' := by
  have HXI := Lib.hid (fun (h : to_.size ≤ 300) => (⟨ho, hd, hs, hi, hz, hc, h⟩ : XIn ⟨op, dst, src, imm, size, g, cond, to_⟩))
  obtain ⟨w0, hW0⟩ : ∃ W0, W0 = w.alloc (.cells #[.int .i64 op, .int .i64 dst, .int .i64 src, .int .i64 imm, .int .i64 size, .bool g, .int .i64 cond, .string to_] 23) := ⟨_, rfl⟩
  have HB0 := Lib.hid (show Below w.heap.size w w0 by rw [hW0]; exact below_alloc _ (Below.refl _ _))
  have HK0 := Lib.hid (show w0.heap[w.heap.size]? = some (.cells #[.int .i64 op, .int .i64 dst, .int .i64 src, .int .i64 imm, .int .i64 size, .bool g, .int .i64 cond, .string to_] 23 (0, 0)) by rw [hW0]; exact blk_new _ _)
  have HG := Lib.hid hN
  have HR := Lib.hid hR
  clear hN hR ho hd hs hi hz hc
  obtain ⟨gx, hgx⟩ : ∃ z, z = w.heap.size := ⟨_, rfl⟩
  rw [← hgx] at HK0
  have HGX := Lib.hid hgx
  clear hgx
  go_enter Tryz.func3, Tryz.ntmps3
  go_wp2_with fail
  rw [← hW0, ← HGX.out]
  clear hW0
  refine (fit_vm _ (HG.out.below HB0.out)).mono ?_
  rintro e w1 ⟨rfl, kb⟩
  have HB1 := Lib.hid (HB0.out.bt kb)
  have HK1 := Lib.hid (blk_below HK0.out kb)
  clear kb HB0 HK0
  by_cases hs3 : 300 < s.size
  · go_wp2_with fail
    go_returns
    exact ⟨rfl, HB1.out⟩
  obtain ⟨c0, c1, c2, c3, c4, c5, c6, c7⟩ := cq HK1.out
  have lw := blk_lt HK1.out
  by_cases ht2 : 200 < to_.size
  · go_wp2_with fail
    go_returns
    exact ⟨rfl, HB1.out⟩
  obtain ⟨x, hx, hxi⟩ : ∃ x : XInsD, x = ⟨op, dst, src, imm, size, g, cond, to_⟩ ∧ XIn x := ⟨_, rfl, HXI.out (by omega)⟩
  have HX := Lib.hid hxi
  have HXE := Lib.hid hx
  clear hx hxi HXI
  have HS3 := Lib.hid (show s.size ≤ 1000000 by omega)
  have HSH := Lib.hid (fun W (h1 : GsOk W) (h2 : PowOk W) => rshow_x W h1 h2 x HX.out)
  obtain ⟨T, hT⟩ : ∃ T : ByteArray, T = ⟨⟨showX x⟩⟩ := ⟨_, rfl⟩
  rw [← hT] at HSH
  have HTT := Lib.hid (show T.data.toList = showX x by rw [hT])
  have HTS := Lib.hid (show T.size ≤ 1000000 by rw [hT]; exact Nat.le_trans (showX_len x HX.out) (by decide))
  clear hT
  rw [HXE.out] at HSH
  have hW1 : ∀ W, W = w1 → True := fun _ _ => trivial
  go_wp2_with fail
  refine (HSH.out _ (HG.out.below HB1.out) ((HR.out.later HB1.out).pw)).mono ?_
  rintro e w2 ⟨rfl, kb⟩
  have HB2 := Lib.hid (HB1.out.bt kb)
  have HK2 := Lib.hid (blk_below HK1.out kb)
  clear kb HB1 HK1 c0 c1 c2 c3 c4 c5 c6 c7 lw hW1
  go_upto_if 24 with (fail)
  go_cut [] (fun wx => Below w.heap.size w wx)
  case first =>
    by_cases hE : showX x = []
    · have hq : T.toList.isEmpty = true := by rw [Lib.toList_data, HTT.out, hE]; rfl
      rw [hq]
      go_wp2_with fail
      go_meet
      exact HB2.out
    · have hq : T.toList.isEmpty = false := by rw [Lib.toList_data, HTT.out]; simpa using hE
      have HE := Lib.hid hE
      clear hE
      rw [hq]
      go_wp2_with fail
      refine (line_any w2 (HR.out.later HB2.out) (HG.out.below HB2.out) T HTS.out).mono ?_
      rintro e w3 ⟨y, b, rfl, hp, hb3⟩
      have HB3 := Lib.hid (HB2.out.bt hb3)
      have HK3 := Lib.hid (blk_below HK2.out hb3)
      rw [HTT.out] at hp
      obtain ⟨rfl, rfl⟩ := line_back hp x HX.out rfl HE.out
      rw [HXE.out]
      clear hp hb3 HB2 HK2
      have HGW := Lib.hid (show gx < w3.heap.size from blk_lt HK3.out)
      go_upto_region 8 with (refine wpList_store_blk (by rfl) 23 _ _ (by rfl) w3.heap.size (by rfl) (by rfl) (blk_new w3 (.cells (insV insZ).toArray 23)) (by rfl) (by kernel_rfl) (by kernel_rfl) ?_; intro w4 k8 hb8 hz8 ho8)
      have HB4 := Lib.hid (hb8 w.heap.size w (by have := HB3.out.size; omega) (HB3.out.trans ((below_alloc (.cells (insV insZ).toArray 23) (Below.refl w3.heap.size w3)).mono HB3.out.size)))
      have HK4 := Lib.hid ((ho8 gx (Nat.ne_of_lt HGW.out)).trans (blk_alloc HK3.out _))
      have HZ := Lib.hid k8
      clear k8 hb8 hz8 ho8
      have c0 := blk_cell (i := 0) HK4.out rfl
      have z0 : w4.cell? ⟨w3.heap.size, 0, none⟩ = some (.int .i64 op) := blk_cell HZ.out rfl
      have c1 := blk_cell (i := 1) HK4.out rfl
      have z1 : w4.cell? ⟨w3.heap.size, 1, none⟩ = some (.int .i64 dst) := blk_cell HZ.out rfl
      have c2 := blk_cell (i := 2) HK4.out rfl
      have z2 : w4.cell? ⟨w3.heap.size, 2, none⟩ = some (.int .i64 src) := blk_cell HZ.out rfl
      have c3 := blk_cell (i := 3) HK4.out rfl
      have z3 : w4.cell? ⟨w3.heap.size, 3, none⟩ = some (.int .i64 imm) := blk_cell HZ.out rfl
      have c4 := blk_cell (i := 4) HK4.out rfl
      have z4 : w4.cell? ⟨w3.heap.size, 4, none⟩ = some (.int .i64 size) := blk_cell HZ.out rfl
      have c5 := blk_cell (i := 5) HK4.out rfl
      have z5 : w4.cell? ⟨w3.heap.size, 5, none⟩ = some (.bool g) := blk_cell HZ.out rfl
      have c6 := blk_cell (i := 6) HK4.out rfl
      have z6 : w4.cell? ⟨w3.heap.size, 6, none⟩ = some (.int .i64 cond) := blk_cell HZ.out rfl
      have c7 := blk_cell (i := 7) HK4.out rfl
      have z7 : w4.cell? ⟨w3.heap.size, 7, none⟩ = some (.string to_) := blk_cell HZ.out rfl
      have lw := blk_lt HK4.out
      have lz := blk_lt HZ.out
      have heq := eq_ins op dst src imm size g cond to_ op dst src imm size g cond to_ w4
      rw [show eqInsB op dst src imm size g cond to_ op dst src imm size g cond to_ = true by unfold eqInsB; simp] at heq
      go_wp2_with fail
      go_meet
      exact HB4.out
  case rest =>
    have HB := Lib.hid hcut
    clear hcut HB2 HK2
    go_wp2_with fail
    refine (line_any wc (HR.out.later HB.out) (HG.out.below HB.out) s HS3.out).mono ?_
    rintro e w3 ⟨y, b, rfl, hp, hb3⟩
    have HB3 := Lib.hid (HB.out.bt hb3)
    have HP := Lib.hid hp
    clear hp hb3 HB
    go_upto_region 11 with (refine wpList_store_blk (by rfl) 23 _ _ (by rfl) w3.heap.size (by rfl) (by rfl) (blk_new w3 (.cells (insV insZ).toArray 23)) (by rfl) (by kernel_rfl) (by kernel_rfl) ?_; intro w4 k8 hb8 hz8 ho8)
    have HB4 := Lib.hid (hb8 w.heap.size w HB3.out.size (HB3.out.trans ((below_alloc (.cells (insV insZ).toArray 23) (Below.refl w3.heap.size w3)).mono HB3.out.size)))
    have HZ := Lib.hid k8
    clear k8 hb8 hz8 ho8 HB3
    cases b with
    | false =>
      go_wp2_with fail
      go_returns
      exact ⟨rfl, by first | exact HB4.out | exact Below.drew HB4.out⟩
    | true =>
      obtain ⟨hyi, hys, hyn⟩ := line_is HP.out rfl
      have HQ := Lib.hid (showX_right hys hyn)
      have HYI := Lib.hid hyi
      have HYS := Lib.hid hys
      clear hyi hys hyn HP
      have HSY := Lib.hid (fun W (h1 : GsOk W) (h2 : PowOk W) => rshow_x W h1 h2 y HYI.out)
      have HRY := Lib.hid (fun W => rright_x y HYI.out HQ.out W)
      obtain ⟨S, hS⟩ : ∃ S : ByteArray, S = ⟨⟨showX y⟩⟩ := ⟨_, rfl⟩
      rw [← hS] at HSY
      have hss : (S.toList == s.toList) = true := by rw [hS, Lib.toList_data, Lib.toList_data, ← HYS.out]; exact beq_self_eq_true _
      clear hS
      obtain ⟨z0, z1, z2, z3, z4, z5, z6, z7, lz⟩ := iz (y := y) HZ.out
      go_wp2_with fail
      refine (HSY.out _ (HG.out.below HB4.out) ((HR.out.later HB4.out).pw)).mono ?_
      rintro e w5 ⟨rfl, kb⟩
      have HB5 := Lib.hid (HB4.out.bt kb)
      have HZ5 := Lib.hid (blk_below HZ.out kb)
      clear kb z0 z1 z2 z3 z4 z5 z6 z7 lz
      obtain ⟨z0, z1, z2, z3, z4, z5, z6, z7, lz⟩ := iz (y := y) HZ5.out
      go_wp2_with fail
      refine (HRY.out _).mono ?_
      rintro e w6 ⟨rfl, kb⟩
      have HB6 := Lib.hid (HB5.out.bt kb)
      clear kb
      go_wp2_with fail
      go_returns
      exact ⟨rfl, HB6.out⟩
end Go.Proofs.YtmmpkkpmlaiapaaGreatDoor
