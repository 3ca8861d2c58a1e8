/- CtypeSame: the law walked. No condition. -/
import Derived.Test.YtilljobnaoefiaaCsT
import Derived.Test.YtilljobnaoefiaaCsS
import Derived.Test.YtilljobnaoefiaaCsR
import Derived.Test.YtilljobnaoefiaaFit02
namespace Go.Proofs.Ytilljobnaoefiaa
open Go.RowKit
set_option linter.unusedVariables false
set_option maxHeartbeats 8000000
/-- a whole type is loaded -/
theorem load_run {S : World → Prop} {op : Oper} {a : Act} (x : Operand) (ho : op.op = .load 29 x) (g : Nat) (hx : a.eval x = .pointer (some ⟨g, 0, none⟩)) (cs : List Value) (hl : cs.length = 9) (hS : ∀ w, S w → w.heap[g]? = some (.cells cs.toArray 29 (0, 0))) :
    ∀ w, S w → (execOp a.eval op).run Try.prog w = .ok (.value (.agg cs.toArray)) w := fun w hw => by
  have hc : w.rangeAt g 0 cs := fun j v hv => by rw [Nat.zero_add]; exact blk_cell (hS w hw) (by simpa using hv)
  have hi : (Try.prog.info? 29).map (·.size) = some cs.length := by rw [hl]; kernel_rfl
  unfold execOp
  simp only [ho, hx, Instr.loadAt, Instr.sureAddr, Sem.run_bind, Sem.run_pure, Result.andThen_ok, run_loadVar_mid w g 0 29 cs _ hc Try.underlying29 rfl hi]
theorem sameT_fn {t r a b : Ty} (h : t.kind ≠ 5) : sameT (.fn r a b) t = false := sameT_kind _ _ (fun e => h e.symm)
set_option maxRecDepth 100000 in
theorem samelaw (w : World) (s1 s2 : ShapeD) (vs1 vs2 : Value) (hs1 : SlR w 2 PairR vs1 s1.steps) (hs2 : SlR w 2 PairR vs2 s2.steps) : Calls Try.prog 3 #[.agg #[.int .i64 s1.int, vs1], .agg #[.int .i64 s2.int, vs2]] w fun e w' => e = .returned (.bool true) ∧ Below w.heap.size w w' := by
  obtain ⟨A1, cap1, rfl, h11, h12, h13⟩ := hs1
  obtain ⟨A2, cap2, rfl, h21, h22, h23⟩ := hs2
  have H1 := Lib.hid (show SlR w 2 PairR (.slice A1 s1.steps.length cap1) s1.steps from ⟨A1, cap1, rfl, h11, h12, h13⟩)
  have H2 := Lib.hid (show SlR w 2 PairR (.slice A2 s2.steps.length cap2) s2.steps from ⟨A2, cap2, rfl, h21, h22, h23⟩)
  clear h11 h12 h13 h21 h22 h23
  go_enter Try.func3, Try.ntmps3
  go_wp2_with fail
  obtain ⟨w1, hw1⟩ : ∃ z, z = (w.alloc (.cells #[.int .i64 s1.int, .slice A1 s1.steps.length cap1] 24)).alloc (.cells #[.int .i64 s2.int, .slice A2 s2.steps.length cap2] 24) := ⟨_, rfl⟩
  have HB1 := Lib.hid (show Below w.heap.size w w1 by rw [hw1]; exact below_alloc _ (below_alloc _ (Below.refl _ _)))
  have K1 := Lib.hid (show w1.heap[w.heap.size]? = some (.cells #[.int .i64 s1.int, .slice A1 s1.steps.length cap1] 24 (0, 0)) by rw [hw1]; exact blk_alloc (blk_new w _) _)
  have K2 := Lib.hid (show w1.heap[w.heap.size + 1]? = some (.cells #[.int .i64 s2.int, .slice A2 s2.steps.length cap2] 24 (0, 0)) by rw [hw1]; exact blk_new' (by simp))
  rw [← hw1]
  clear hw1
  refine (fit_vm _).mono ?_
  rintro e w2 ⟨rfl, hb2⟩
  have HB2 := Lib.hid (HB1.out.bt hb2)
  have K12 := Lib.hid (blk_below K1.out hb2)
  have K22 := Lib.hid (blk_below K2.out hb2)
  have y0 := blk_cell (i := 0) K12.out rfl
  have y1 := blk_cell (i := 1) K12.out rfl
  have yl := blk_lt K12.out
  clear hb2
  go_wp2_with fail
  clear y0 y1 yl
  refine (type_any w2 s1 _ (H1.out.later (by decide) HB2.out)).mono ?_
  rintro e w3 ⟨tx, dsx, okx, rfl, htx, hkx, hb3⟩
  obtain ⟨x0, x1, x2, x3, x4, x5, x6, x7, x8, x9, xA, rfl⟩ := id htx.ten
  have HTX := Lib.hid htx
  have HKX := Lib.hid hkx
  have HB3 := Lib.hid (HB2.out.bt hb3)
  have K23 := Lib.hid (blk_below K22.out hb3)
  clear htx hkx hb3
  unfold tyCells at HTX ⊢
  have z0 := later (blk_cell (i := 0) K23.out rfl) (below_alloc (.cells #[.int .i64 x0, .int .i64 x1, .bool x2, .bool x3, .pointer x4, .int .i64 x5, .int .i64 x6, .slice x7 x8 x9, .pointer xA] 29) (Below.refl _ _))
  have z1 := later (blk_cell (i := 1) K23.out rfl) (below_alloc (.cells #[.int .i64 x0, .int .i64 x1, .bool x2, .bool x3, .pointer x4, .int .i64 x5, .int .i64 x6, .slice x7 x8 x9, .pointer xA] 29) (Below.refl _ _))
  have zl : w.heap.size + 1 < w3.heap.size := blk_lt K23.out
  have z0' := blk_cell (i := 0) K23.out rfl
  have z1' := blk_cell (i := 1) K23.out rfl
  go_wp2_with fail
  clear z0 z1 zl z0' z1'
  obtain ⟨w4, hw4⟩ : ∃ z, z = w3.alloc (.cells #[.int .i64 x0, .int .i64 x1, .bool x2, .bool x3, .pointer x4, .int .i64 x5, .int .i64 x6, .slice x7 x8 x9, .pointer xA] 29) := ⟨_, rfl⟩
  have GX := Lib.hid (show w4.heap[w3.heap.size]? = some (.cells #[.int .i64 x0, .int .i64 x1, .bool x2, .bool x3, .pointer x4, .int .i64 x5, .int .i64 x6, .slice x7 x8 x9, .pointer xA] 29 (0, 0)) by rw [hw4]; exact blk_new w3 _)
  have HB34 := Lib.hid (show Below w3.heap.size w3 w4 by rw [hw4]; exact below_alloc _ (Below.refl _ _))
  rw [← hw4]
  clear hw4
  obtain ⟨gx, hgx⟩ : ∃ z, z = w3.heap.size := ⟨_, rfl⟩
  rw [← hgx] at GX ⊢
  clear hgx
  have HTX4 := Lib.hid (HTX.out.later HB34.out)
  have HB4 := Lib.hid (HB3.out.bt HB34.out)
  refine (type_any w4 s2 _ (H2.out.later (by decide) HB4.out)).mono ?_
  rintro e w5 ⟨ty, dsy, oky, rfl, hty, hky, hb5⟩
  obtain ⟨y0, y1, y2, y3, y4, y5, y6, y7, y8, y9, yA, rfl⟩ := id hty.ten
  have HTY := Lib.hid hty
  have HKY := Lib.hid hky
  have HB5 := Lib.hid (HB4.out.bt hb5)
  have HTX5 := Lib.hid (HTX4.out.later hb5)
  have GX5 := Lib.hid (blk_below GX.out hb5)
  clear hty hky hb5
  unfold tyCells at HTY ⊢
  obtain ⟨w6, hw6⟩ : ∃ z, z = w5.alloc (.cells #[.int .i64 y0, .int .i64 y1, .bool y2, .bool y3, .pointer y4, .int .i64 y5, .int .i64 y6, .slice y7 y8 y9, .pointer yA] 29) := ⟨_, rfl⟩
  have HB6 := Lib.hid (show Below w.heap.size w w6 by rw [hw6]; exact below_alloc _ HB5.out)
  cases okx with
  | false =>
    go_wp2_with fail
    go_returns
    exact ⟨rfl, by rw [← hw6]; exact HB6.out⟩
  | true =>
  cases oky with
  | false =>
    go_wp2_with fail
    go_returns
    exact ⟨rfl, by rw [← hw6]; exact HB6.out⟩
  | true =>
  have GY := Lib.hid (show w6.heap[w5.heap.size]? = some (.cells #[.int .i64 y0, .int .i64 y1, .bool y2, .bool y3, .pointer y4, .int .i64 y5, .int .i64 y6, .slice y7 y8 y9, .pointer yA] 29 (0, 0)) by rw [hw6]; exact blk_new w5 _)
  have HB56 := Lib.hid (show Below w5.heap.size w5 w6 by rw [hw6]; exact below_alloc _ (Below.refl _ _))
  have GX6 := Lib.hid (blk_below GX5.out HB56.out)
  obtain ⟨gy, hgy⟩ : ∃ z, z = w5.heap.size := ⟨_, rfl⟩
  rw [← hgy] at GY
  have HGY := Lib.hid hgy
  go_upto_region 7 with fail
  rw [← hw6, ← hgy]
  clear hw6 hgy
  have f0 : w6.cell? ⟨gx, 0, none⟩ = some (.int .i64 x0) := blk_cell GX6.out rfl
  have f1 : w6.cell? ⟨gx, 1, none⟩ = some (.int .i64 x1) := blk_cell GX6.out rfl
  have f2 : w6.cell? ⟨gx, 2, none⟩ = some (.bool x2) := blk_cell GX6.out rfl
  have f3 : w6.cell? ⟨gx, 3, none⟩ = some (.bool x3) := blk_cell GX6.out rfl
  have f4 : w6.cell? ⟨gx, 4, none⟩ = some (.pointer x4) := blk_cell GX6.out rfl
  have f5 : w6.cell? ⟨gx, 5, none⟩ = some (.int .i64 x5) := blk_cell GX6.out rfl
  have f6 : w6.cell? ⟨gx, 6, none⟩ = some (.int .i64 x6) := blk_cell GX6.out rfl
  have f7 : w6.cell? ⟨gx, 7, none⟩ = some (.slice x7 x8 x9) := blk_cell GX6.out rfl
  have f8 : w6.cell? ⟨gx, 8, none⟩ = some (.pointer xA) := blk_cell GX6.out rfl
  have h0 : w6.cell? ⟨gy, 0, none⟩ = some (.int .i64 y0) := blk_cell GY.out rfl
  have h1 : w6.cell? ⟨gy, 1, none⟩ = some (.int .i64 y1) := blk_cell GY.out rfl
  have h2 : w6.cell? ⟨gy, 2, none⟩ = some (.bool y2) := blk_cell GY.out rfl
  have h3 : w6.cell? ⟨gy, 3, none⟩ = some (.bool y3) := blk_cell GY.out rfl
  have h4 : w6.cell? ⟨gy, 4, none⟩ = some (.pointer y4) := blk_cell GY.out rfl
  have h5 : w6.cell? ⟨gy, 5, none⟩ = some (.int .i64 y5) := blk_cell GY.out rfl
  have h6 : w6.cell? ⟨gy, 6, none⟩ = some (.int .i64 y6) := blk_cell GY.out rfl
  have h7 : w6.cell? ⟨gy, 7, none⟩ = some (.slice y7 y8 y9) := blk_cell GY.out rfl
  have h8 : w6.cell? ⟨gy, 8, none⟩ = some (.pointer yA) := blk_cell GY.out rfl
  have xl := blk_lt GX6.out
  have yl := blk_lt GY.out
  go_wp2_with fail
  clear f0 h0 f1 h1 f2 h2 f3 h3 f4 h4 f5 h5 f6 h6 f7 h7 f8 h8 xl yl
  obtain ⟨wb, hwb⟩ : ∃ z, z = (((w6.alloc (.cells #[.int .i64 y0, .int .i64 y1, .bool y2, .bool y3, .pointer y4, .int .i64 y5, .int .i64 y6, .slice y7 y8 y9, .pointer yA, .int .i64 x0, .int .i64 x1, .bool x2, .bool x3, .pointer x4, .int .i64 x5, .int .i64 x6, .slice x7 x8 x9, .pointer xA] 29)).alloc (.cells #[.int .i64 5, .int .i64 0, .bool false, .bool false, .pointer none, .int .i64 0, .int .i64 0, .slice (some ⟨w6.heap.size, 0, none⟩) 2 2, .pointer (some ⟨gx, 0, none⟩)] 29)).alloc (.cells #[.int .i64 x0, .int .i64 x1, .bool x2, .bool x3, .pointer x4, .int .i64 x5, .int .i64 x6, .slice x7 x8 x9, .pointer xA, .int .i64 y0, .int .i64 y1, .bool y2, .bool y3, .pointer y4, .int .i64 y5, .int .i64 y6, .slice y7 y8 y9, .pointer yA] 29)).alloc (.cells #[.int .i64 5, .int .i64 0, .bool false, .bool false, .pointer none, .int .i64 0, .int .i64 0, .slice (some ⟨w6.heap.size + 2, 0, none⟩) 2 2, .pointer (some ⟨gy, 0, none⟩)] 29) := ⟨_, rfl⟩
  have KP1 := Lib.hid (show wb.heap[w6.heap.size]? = some (.cells #[.int .i64 y0, .int .i64 y1, .bool y2, .bool y3, .pointer y4, .int .i64 y5, .int .i64 y6, .slice y7 y8 y9, .pointer yA, .int .i64 x0, .int .i64 x1, .bool x2, .bool x3, .pointer x4, .int .i64 x5, .int .i64 x6, .slice x7 x8 x9, .pointer xA] 29 (0, 0)) by rw [hwb]; exact blk_alloc (blk_alloc (blk_alloc (blk_new w6 _) _) _) _)
  have KF1 := Lib.hid (show wb.heap[w6.heap.size + 1]? = some (.cells #[.int .i64 5, .int .i64 0, .bool false, .bool false, .pointer none, .int .i64 0, .int .i64 0, .slice (some ⟨w6.heap.size, 0, none⟩) 2 2, .pointer (some ⟨gx, 0, none⟩)] 29 (0, 0)) by rw [hwb]; exact blk_alloc (blk_alloc (blk_new' (by simp)) _) _)
  have KP2 := Lib.hid (show wb.heap[w6.heap.size + 2]? = some (.cells #[.int .i64 x0, .int .i64 x1, .bool x2, .bool x3, .pointer x4, .int .i64 x5, .int .i64 x6, .slice x7 x8 x9, .pointer xA, .int .i64 y0, .int .i64 y1, .bool y2, .bool y3, .pointer y4, .int .i64 y5, .int .i64 y6, .slice y7 y8 y9, .pointer yA] 29 (0, 0)) by rw [hwb]; exact blk_alloc (blk_new' (by simp)) _)
  have KF2 := Lib.hid (show wb.heap[w6.heap.size + 3]? = some (.cells #[.int .i64 5, .int .i64 0, .bool false, .bool false, .pointer none, .int .i64 0, .int .i64 0, .slice (some ⟨w6.heap.size + 2, 0, none⟩) 2 2, .pointer (some ⟨gy, 0, none⟩)] 29 (0, 0)) by rw [hwb]; exact blk_new' (by simp))
  have HB6b := Lib.hid (show Below w6.heap.size w6 wb by rw [hwb]; exact below_alloc _ (below_alloc _ (below_alloc _ (below_alloc _ (Below.refl _ _)))))
  have HBb := Lib.hid (HB6.out.bt HB6b.out)
  have GXb := Lib.hid (blk_below GX6.out HB6b.out)
  have GYb := Lib.hid (blk_below GY.out HB6b.out)
  have TX := Lib.hid ((HTX5.out.later HB56.out).later HB6b.out)
  have TY := Lib.hid ((HTY.out.later HB56.out).later HB6b.out)
  rw [show (((w6.alloc (.cells #[.int .i64 y0, .int .i64 y1, .bool y2, .bool y3, .pointer y4, .int .i64 y5, .int .i64 y6, .slice y7 y8 y9, .pointer yA, .int .i64 x0, .int .i64 x1, .bool x2, .bool x3, .pointer x4, .int .i64 x5, .int .i64 x6, .slice x7 x8 x9, .pointer xA] 29)).alloc (.cells #[.int .i64 5, .int .i64 0, .bool false, .bool false, .pointer none, .int .i64 0, .int .i64 0, .slice (some ⟨w6.heap.size, 0, none⟩) 2 2, .pointer (some ⟨gx, 0, none⟩)] 29)).alloc (.cells #[.int .i64 x0, .int .i64 x1, .bool x2, .bool x3, .pointer x4, .int .i64 x5, .int .i64 x6, .slice x7 x8 x9, .pointer xA, .int .i64 y0, .int .i64 y1, .bool y2, .bool y3, .pointer y4, .int .i64 y5, .int .i64 y6, .slice y7 y8 y9, .pointer yA] 29)).alloc (.cells #[.int .i64 5, .int .i64 0, .bool false, .bool false, .pointer none, .int .i64 0, .int .i64 0, .slice (some ⟨w6.heap.size + 2, 0, none⟩) 2 2, .pointer (some ⟨gy, 0, none⟩)] 29) = wb from hwb.symm]
  clear hwb
  have TF := Lib.hid (show TyC wb (fun _ => True) (.fn tx ty tx) [.int .i64 5, .int .i64 0, .bool false, .bool false, .pointer none, .int .i64 0, .int .i64 0, .slice (some ⟨w6.heap.size, 0, none⟩) 2 2, .pointer (some ⟨gx, 0, none⟩)] from ⟨gx, w6.heap.size, 2, [.int .i64 x0, .int .i64 x1, .bool x2, .bool x3, .pointer x4, .int .i64 x5, .int .i64 x6, .slice x7 x8 x9, .pointer xA], [.int .i64 y0, .int .i64 y1, .bool y2, .bool y3, .pointer y4, .int .i64 y5, .int .i64 y6, .slice y7 y8 y9, .pointer yA], [.int .i64 x0, .int .i64 x1, .bool x2, .bool x3, .pointer x4, .int .i64 x5, .int .i64 x6, .slice x7 x8 x9, .pointer xA], rfl, ⟨trivial, trivial⟩, GXb.out, KP1.out, TX.out, TY.out, TX.out⟩)
  have TG := Lib.hid (show TyC wb (fun _ => True) (.fn ty tx ty) [.int .i64 5, .int .i64 0, .bool false, .bool false, .pointer none, .int .i64 0, .int .i64 0, .slice (some ⟨w6.heap.size + 2, 0, none⟩) 2 2, .pointer (some ⟨gy, 0, none⟩)] from ⟨gy, w6.heap.size + 2, 2, [.int .i64 y0, .int .i64 y1, .bool y2, .bool y3, .pointer y4, .int .i64 y5, .int .i64 y6, .slice y7 y8 y9, .pointer yA], [.int .i64 x0, .int .i64 x1, .bool x2, .bool x3, .pointer x4, .int .i64 x5, .int .i64 x6, .slice x7 x8 x9, .pointer xA], [.int .i64 y0, .int .i64 y1, .bool y2, .bool y3, .pointer y4, .int .i64 y5, .int .i64 y6, .slice y7 y8 y9, .pointer yA], rfl, ⟨trivial, trivial⟩, GYb.out, KP2.out, TY.out, TX.out, TY.out⟩)
  obtain ⟨bxy, hxy⟩ : ∃ z, sameT tx ty = z := ⟨_, rfl⟩
  obtain ⟨bfg, hfg⟩ : ∃ z, sameT (.fn tx ty tx) (.fn ty tx ty) = z := ⟨_, rfl⟩
  obtain ⟨bss, hss⟩ : ∃ z, sameT (secT tx) (secT ty) = z := ⟨_, rfl⟩
  have HXY := Lib.hid hxy
  have HFG := Lib.hid hfg
  have HSS := Lib.hid hss
  clear hxy hfg hss
  have C1 := Lib.hid (fun (W : World) (hb : Below wb.heap.size wb W) => (same_any tx tx W _ _ [.int .i64 x0, .int .i64 x1, .bool x2, .bool x3, .pointer x4, .int .i64 x5, .int .i64 x6, .slice x7 x8 x9, .pointer xA] [.int .i64 x0, .int .i64 x1, .bool x2, .bool x3, .pointer x4, .int .i64 x5, .int .i64 x6, .slice x7 x8 x9, .pointer xA] (TX.out.later hb) (TX.out.later hb)).mono (fun e w' h => (⟨h.1.trans (by rw [sameT_refl]), h.2⟩ : e = Ending.returned (.bool true) ∧ Below W.heap.size W w')))
  have C2 := Lib.hid (fun (W : World) (hb : Below wb.heap.size wb W) => (same_any tx ty W _ _ [.int .i64 x0, .int .i64 x1, .bool x2, .bool x3, .pointer x4, .int .i64 x5, .int .i64 x6, .slice x7 x8 x9, .pointer xA] [.int .i64 y0, .int .i64 y1, .bool y2, .bool y3, .pointer y4, .int .i64 y5, .int .i64 y6, .slice y7 y8 y9, .pointer yA] (TX.out.later hb) (TY.out.later hb)).mono (fun e w' h => (⟨h.1.trans (by rw [HXY.out]), h.2⟩ : e = Ending.returned (.bool bxy) ∧ Below W.heap.size W w')))
  have C3 := Lib.hid (fun (W : World) (hb : Below wb.heap.size wb W) => (rsame_any tx ty W _ _ [.int .i64 x0, .int .i64 x1, .bool x2, .bool x3, .pointer x4, .int .i64 x5, .int .i64 x6, .slice x7 x8 x9, .pointer xA] [.int .i64 y0, .int .i64 y1, .bool y2, .bool y3, .pointer y4, .int .i64 y5, .int .i64 y6, .slice y7 y8 y9, .pointer yA] (TX.out.later hb) (TY.out.later hb)).mono (fun e w' h => (⟨h.1.trans (by rw [HXY.out]), h.2⟩ : e = Ending.returned (.bool bxy) ∧ Below W.heap.size W w')))
  have C4 := Lib.hid (fun (W : World) (hb : Below wb.heap.size wb W) => (same_any (.fn tx ty tx) (.fn tx ty tx) W _ _ [.int .i64 5, .int .i64 0, .bool false, .bool false, .pointer none, .int .i64 0, .int .i64 0, .slice (some ⟨w6.heap.size, 0, none⟩) 2 2, .pointer (some ⟨gx, 0, none⟩)] [.int .i64 5, .int .i64 0, .bool false, .bool false, .pointer none, .int .i64 0, .int .i64 0, .slice (some ⟨w6.heap.size, 0, none⟩) 2 2, .pointer (some ⟨gx, 0, none⟩)] (TF.out.later hb) (TF.out.later hb)).mono (fun e w' h => (⟨h.1.trans (by rw [sameT_refl]), h.2⟩ : e = Ending.returned (.bool true) ∧ Below W.heap.size W w')))
  have C5 := Lib.hid (fun (W : World) (hb : Below wb.heap.size wb W) => (same_any (.fn tx ty tx) (.fn ty tx ty) W _ _ [.int .i64 5, .int .i64 0, .bool false, .bool false, .pointer none, .int .i64 0, .int .i64 0, .slice (some ⟨w6.heap.size, 0, none⟩) 2 2, .pointer (some ⟨gx, 0, none⟩)] [.int .i64 5, .int .i64 0, .bool false, .bool false, .pointer none, .int .i64 0, .int .i64 0, .slice (some ⟨w6.heap.size + 2, 0, none⟩) 2 2, .pointer (some ⟨gy, 0, none⟩)] (TF.out.later hb) (TG.out.later hb)).mono (fun e w' h => (⟨h.1.trans (by rw [HFG.out]), h.2⟩ : e = Ending.returned (.bool bfg) ∧ Below W.heap.size W w')))
  have C6 := Lib.hid (fun (W : World) (hb : Below wb.heap.size wb W) => (rsame_any (.fn tx ty tx) (.fn ty tx ty) W _ _ [.int .i64 5, .int .i64 0, .bool false, .bool false, .pointer none, .int .i64 0, .int .i64 0, .slice (some ⟨w6.heap.size, 0, none⟩) 2 2, .pointer (some ⟨gx, 0, none⟩)] [.int .i64 5, .int .i64 0, .bool false, .bool false, .pointer none, .int .i64 0, .int .i64 0, .slice (some ⟨w6.heap.size + 2, 0, none⟩) 2 2, .pointer (some ⟨gy, 0, none⟩)] (TF.out.later hb) (TG.out.later hb)).mono (fun e w' h => (⟨h.1.trans (by rw [HFG.out]), h.2⟩ : e = Ending.returned (.bool bfg) ∧ Below W.heap.size W w')))
  have C7 := Lib.hid (fun (W : World) (hb : Below wb.heap.size wb W) => (same_any (.fn tx ty tx) tx W _ _ [.int .i64 5, .int .i64 0, .bool false, .bool false, .pointer none, .int .i64 0, .int .i64 0, .slice (some ⟨w6.heap.size, 0, none⟩) 2 2, .pointer (some ⟨gx, 0, none⟩)] [.int .i64 x0, .int .i64 x1, .bool x2, .bool x3, .pointer x4, .int .i64 x5, .int .i64 x6, .slice x7 x8 x9, .pointer xA] (TF.out.later hb) (TX.out.later hb)).mono (fun e w' h => (⟨h.1.trans (by rw [sameT_fn HKX.out]), h.2⟩ : e = Ending.returned (.bool false) ∧ Below W.heap.size W w')))
  have CX := Lib.hid (fun (W : World) (hb : Below wb.heap.size wb W) => secret_any tx W (fun _ => True) [.int .i64 x0, .int .i64 x1, .bool x2, .bool x3, .pointer x4, .int .i64 x5, .int .i64 x6, .slice x7 x8 x9, .pointer xA] (TX.out.later hb))
  have CY := Lib.hid (fun (W : World) (hb : Below wb.heap.size wb W) => secret_any ty W (fun _ => True) [.int .i64 y0, .int .i64 y1, .bool y2, .bool y3, .pointer y4, .int .i64 y5, .int .i64 y6, .slice y7 y8 y9, .pointer yA] (TY.out.later hb))
  have hc0 : Below wb.heap.size wb wb.drew := Below.drew (Below.refl _ _)
  refine upto_begin 45 (fun w' => Below wb.heap.size wb w') (by kernel_rfl) ?_ (fun hU0 => ?_)
  · exact Below.drew (Below.refl _ _)
  first | refine upto_read 0 (v := ?_) hU0 (by kernel_rfl) rfl (by kernel_rfl) (by kernel_rfl) (by kernel_rfl) (by kernel_rfl) (by kernel_rfl) (fun _ _ _ h => h) (Or.inl ⟨by rfl, ?_⟩) ?_ | fail
  rotate_left
  · refine load_run (S := fun w' => Below wb.heap.size wb w') ?lx0 ?lo0 gx ?lh0 [.int .i64 x0, .int .i64 x1, .bool x2, .bool x3, .pointer x4, .int .i64 x5, .int .i64 x6, .slice x7 x8 x9, .pointer xA] rfl (fun w hw => blk_below GXb.out hw)
    case lo0 => rfl
    case lh0 => rfl
  try simp only [Act.put, List.setIfInBounds_toArray, List.set_cons_zero, List.set_cons_succ]
  first | refine upto_read 1 (v := ?_) hU0 (by kernel_rfl) rfl (by kernel_rfl) (by kernel_rfl) (by kernel_rfl) (by kernel_rfl) (by kernel_rfl) (fun _ _ _ h => h) (Or.inl ⟨by rfl, ?_⟩) ?_ | fail
  rotate_left
  · refine load_run (S := fun w' => Below wb.heap.size wb w') ?lx1 ?lo1 gx ?lh1 [.int .i64 x0, .int .i64 x1, .bool x2, .bool x3, .pointer x4, .int .i64 x5, .int .i64 x6, .slice x7 x8 x9, .pointer xA] rfl (fun w hw => blk_below GXb.out hw)
    case lo1 => rfl
    case lh1 => rfl
  try simp only [Act.put, List.setIfInBounds_toArray, List.set_cons_zero, List.set_cons_succ]
  first | refine upto_next 2 rfl (by kernel_rfl) (fun K hK => ?_) | fail
  go_simp
  go_at_call 8
  refine (C1.out wb.drew hc0).mono ?_
  rintro e v1 ⟨rfl, hd1⟩
  have hc1 : Below wb.heap.size wb v1 := ⟨hd1.os, hd1.tape, hd1.output, hd1.size, hd1.block⟩
  try go_simp
  first | refine hK.out _ _ ?_ (fun hU1 => ?_) | (go_wp2_with fail; refine hK.out _ _ ?_ (fun hU1 => ?_)) | fail
  · exact Or.inr hc1
  clear hK K
  clear hU0
  try simp only [Act.put, List.setIfInBounds_toArray, List.set_cons_zero, List.set_cons_succ]
  first | refine upto_run 3 (v := ?_) hU1 (by kernel_rfl) rfl (by kernel_rfl) (by kernel_rfl) (by kernel_rfl) (by kernel_rfl) (fun _ _ _ h => h) (Or.inl ⟨by rfl, ?_⟩) ?_ | fail
  rotate_left
  · first | (intro w _; go_simp; with_reducible rfl) | (intro w _; go_simp; done) | fail
  try simp only [Act.put, List.setIfInBounds_toArray, List.set_cons_zero, List.set_cons_succ]
  first | refine upto_read 4 (v := ?_) hU1 (by kernel_rfl) rfl (by kernel_rfl) (by kernel_rfl) (by kernel_rfl) (by kernel_rfl) (by kernel_rfl) (fun _ _ _ h => h) (Or.inl ⟨by rfl, ?_⟩) ?_ | fail
  rotate_left
  · refine load_run (S := fun w' => Below wb.heap.size wb w') ?lx4 ?lo4 gx ?lh4 [.int .i64 x0, .int .i64 x1, .bool x2, .bool x3, .pointer x4, .int .i64 x5, .int .i64 x6, .slice x7 x8 x9, .pointer xA] rfl (fun w hw => blk_below GXb.out hw)
    case lo4 => rfl
    case lh4 => rfl
  try simp only [Act.put, List.setIfInBounds_toArray, List.set_cons_zero, List.set_cons_succ]
  first | refine upto_read 5 (v := ?_) hU1 (by kernel_rfl) rfl (by kernel_rfl) (by kernel_rfl) (by kernel_rfl) (by kernel_rfl) (by kernel_rfl) (fun _ _ _ h => h) (Or.inl ⟨by rfl, ?_⟩) ?_ | fail
  rotate_left
  · refine load_run (S := fun w' => Below wb.heap.size wb w') ?lx5 ?lo5 gy ?lh5 [.int .i64 y0, .int .i64 y1, .bool y2, .bool y3, .pointer y4, .int .i64 y5, .int .i64 y6, .slice y7 y8 y9, .pointer yA] rfl (fun w hw => blk_below GYb.out hw)
    case lo5 => rfl
    case lh5 => rfl
  try simp only [Act.put, List.setIfInBounds_toArray, List.set_cons_zero, List.set_cons_succ]
  first | refine upto_read 7 (v := ?_) hU1 (by kernel_rfl) rfl (by kernel_rfl) (by kernel_rfl) (by kernel_rfl) (by kernel_rfl) (by kernel_rfl) (fun _ _ _ h => h) (Or.inl ⟨by rfl, ?_⟩) ?_ | fail
  rotate_left
  · refine load_run (S := fun w' => Below wb.heap.size wb w') ?lx7 ?lo7 gx ?lh7 [.int .i64 x0, .int .i64 x1, .bool x2, .bool x3, .pointer x4, .int .i64 x5, .int .i64 x6, .slice x7 x8 x9, .pointer xA] rfl (fun w hw => blk_below GXb.out hw)
    case lo7 => rfl
    case lh7 => rfl
  try simp only [Act.put, List.setIfInBounds_toArray, List.set_cons_zero, List.set_cons_succ]
  first | refine upto_read 8 (v := ?_) hU1 (by kernel_rfl) rfl (by kernel_rfl) (by kernel_rfl) (by kernel_rfl) (by kernel_rfl) (by kernel_rfl) (fun _ _ _ h => h) (Or.inl ⟨by rfl, ?_⟩) ?_ | fail
  rotate_left
  · refine load_run (S := fun w' => Below wb.heap.size wb w') ?lx8 ?lo8 gy ?lh8 [.int .i64 y0, .int .i64 y1, .bool y2, .bool y3, .pointer y4, .int .i64 y5, .int .i64 y6, .slice y7 y8 y9, .pointer yA] rfl (fun w hw => blk_below GYb.out hw)
    case lo8 => rfl
    case lh8 => rfl
  try simp only [Act.put, List.setIfInBounds_toArray, List.set_cons_zero, List.set_cons_succ]
  first | refine upto_next 6 rfl (by kernel_rfl) (fun K hK => ?_) | fail
  go_simp
  go_at_call 8
  refine (C2.out _ hc1).mono ?_
  rintro e v2 ⟨rfl, hd2⟩
  have hc2 := hc1.bt hd2
  try go_simp
  first | refine hK.out _ _ ?_ (fun hU2 => ?_) | (go_wp2_with fail; refine hK.out _ _ ?_ (fun hU2 => ?_)) | fail
  · exact Or.inr hc2
  clear hK K
  clear hU1
  try simp only [Act.put, List.setIfInBounds_toArray, List.set_cons_zero, List.set_cons_succ]
  first | refine upto_next 9 rfl (by kernel_rfl) (fun K hK => ?_) | fail
  go_simp
  go_at_call 9
  refine (C3.out _ hc2).mono ?_
  rintro e v3 ⟨rfl, hd3⟩
  have hc3 := hc2.bt hd3
  try go_simp
  first | refine hK.out _ _ ?_ (fun hU3 => ?_) | (go_wp2_with fail; refine hK.out _ _ ?_ (fun hU3 => ?_)) | fail
  · exact Or.inr hc3
  clear hK K
  clear hU2
  try simp only [Act.put, List.setIfInBounds_toArray, List.set_cons_zero, List.set_cons_succ]
  first | refine upto_run 10 (v := ?_) hU3 (by kernel_rfl) rfl (by kernel_rfl) (by kernel_rfl) (by kernel_rfl) (by kernel_rfl) (fun _ _ _ h => h) (Or.inl ⟨by rfl, ?_⟩) ?_ | fail
  rotate_left
  · first | (intro w _; go_simp; with_reducible rfl) | (intro w _; go_simp; done) | fail
  try simp only [Act.put, List.setIfInBounds_toArray, List.set_cons_zero, List.set_cons_succ]
  first | refine upto_run 11 (v := ?_) hU3 (by kernel_rfl) rfl (by kernel_rfl) (by kernel_rfl) (by kernel_rfl) (by kernel_rfl) (fun _ _ _ h => h) (Or.inl ⟨by rfl, ?_⟩) ?_ | fail
  rotate_left
  · first | (intro w _; go_simp; with_reducible rfl) | (intro w _; go_simp; done) | fail
  try simp only [Act.put, List.setIfInBounds_toArray, List.set_cons_zero, List.set_cons_succ]
  first | refine upto_run 12 (v := ?_) hU3 (by kernel_rfl) rfl (by kernel_rfl) (by kernel_rfl) (by kernel_rfl) (by kernel_rfl) (fun _ _ _ h => h) (Or.inl ⟨by rfl, ?_⟩) ?_ | fail
  rotate_left
  · first | (intro w _; go_simp; with_reducible rfl) | (intro w _; go_simp; done) | fail
  try simp only [Act.put, List.setIfInBounds_toArray, List.set_cons_zero, List.set_cons_succ]
  first | refine upto_read 13 (v := ?_) hU3 (by kernel_rfl) rfl (by kernel_rfl) (by kernel_rfl) (by kernel_rfl) (by kernel_rfl) (by kernel_rfl) (fun _ _ _ h => h) (Or.inl ⟨by rfl, ?_⟩) ?_ | fail
  rotate_left
  · refine load_run (S := fun w' => Below wb.heap.size wb w') ?lx13 ?lo13 (w6.heap.size + 1) ?lh13 [.int .i64 5, .int .i64 0, .bool false, .bool false, .pointer none, .int .i64 0, .int .i64 0, .slice (some ⟨w6.heap.size, 0, none⟩) 2 2, .pointer (some ⟨gx, 0, none⟩)] rfl (fun w hw => blk_below KF1.out hw)
    case lo13 => rfl
    case lh13 => rfl
  try simp only [Act.put, List.setIfInBounds_toArray, List.set_cons_zero, List.set_cons_succ]
  first | refine upto_read 14 (v := ?_) hU3 (by kernel_rfl) rfl (by kernel_rfl) (by kernel_rfl) (by kernel_rfl) (by kernel_rfl) (by kernel_rfl) (fun _ _ _ h => h) (Or.inl ⟨by rfl, ?_⟩) ?_ | fail
  rotate_left
  · refine load_run (S := fun w' => Below wb.heap.size wb w') ?lx14 ?lo14 (w6.heap.size + 1) ?lh14 [.int .i64 5, .int .i64 0, .bool false, .bool false, .pointer none, .int .i64 0, .int .i64 0, .slice (some ⟨w6.heap.size, 0, none⟩) 2 2, .pointer (some ⟨gx, 0, none⟩)] rfl (fun w hw => blk_below KF1.out hw)
    case lo14 => rfl
    case lh14 => rfl
  try simp only [Act.put, List.setIfInBounds_toArray, List.set_cons_zero, List.set_cons_succ]
  first | refine upto_next 15 rfl (by kernel_rfl) (fun K hK => ?_) | fail
  go_simp
  go_at_call 8
  refine (C4.out _ hc3).mono ?_
  rintro e v4 ⟨rfl, hd4⟩
  have hc4 := hc3.bt hd4
  try go_simp
  first | refine hK.out _ _ ?_ (fun hU4 => ?_) | (go_wp2_with fail; refine hK.out _ _ ?_ (fun hU4 => ?_)) | fail
  · exact Or.inr hc4
  clear hK K
  clear hU3
  try simp only [Act.put, List.setIfInBounds_toArray, List.set_cons_zero, List.set_cons_succ]
  first | refine upto_run 16 (v := ?_) hU4 (by kernel_rfl) rfl (by kernel_rfl) (by kernel_rfl) (by kernel_rfl) (by kernel_rfl) (fun _ _ _ h => h) (Or.inl ⟨by rfl, ?_⟩) ?_ | fail
  rotate_left
  · first | (intro w _; go_simp; with_reducible rfl) | (intro w _; go_simp; done) | fail
  try simp only [Act.put, List.setIfInBounds_toArray, List.set_cons_zero, List.set_cons_succ]
  first | refine upto_run 17 (v := ?_) hU4 (by kernel_rfl) rfl (by kernel_rfl) (by kernel_rfl) (by kernel_rfl) (by kernel_rfl) (fun _ _ _ h => h) (Or.inl ⟨by rfl, ?_⟩) ?_ | fail
  rotate_left
  · first | (intro w _; go_simp; with_reducible rfl) | (intro w _; go_simp; done) | fail
  try simp only [Act.put, List.setIfInBounds_toArray, List.set_cons_zero, List.set_cons_succ]
  first | refine upto_read 18 (v := ?_) hU4 (by kernel_rfl) rfl (by kernel_rfl) (by kernel_rfl) (by kernel_rfl) (by kernel_rfl) (by kernel_rfl) (fun _ _ _ h => h) (Or.inl ⟨by rfl, ?_⟩) ?_ | fail
  rotate_left
  · refine load_run (S := fun w' => Below wb.heap.size wb w') ?lx18 ?lo18 (w6.heap.size + 1) ?lh18 [.int .i64 5, .int .i64 0, .bool false, .bool false, .pointer none, .int .i64 0, .int .i64 0, .slice (some ⟨w6.heap.size, 0, none⟩) 2 2, .pointer (some ⟨gx, 0, none⟩)] rfl (fun w hw => blk_below KF1.out hw)
    case lo18 => rfl
    case lh18 => rfl
  try simp only [Act.put, List.setIfInBounds_toArray, List.set_cons_zero, List.set_cons_succ]
  first | refine upto_read 19 (v := ?_) hU4 (by kernel_rfl) rfl (by kernel_rfl) (by kernel_rfl) (by kernel_rfl) (by kernel_rfl) (by kernel_rfl) (fun _ _ _ h => h) (Or.inl ⟨by rfl, ?_⟩) ?_ | fail
  rotate_left
  · refine load_run (S := fun w' => Below wb.heap.size wb w') ?lx19 ?lo19 (w6.heap.size + 3) ?lh19 [.int .i64 5, .int .i64 0, .bool false, .bool false, .pointer none, .int .i64 0, .int .i64 0, .slice (some ⟨w6.heap.size + 2, 0, none⟩) 2 2, .pointer (some ⟨gy, 0, none⟩)] rfl (fun w hw => blk_below KF2.out hw)
    case lo19 => rfl
    case lh19 => rfl
  try simp only [Act.put, List.setIfInBounds_toArray, List.set_cons_zero, List.set_cons_succ]
  first | refine upto_read 21 (v := ?_) hU4 (by kernel_rfl) rfl (by kernel_rfl) (by kernel_rfl) (by kernel_rfl) (by kernel_rfl) (by kernel_rfl) (fun _ _ _ h => h) (Or.inl ⟨by rfl, ?_⟩) ?_ | fail
  rotate_left
  · refine load_run (S := fun w' => Below wb.heap.size wb w') ?lx21 ?lo21 (w6.heap.size + 1) ?lh21 [.int .i64 5, .int .i64 0, .bool false, .bool false, .pointer none, .int .i64 0, .int .i64 0, .slice (some ⟨w6.heap.size, 0, none⟩) 2 2, .pointer (some ⟨gx, 0, none⟩)] rfl (fun w hw => blk_below KF1.out hw)
    case lo21 => rfl
    case lh21 => rfl
  try simp only [Act.put, List.setIfInBounds_toArray, List.set_cons_zero, List.set_cons_succ]
  first | refine upto_read 22 (v := ?_) hU4 (by kernel_rfl) rfl (by kernel_rfl) (by kernel_rfl) (by kernel_rfl) (by kernel_rfl) (by kernel_rfl) (fun _ _ _ h => h) (Or.inl ⟨by rfl, ?_⟩) ?_ | fail
  rotate_left
  · refine load_run (S := fun w' => Below wb.heap.size wb w') ?lx22 ?lo22 (w6.heap.size + 3) ?lh22 [.int .i64 5, .int .i64 0, .bool false, .bool false, .pointer none, .int .i64 0, .int .i64 0, .slice (some ⟨w6.heap.size + 2, 0, none⟩) 2 2, .pointer (some ⟨gy, 0, none⟩)] rfl (fun w hw => blk_below KF2.out hw)
    case lo22 => rfl
    case lh22 => rfl
  try simp only [Act.put, List.setIfInBounds_toArray, List.set_cons_zero, List.set_cons_succ]
  first | refine upto_next 20 rfl (by kernel_rfl) (fun K hK => ?_) | fail
  go_simp
  go_at_call 8
  refine (C5.out _ hc4).mono ?_
  rintro e v5 ⟨rfl, hd5⟩
  have hc5 := hc4.bt hd5
  try go_simp
  first | refine hK.out _ _ ?_ (fun hU5 => ?_) | (go_wp2_with fail; refine hK.out _ _ ?_ (fun hU5 => ?_)) | fail
  · exact Or.inr hc5
  clear hK K
  clear hU4
  try simp only [Act.put, List.setIfInBounds_toArray, List.set_cons_zero, List.set_cons_succ]
  first | refine upto_next 23 rfl (by kernel_rfl) (fun K hK => ?_) | fail
  go_simp
  go_at_call 9
  refine (C6.out _ hc5).mono ?_
  rintro e v6 ⟨rfl, hd6⟩
  have hc6 := hc5.bt hd6
  try go_simp
  first | refine hK.out _ _ ?_ (fun hU6 => ?_) | (go_wp2_with fail; refine hK.out _ _ ?_ (fun hU6 => ?_)) | fail
  · exact Or.inr hc6
  clear hK K
  clear hU5
  try simp only [Act.put, List.setIfInBounds_toArray, List.set_cons_zero, List.set_cons_succ]
  first | refine upto_run 24 (v := ?_) hU6 (by kernel_rfl) rfl (by kernel_rfl) (by kernel_rfl) (by kernel_rfl) (by kernel_rfl) (fun _ _ _ h => h) (Or.inl ⟨by rfl, ?_⟩) ?_ | fail
  rotate_left
  · first | (intro w _; go_simp; with_reducible rfl) | (intro w _; go_simp; done) | fail
  try simp only [Act.put, List.setIfInBounds_toArray, List.set_cons_zero, List.set_cons_succ]
  first | refine upto_run 25 (v := ?_) hU6 (by kernel_rfl) rfl (by kernel_rfl) (by kernel_rfl) (by kernel_rfl) (by kernel_rfl) (fun _ _ _ h => h) (Or.inl ⟨by rfl, ?_⟩) ?_ | fail
  rotate_left
  · first | (intro w _; go_simp; with_reducible rfl) | (intro w _; go_simp; done) | fail
  try simp only [Act.put, List.setIfInBounds_toArray, List.set_cons_zero, List.set_cons_succ]
  first | refine upto_run 26 (v := ?_) hU6 (by kernel_rfl) rfl (by kernel_rfl) (by kernel_rfl) (by kernel_rfl) (by kernel_rfl) (fun _ _ _ h => h) (Or.inl ⟨by rfl, ?_⟩) ?_ | fail
  rotate_left
  · first | (intro w _; go_simp; with_reducible rfl) | (intro w _; go_simp; done) | fail
  try simp only [Act.put, List.setIfInBounds_toArray, List.set_cons_zero, List.set_cons_succ]
  first | refine upto_read 27 (v := ?_) hU6 (by kernel_rfl) rfl (by kernel_rfl) (by kernel_rfl) (by kernel_rfl) (by kernel_rfl) (by kernel_rfl) (fun _ _ _ h => h) (Or.inl ⟨by rfl, ?_⟩) ?_ | fail
  rotate_left
  · refine load_run (S := fun w' => Below wb.heap.size wb w') ?lx27 ?lo27 (w6.heap.size + 1) ?lh27 [.int .i64 5, .int .i64 0, .bool false, .bool false, .pointer none, .int .i64 0, .int .i64 0, .slice (some ⟨w6.heap.size, 0, none⟩) 2 2, .pointer (some ⟨gx, 0, none⟩)] rfl (fun w hw => blk_below KF1.out hw)
    case lo27 => rfl
    case lh27 => rfl
  try simp only [Act.put, List.setIfInBounds_toArray, List.set_cons_zero, List.set_cons_succ]
  first | refine upto_read 28 (v := ?_) hU6 (by kernel_rfl) rfl (by kernel_rfl) (by kernel_rfl) (by kernel_rfl) (by kernel_rfl) (by kernel_rfl) (fun _ _ _ h => h) (Or.inl ⟨by rfl, ?_⟩) ?_ | fail
  rotate_left
  · refine load_run (S := fun w' => Below wb.heap.size wb w') ?lx28 ?lo28 gx ?lh28 [.int .i64 x0, .int .i64 x1, .bool x2, .bool x3, .pointer x4, .int .i64 x5, .int .i64 x6, .slice x7 x8 x9, .pointer xA] rfl (fun w hw => blk_below GXb.out hw)
    case lo28 => rfl
    case lh28 => rfl
  try simp only [Act.put, List.setIfInBounds_toArray, List.set_cons_zero, List.set_cons_succ]
  first | refine upto_next 29 rfl (by kernel_rfl) (fun K hK => ?_) | fail
  go_simp
  go_at_call 8
  refine (C7.out _ hc6).mono ?_
  rintro e v7 ⟨rfl, hd7⟩
  have hc7 := hc6.bt hd7
  try go_simp
  first | refine hK.out _ _ ?_ (fun hU7 => ?_) | (go_wp2_with fail; refine hK.out _ _ ?_ (fun hU7 => ?_)) | fail
  · exact Or.inr hc7
  clear hK K
  clear hU6
  try simp only [Act.put, List.setIfInBounds_toArray, List.set_cons_zero, List.set_cons_succ]
  first | refine upto_run 30 (v := ?_) hU7 (by kernel_rfl) rfl (by kernel_rfl) (by kernel_rfl) (by kernel_rfl) (by kernel_rfl) (fun _ _ _ h => h) (Or.inl ⟨by rfl, ?_⟩) ?_ | fail
  rotate_left
  · first | (intro w _; go_simp; with_reducible rfl) | (intro w _; go_simp; done) | fail
  try simp only [Act.put, List.setIfInBounds_toArray, List.set_cons_zero, List.set_cons_succ]
  first | refine upto_run 31 (v := ?_) hU7 (by kernel_rfl) rfl (by kernel_rfl) (by kernel_rfl) (by kernel_rfl) (by kernel_rfl) (fun _ _ _ h => h) (Or.inl ⟨by rfl, ?_⟩) ?_ | fail
  rotate_left
  · first | (intro w _; go_simp; with_reducible rfl) | (intro w _; go_simp; done) | fail
  try simp only [Act.put, List.setIfInBounds_toArray, List.set_cons_zero, List.set_cons_succ]
  first | refine upto_run 32 (v := ?_) hU7 (by kernel_rfl) rfl (by kernel_rfl) (by kernel_rfl) (by kernel_rfl) (by kernel_rfl) (fun _ _ _ h => h) (Or.inl ⟨by rfl, ?_⟩) ?_ | fail
  rotate_left
  · first | (intro w _; go_simp; with_reducible rfl) | (intro w _; go_simp; done) | fail
  try simp only [Act.put, List.setIfInBounds_toArray, List.set_cons_zero, List.set_cons_succ]
  first | refine upto_read 33 (v := ?_) hU7 (by kernel_rfl) rfl (by kernel_rfl) (by kernel_rfl) (by kernel_rfl) (by kernel_rfl) (by kernel_rfl) (fun _ _ _ h => h) (Or.inl ⟨by rfl, ?_⟩) ?_ | fail
  rotate_left
  · refine load_run (S := fun w' => Below wb.heap.size wb w') ?lx33 ?lo33 gx ?lh33 [.int .i64 x0, .int .i64 x1, .bool x2, .bool x3, .pointer x4, .int .i64 x5, .int .i64 x6, .slice x7 x8 x9, .pointer xA] rfl (fun w hw => blk_below GXb.out hw)
    case lo33 => rfl
    case lh33 => rfl
  try simp only [Act.put, List.setIfInBounds_toArray, List.set_cons_zero, List.set_cons_succ]
  first | refine upto_read 35 (v := ?_) hU7 (by kernel_rfl) rfl (by kernel_rfl) (by kernel_rfl) (by kernel_rfl) (by kernel_rfl) (by kernel_rfl) (fun _ _ _ h => h) (Or.inl ⟨by rfl, ?_⟩) ?_ | fail
  rotate_left
  · refine load_run (S := fun w' => Below wb.heap.size wb w') ?lx35 ?lo35 gy ?lh35 [.int .i64 y0, .int .i64 y1, .bool y2, .bool y3, .pointer y4, .int .i64 y5, .int .i64 y6, .slice y7 y8 y9, .pointer yA] rfl (fun w hw => blk_below GYb.out hw)
    case lo35 => rfl
    case lh35 => rfl
  try simp only [Act.put, List.setIfInBounds_toArray, List.set_cons_zero, List.set_cons_succ]
  first | refine upto_read 38 (v := ?_) hU7 (by kernel_rfl) rfl (by kernel_rfl) (by kernel_rfl) (by kernel_rfl) (by kernel_rfl) (by kernel_rfl) (fun _ _ _ h => h) (Or.inl ⟨by rfl, ?_⟩) ?_ | fail
  rotate_left
  · refine load_run (S := fun w' => Below wb.heap.size wb w') ?lx38 ?lo38 gx ?lh38 [.int .i64 x0, .int .i64 x1, .bool x2, .bool x3, .pointer x4, .int .i64 x5, .int .i64 x6, .slice x7 x8 x9, .pointer xA] rfl (fun w hw => blk_below GXb.out hw)
    case lo38 => rfl
    case lh38 => rfl
  try simp only [Act.put, List.setIfInBounds_toArray, List.set_cons_zero, List.set_cons_succ]
  first | refine upto_read 40 (v := ?_) hU7 (by kernel_rfl) rfl (by kernel_rfl) (by kernel_rfl) (by kernel_rfl) (by kernel_rfl) (by kernel_rfl) (fun _ _ _ h => h) (Or.inl ⟨by rfl, ?_⟩) ?_ | fail
  rotate_left
  · refine load_run (S := fun w' => Below wb.heap.size wb w') ?lx40 ?lo40 gy ?lh40 [.int .i64 y0, .int .i64 y1, .bool y2, .bool y3, .pointer y4, .int .i64 y5, .int .i64 y6, .slice y7 y8 y9, .pointer yA] rfl (fun w hw => blk_below GYb.out hw)
    case lo40 => rfl
    case lh40 => rfl
  try simp only [Act.put, List.setIfInBounds_toArray, List.set_cons_zero, List.set_cons_succ]
  first | refine upto_next 34 rfl (by kernel_rfl) (fun K hK => ?_) | fail
  go_simp
  go_at_call 10
  refine (CX.out _ hc7).mono ?_
  rintro e v8 ⟨es8, rfl, ht8, hd8⟩
  have HT8 := Lib.hid ht8
  clear ht8
  have hc8 := hc7.bt hd8
  try go_simp
  first | refine hK.out _ _ ?_ (fun hU8 => ?_) | (go_wp2_with fail; refine hK.out _ _ ?_ (fun hU8 => ?_)) | fail
  · exact Or.inr hc8
  clear hK K
  clear hU7
  try simp only [Act.put, List.setIfInBounds_toArray, List.set_cons_zero, List.set_cons_succ]
  first | refine upto_next 36 rfl (by kernel_rfl) (fun K hK => ?_) | fail
  go_simp
  go_at_call 10
  refine (CY.out _ hc8).mono ?_
  rintro e v9 ⟨es9, rfl, ht9, hd9⟩
  have HT9 := Lib.hid ht9
  clear ht9
  have hc9 := hc8.bt hd9
  try go_simp
  first | refine hK.out _ _ ?_ (fun hU9 => ?_) | (go_wp2_with fail; refine hK.out _ _ ?_ (fun hU9 => ?_)) | fail
  · exact Or.inr hc9
  clear hK K
  clear hU8
  try simp only [Act.put, List.setIfInBounds_toArray, List.set_cons_zero, List.set_cons_succ]
  first | refine upto_next 37 rfl (by kernel_rfl) (fun K hK => ?_) | fail
  go_simp
  go_at_call 8
  refine (same_any (secT tx) (secT ty) _ _ _ _ _ (HT8.out.later hd9) HT9.out).mono ?_
  rintro e v10 ⟨rfl, hd10⟩
  rw [HSS.out]
  have hc10 := hc9.bt hd10
  try go_simp
  first | refine hK.out _ _ ?_ (fun hU10 => ?_) | (go_wp2_with fail; refine hK.out _ _ ?_ (fun hU10 => ?_)) | fail
  · exact Or.inr hc10
  clear hK K
  clear hU9
  try simp only [Act.put, List.setIfInBounds_toArray, List.set_cons_zero, List.set_cons_succ]
  first | refine upto_next 39 rfl (by kernel_rfl) (fun K hK => ?_) | fail
  go_simp
  go_at_call 10
  refine (CX.out _ hc10).mono ?_
  rintro e v11 ⟨es11, rfl, ht11, hd11⟩
  have HT11 := Lib.hid ht11
  clear ht11
  have hc11 := hc10.bt hd11
  try go_simp
  first | refine hK.out _ _ ?_ (fun hU11 => ?_) | (go_wp2_with fail; refine hK.out _ _ ?_ (fun hU11 => ?_)) | fail
  · exact Or.inr hc11
  clear hK K
  clear hU10
  try simp only [Act.put, List.setIfInBounds_toArray, List.set_cons_zero, List.set_cons_succ]
  first | refine upto_next 41 rfl (by kernel_rfl) (fun K hK => ?_) | fail
  go_simp
  go_at_call 10
  refine (CY.out _ hc11).mono ?_
  rintro e v12 ⟨es12, rfl, ht12, hd12⟩
  have HT12 := Lib.hid ht12
  clear ht12
  have hc13 := hc11.bt hd12
  try go_simp
  first | refine hK.out _ _ ?_ (fun hU12 => ?_) | (go_wp2_with fail; refine hK.out _ _ ?_ (fun hU12 => ?_)) | fail
  · exact Or.inr hc13
  clear hK K
  clear hU11
  try simp only [Act.put, List.setIfInBounds_toArray, List.set_cons_zero, List.set_cons_succ]
  first | refine upto_next 42 rfl (by kernel_rfl) (fun K hK => ?_) | fail
  go_simp
  go_at_call 9
  refine (rsame_any (secT tx) (secT ty) _ _ _ _ _ (HT11.out.later hd12) HT12.out).mono ?_
  rintro e v13 ⟨rfl, hd13⟩
  rw [HSS.out]
  have hc13 := hc13.bt hd13
  try go_simp
  first | refine hK.out _ _ ?_ (fun hU13 => ?_) | (go_wp2_with fail; refine hK.out _ _ ?_ (fun hU13 => ?_)) | fail
  · exact Or.inr hc13
  clear hK K
  clear hU12
  try simp only [Act.put, List.setIfInBounds_toArray, List.set_cons_zero, List.set_cons_succ]
  first | refine upto_run 43 (v := ?_) hU13 (by kernel_rfl) rfl (by kernel_rfl) (by kernel_rfl) (by kernel_rfl) (by kernel_rfl) (fun _ _ _ h => h) (Or.inl ⟨by rfl, ?_⟩) ?_ | fail
  rotate_left
  · first | (intro w _; go_simp; with_reducible rfl) | (intro w _; go_simp; done) | fail
  try simp only [Act.put, List.setIfInBounds_toArray, List.set_cons_zero, List.set_cons_succ]
  first | refine upto_run 44 (v := ?_) hU13 (by kernel_rfl) rfl (by kernel_rfl) (by kernel_rfl) (by kernel_rfl) (by kernel_rfl) (fun _ _ _ h => h) (Or.inl ⟨by rfl, ?_⟩) ?_ | fail
  rotate_left
  · first | (intro w _; go_simp; with_reducible rfl) | (intro w _; go_simp; done) | fail
  try simp only [Act.put, List.setIfInBounds_toArray, List.set_cons_zero, List.set_cons_succ]
  first | refine upto_next 45 rfl (by kernel_rfl) (fun K hK => ?_) | fail
  go_simp
  first | refine hK.out _ _ ?_ (fun hU14 => ?_) | (go_wp2_with fail; refine hK.out _ _ ?_ (fun hU14 => ?_)) | fail
  · exact Or.inl (by kernel_rfl)
  clear hK K
  clear hU13
  try simp only [Act.put, List.setIfInBounds_toArray, List.set_cons_zero, List.set_cons_succ]
  refine upto_done (by kernel_rfl) ?_ _
  go_wp2_with fail
  go_returns
  exact ⟨rfl, HBb.out.bt hc13⟩
end Go.Proofs.Ytilljobnaoefiaa
