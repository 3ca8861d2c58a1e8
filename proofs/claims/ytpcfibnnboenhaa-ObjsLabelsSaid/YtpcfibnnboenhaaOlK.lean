/- objs.mark: at any type. No condition. -/
import Derived.Test.YtpcfibnnboenhaaOlJ
namespace Go.Proofs.Ytpcfibnnboenhaa
open Go.RowKit
set_option linter.unusedVariables false
set_option maxHeartbeats 4000000
set_option maxRecDepth 100000
theorem slice_run (g o n cap lo : Nat) (x : Int) (hx : x = lo) (h : lo ≤ n) (hc : n ≤ cap) (W : World) : (Instr.slice 49 (.slice (some ⟨g, o, none⟩) n cap) (some (.int .i64 x)) none none).run Try.prog W = .ok (.slice (some ⟨g, if cap = lo then o else o + lo, none⟩) (n - lo) (cap - lo)) W := by
  subst hx
  have hs : (sizeOf 4).run Try.prog W = .ok 1 W := by kernel_rfl
  have he : Try.prog.elem 49 = 4 := by kernel_rfl
  rw [run_slice_l (P := Try.prog) W 49 _ n cap (by kernel_rfl) .i64 (lo : Int) (by omega) (by omega), he, hs]
  show Result.ok (sliced _ _ _ _ _) W = _
  unfold sliced
  rw [Int.toNat_natCast]
  by_cases e : cap = lo
  · simp [e]
  · simp only [e, if_false, Option.map_some, Nat.mul_one, Addr.add]
    by_cases e0 : lo = 0
    · simp [e0]
    · simp [e0]
theorem mark_any (w0 : World) (p g : Nat) (tab : List RecP) (hT : TabC w0 p tab) (hW : WfT tab) (hgw : w0.heap.size ≤ g) : ∀ (d : Nat) (t : Ty) (w : World) (ds : List Value) (a o n cap : Nat) (l : List Bool), OkT t → Under d t → TyC w (fun _ => True) t ds → Below w0.heap.size w0 w → LabB w g l → a + n = l.length → (0 < n → o = a) → sizeT tab t ≤ n → n ≤ cap → cap ≤ 9223372036854775807 → l.length ≤ 1000000 →
    Calls Try.prog 22 #[.pointer (some ⟨p, 0, none⟩), .agg ds.toArray, .slice (some ⟨g, o, none⟩) n cap] w (PaintV w g (markL tab d t a l))
  | d, .int s sg c, w, ds, a, o, nn, cap, l, hO, hU, hC, hb, hL, han, hoa, ha, hcn, hcc, hl => by
    have hC : ds = tyCells 1 s sg c none 0 0 (.slice none 0 0) none := hC
    subst hC
    have hO : s = 1 ∨ s = 2 ∨ s = 4 ∨ s = 8 := hO
    obtain ⟨n, rfl⟩ : ∃ n : Nat, s = n := ⟨s.toNat, by omega⟩
    have ha : (n : Int) ≤ nn := ha
    rw [markL_int, Int.toNat_natCast, hoa (by omega)]
    exact mark_int w p g cap a nn l n sg c (by omega) (by omega) han hl hcn hcc hL
  | d, .ptr e, w, ds, a, o, nn, cap, l, hO, hU, hC, hb, hL, han, hoa, ha, hcn, hcc, hl => by
    obtain ⟨b, es, rfl, _, h2, h3⟩ := hC
    rw [markL_ptr]
    unfold tyCells
    have HV := Lib.hid (show PaintV w g l (.returned (.tuple #[])) (w.alloc (.cells #[.int .i64 2, .int .i64 8, .bool false, .bool false, .pointer (some ⟨b, 0, none⟩), .int .i64 0, .int .i64 0, .slice none 0 0, .pointer none] 39)) from ⟨rfl, blk_alloc hL _, World.grownBy_alloc w _ _⟩)
    clear hT h2 h3 hL hb
    go_enter Try.func22, Try.ntmps22
    go_wp2_with fail
    go_returns
    exact HV.out
  | d, .arr e n, w, ds, a, o, nn, cap, l, hO, hU, hC, hb, hL, han, hoa, ha, hcn, hcc, hl => by
    obtain ⟨b, es, rfl, _, h2, h3⟩ := hC
    obtain ⟨n1, n2, hOe⟩ := hO
    obtain ⟨m1, m2⟩ := size_bound tab hW.huge e hOe
    obtain ⟨n, rfl⟩ : ∃ k : Nat, n = k := ⟨n.toNat, by omega⟩
    obtain ⟨m, hm⟩ : ∃ m : Nat, sizeT tab e = m := ⟨(sizeT tab e).toNat, by omega⟩
    have hnm : n * m ≤ nn := by
      unfold sizeT at ha
      rw [hm] at ha m2
      by_cases h0 : n = 0
      · subst h0; simp
      · split at ha
        · unfold hugeS at ha; omega
        · have : ((n * m : Nat) : Int) = (n : Int) * m := by simp
          omega
    rw [markL_arr, Int.toNat_natCast]
    have hIH : ∀ (j : Nat), j < n → ∀ (W : World) (L : List Bool), Below w0.heap.size w0 W → TyC W (fun _ => True) e es → LabB W g L → L.length = l.length → Calls Try.prog 22 #[.pointer (some ⟨p, 0, none⟩), .agg es.toArray, .slice (some ⟨g, if cap = j * m then o else o + j * m, none⟩) (nn - j * m) (cap - j * m)] W (PaintV W g (markL tab d e (a + j * (sizeT tab e).toNat) L)) := fun j hj W L hbW hCW hLW hLl => by
      have hjm : j * m + m ≤ n * m := by rw [← Nat.succ_mul]; exact Nat.mul_le_mul_right m hj
      have := mark_any w0 p g tab hT hW hgw d e W es (a + j * m) (if cap = j * m then o else o + j * m) (nn - j * m) (cap - j * m) L hOe hU hCW hbW hLW (by rw [hLl]; omega) (fun h0 => by rw [if_neg (by omega), hoa (by omega)]) (by rw [hm]; omega) (by omega) (by omega) (by omega)
      rw [hm, Int.toNat_natCast]
      exact this
    have hSL : ∀ (j : Nat), j < n → ∀ W : World, (Instr.slice 49 (.slice (some ⟨g, o, none⟩) nn cap) (some (.int .i64 ((j : Int) * m))) none none).run Try.prog W = .ok (.slice (some ⟨g, if cap = j * m then o else o + j * m, none⟩) (nn - j * m) (cap - j * m)) W := fun j hj W => by
      have hjm : j * m + m ≤ n * m := by rw [← Nat.succ_mul]; exact Nat.mul_le_mul_right m hj
      exact slice_run g o nn cap (j * m) _ (by simp) (by omega) hcn W
    have hSZ : ∀ W, Below w0.heap.size w0 W → TyC W (fun _ => True) e es → Calls Try.prog 7 #[.pointer (some ⟨p, 0, none⟩), .agg es.toArray] W fun e' w' => e' = .returned (.int .i64 (m : Int)) ∧ Below W.heap.size W w' := fun W hbW hCW => by
      have := size_any p tab hW.huge e W es hOe (hT.later hbW) hCW
      rw [hm] at this
      exact this
    obtain ⟨k', s', g', c', p', n', num', A', q1', q2', rt', rfl⟩ := h3.ten
    unfold tyCells at h2 hSZ hIH
    unfold tyCells
    have HIH := Lib.hid hIH
    have HSZ := Lib.hid hSZ
    have HNM := Lib.hid hnm
    have HSL := Lib.hid hSL
    have HAN := Lib.hid han
    have HOA := Lib.hid hoa
    have HM2 := Lib.hid m2
    have HB0 := Lib.hid h2
    have HC0 := Lib.hid h3
    have HL0 := Lib.hid hL
    have HLL := Lib.hid hl
    obtain ⟨wa, hwa⟩ : ∃ wa, wa = w.alloc (.cells #[.int .i64 3, .int .i64 0, .bool false, .bool false, .pointer (some ⟨b, 0, none⟩), .int .i64 (n : Int), .int .i64 0, .slice none 0 0, .pointer none] 39) := ⟨_, rfl⟩
    have hba : Below w.heap.size w wa := by rw [hwa]; exact below_alloc _ (Below.refl _ _)
    have HKX := Lib.hid (show wa.heap[w.heap.size]? = some (.cells #[.int .i64 3, .int .i64 0, .bool false, .bool false, .pointer (some ⟨b, 0, none⟩), .int .i64 (n : Int), .int .i64 0, .slice none 0 0, .pointer none] 39 (0, 0)) by rw [hwa]; exact blk_new _ _)
    have hlg := blk_lt hL
    have h4 := blk_alloc h2 (.cells #[.int .i64 3, .int .i64 0, .bool false, .bool false, .pointer (some ⟨b, 0, none⟩), .int .i64 (n : Int), .int .i64 0, .slice none 0 0, .pointer none] 39)
    have c0 := blk_cell (i := 0) h4 rfl
    have c1 := blk_cell (i := 1) h4 rfl
    have c2 := blk_cell (i := 2) h4 rfl
    have c3 := blk_cell (i := 3) h4 rfl
    have c4 := blk_cell (i := 4) h4 rfl
    have c5 := blk_cell (i := 5) h4 rfl
    have c6 := blk_cell (i := 6) h4 rfl
    have c7 := blk_cell (i := 7) h4 rfl
    have c8 := blk_cell (i := 8) h4 rfl
    have lb := blk_lt h4
    have HGA := Lib.hid (show LabB wa g l by rw [hwa]; exact blk_alloc hL _)
    have HGN := Lib.hid (show g ≠ w.heap.size by omega)
    have HBW := Lib.hid hb
    have HS0 := Lib.hid (HSZ.out wa (hb.bt hba) (HC0.out.later hba))
    have HBA := Lib.hid hba
    clear hIH hSZ hT h2 h3 hL hb hU hOe ha m1 m2 hnm hSL hoa han hcn hcc hl hba h4
    go_enter Try.func22, Try.ntmps22
    go_wp2_with fail
    rw [← hwa]
    clear hwa c0 c1 c2 c3 c4 c5 c6 c7 c8 lb
    refine HS0.out.mono ?_
    rintro e' w2 ⟨rfl, kb⟩
    have HL2 := Lib.hid (blk_below HGA.out kb)
    have HK2 := Lib.hid (blk_below HKX.out kb)
    have HG2 := Lib.hid (grown_more (r := some g) (grown_of_below HBA.out) (grown_of_below kb))
    have k5 := HK2.out
    have y5 := blk_cell (i := 5) k5 rfl
    have yl := blk_lt k5
    clear kb k5
    go_wp2_with fail
    clear y5 yl
    go_loopw [39] (fun i wr => ∃ j : Nat, j ≤ n ∧ i = .int .i64 j ∧ LabB wr g (markA tab d e a l j) ∧ wr.heap[w.heap.size]? = some (.cells #[.int .i64 3, .int .i64 0, .bool false, .bool false, .pointer (some ⟨b, 0, none⟩), .int .i64 (n : Int), .int .i64 0, .slice none 0 0, .pointer none] 39 (0, 0)) ∧ w.grownBy wr (some g)) (fun i _ => n - (intOf i).toNat)
    case atStart => exact ⟨0, by omega, rfl, HL2.out, HK2.out, HG2.out⟩
    case round =>
      obtain ⟨j, hj, rfl, hL, hK, hG⟩ := hrel
      have HL := Lib.hid hL
      have HK := Lib.hid hK
      have HG := Lib.hid hG
      by_cases hlt : j < n
      · have d1 : decide ((j : Int) < n) = true := decide_eq_true (by omega)
        have y4 := blk_cell (i := 4) hK rfl
        have yl := blk_lt hK
        have HB2 := Lib.hid (below_grown HBW.out hG hgw)
        have h4 := (hG.block b (blk_lt HB0.out) (by simp; exact lab_ne HL0.out HB0.out)).trans HB0.out
        have HCR := Lib.hid (HC0.out.grown HL0.out hG).all
        have c0 := blk_cell (i := 0) h4 rfl
        have c1 := blk_cell (i := 1) h4 rfl
        have c2 := blk_cell (i := 2) h4 rfl
        have c3 := blk_cell (i := 3) h4 rfl
        have c4 := blk_cell (i := 4) h4 rfl
        have c5 := blk_cell (i := 5) h4 rfl
        have c6 := blk_cell (i := 6) h4 rfl
        have c7 := blk_cell (i := 7) h4 rfl
        have c8 := blk_cell (i := 8) h4 rfl
        have lb := blk_lt h4
        have HLT := Lib.hid hlt
        obtain ⟨oo, hoo⟩ : ∃ oo, oo = if cap = j * m then o else o + j * m := ⟨_, rfl⟩
        have hsl := HSL.out j hlt
        rw [← hoo] at hsl
        have HOO := Lib.hid hoo
        clear hoo
        have hjm1 : 0 ≤ (j : Int) * m := by exact Int.mul_nonneg (by omega) (by omega)
        have hjm2 : (j : Int) * m ≤ 1000000 := by
          have h1 : j * m ≤ n * m := Nat.mul_le_mul_right m (by omega)
          have h2 := HNM.out
          have h3 := HLL.out
          have h4 := HAN.out
          have : ((j * m : Nat) : Int) = (j : Int) * m := by simp
          omega
        clear hL hK hG h4
        go_wp2_with fail
        refine wp_region_over_tail 10 (by kernel_rfl) (by kernel_rfl) ?_
        simp only [List.take_succ_cons, List.take_zero, List.drop_succ_cons, List.drop_zero]
        repeat (go_big_quiet_step (fail))
        refine wpQuiet_nil ?_
        intro w3 kb3
        have HL3 := Lib.hid (blk_below HL.out kb3)
        have HK3 := Lib.hid (blk_below HK.out kb3)
        have HG3 := Lib.hid (grown_more HG.out (grown_of_below kb3))
        have HB3 := Lib.hid (HB2.out.bt kb3)
        have HC3 := Lib.hid (HCR.out.later kb3)
        clear kb3 c0 c1 c2 c3 c4 c5 c6 c7 c8 lb y4 yl
        have HI := Lib.hid (HIH.out j hlt w3 _ HB3.out HC3.out HL3.out (markA_length _ _ _ _ _ _))
        rw [← HOO.out] at HI
        go_wp2_with fail
        refine HI.out.mono ?_
        rintro e' w4 ⟨rfl, hL4, hG4⟩
        have HL4 := Lib.hid (show LabB w4 g (markA tab d e a l (j + 1)) by rw [markA_succ]; exact hL4)
        have HK4 := Lib.hid ((hG4.block w.heap.size (blk_lt HK3.out) (by simp; exact fun e => HGN.out e.symm)).trans HK3.out)
        have HG4 := Lib.hid (grown_more HG3.out hG4)
        clear hL4 hG4
        go_wp2_with fail
        have hlt := HLT.out
        go_roundw
        case rel => exact ⟨j + 1, by omega, by go_num, HL4.out, HK4.out, HG4.out⟩
        case measure => simp [intOf]; omega
      · have e : j = n := by omega
        subst e
        clear hL hK hG
        go_wp2_with fail
        go_returns
        exact ⟨rfl, HL.out, HG.out⟩
  | d, .str k, w, ds, a, o, nn, cap, l, hO, hU, hC, hb, hL, han, hoa, ha, hcn, hcc, hl => by
    have hC : ds = tyCells 4 0 false false none 0 k (.slice none 0 0) none := hC
    subst hC
    unfold tyCells
    have hk : In64 k := hO
    have hWk := hW k
    obtain ⟨q1, q2, q3, q4, hWf⟩ := hWk
    have hUk : k < (d : Int) := hU
    have ha : (recT tab k).size ≤ nn := ha
    rw [markL_st tab d k a l hU]
    obtain ⟨fs, hfs⟩ : ∃ fs, fs = (recT tab k).fields := ⟨_, rfl⟩
    rw [← hfs] at hWf ⊢
    have hIH : ∀ (f : FldP), f ∈ fs → ∀ (m : Nat), f.at_ = m → ∀ (W : World) (es : List Value) (L : List Bool), Below w0.heap.size w0 W → TyC W (fun _ => True) f.ty es → LabB W g L → L.length = l.length → Calls Try.prog 22 #[.pointer (some ⟨p, 0, none⟩), .agg es.toArray, .slice (some ⟨g, if cap = m then o else o + m, none⟩) (nn - m) (cap - m)] W (PaintV W g (markL tab (d - 1) f.ty (a + f.at_.toNat) L)) := fun f hf m hm W es L hbW hCW hLW hLl => by
      obtain ⟨f1, f2, f3, f4, f5⟩ := hWf f hf
      have hk0 : 0 ≤ k := recT_num (tab := tab) (f := f) (by rw [← hfs]; exact hf)
      rw [hm, Int.toNat_natCast]
      exact mark_any w0 p g tab hT hW hgw (d - 1) f.ty W es (a + m) (if cap = m then o else o + m) (nn - m) (cap - m) L f1 (Under.mono (by omega) f2) hCW hbW hLW (by rw [hLl]; omega) (fun h0 => by rw [if_neg (by omega), hoa (by omega)]) (by omega) (by omega) (by omega) (by omega)
    have hSL : ∀ (f : FldP), f ∈ fs → ∀ (m : Nat), f.at_ = m → ∀ W : World, (Instr.slice 49 (.slice (some ⟨g, o, none⟩) nn cap) (some (.int .i64 (m : Int))) none none).run Try.prog W = .ok (.slice (some ⟨g, if cap = m then o else o + m, none⟩) (nn - m) (cap - m)) W := fun f hf m hm W => by
      obtain ⟨f1, f2, f3, f4, f5⟩ := hWf f hf
      exact slice_run g o nn cap m _ rfl (by omega) hcn W
    have HSL := Lib.hid hSL
    have hat : ∀ f ∈ fs, 0 ≤ f.at_ ∧ f.at_ ≤ nn := fun f hf => by
      obtain ⟨f1, f2, f3, f4, f5⟩ := hWf f hf
      omega
    obtain ⟨wa, hwa⟩ : ∃ wa, wa = w.alloc (.cells #[.int .i64 4, .int .i64 0, .bool false, .bool false, .pointer none, .int .i64 0, .int .i64 k, .slice none 0 0, .pointer none] 39) := ⟨_, rfl⟩
    have hba : Below w.heap.size w wa := by rw [hwa]; exact below_alloc _ (Below.refl _ _)
    have HFS := Lib.hid (fields_any wa p tab k (hT.later (hb.bt hba)) hk)
    rw [← hfs] at HFS
    have hlg := blk_lt hL
    have HGA := Lib.hid (show LabB wa g l by rw [hwa]; exact blk_alloc hL _)
    have HG0 := Lib.hid (show w.grownBy wa (some g) by rw [hwa]; exact World.grownBy_alloc w _ _)
    have HGN := Lib.hid (show g < wa.heap.size by have := hba.size; omega)
    have HBW := Lib.hid hb
    have HIH := Lib.hid hIH
    have HAT := Lib.hid hat
    have hnl : nn ≤ 1000000 := by omega
    clear hIH hSL hT hL hb hU hO ha q1 q2 q3 q4 hWf hat hba hfs hoa han hcn hcc hl
    go_enter Try.func22, Try.ntmps22
    go_wp2_with fail
    rw [← hwa]
    clear hwa
    refine HFS.out.mono ?_
    rintro e' w2 ⟨vf, rfl, hv, hfar, kb⟩
    obtain ⟨A, cp, rfl, e2, e3, e4⟩ := hv
    have hlen : fs.length ≤ 9223372036854775807 := by unfold maxLen at e3; omega
    have HSF := Lib.hid (show SlR w2 11 (FldR w2) (.slice A fs.length cp) fs from ⟨A, cp, rfl, e2, e3, e4⟩)
    have HFAR := Lib.hid hfar
    have HL2 := Lib.hid (blk_below HGA.out kb)
    have HG2 := Lib.hid (grown_more HG0.out (grown_of_below (r := some g) kb))
    clear e2 e3 e4 hfar kb
    go_wp2_with fail
    go_loopw [61] (fun i wr => ∃ j : Nat, j ≤ fs.length ∧ i = .int .i64 j ∧ LabB wr g (markF tab (d - 1) (fs.take j) a l) ∧ w2.grownBy wr (some g)) (fun i _ => fs.length - (intOf i).toNat)
    case atStart => exact ⟨0, by omega, rfl, HL2.out, ⟨rfl, rfl, rfl, Nat.le_refl _, fun _ _ _ => rfl⟩⟩
    case round =>
      obtain ⟨j, hj, rfl, hL, hG⟩ := hrel
      have HL := Lib.hid hL
      have HG := Lib.hid hG
      by_cases hlt : j < fs.length
      · obtain ⟨f, hf⟩ : ∃ f, fs[j]? = some f := ⟨_, List.getElem?_eq_getElem hlt⟩
        have hmem := List.mem_of_getElem? hf
        obtain ⟨m, hm⟩ : ∃ m : Nat, f.at_ = m := ⟨f.at_.toNat, by have := HAT.out f hmem; omega⟩
        have hm2 : m ≤ nn := by have := HAT.out f hmem; omega
        obtain ⟨A4, c4, e1, _, _, e4⟩ := HSF.out.grownF HFAR.out HGN.out HL2.out hG
        simp only [Value.slice.injEq] at e1
        obtain ⟨rfl, _, rfl⟩ := e1
        obtain ⟨b, o9, cs, rfl, g2, g3, ds, rfl, r1, r2, r3⟩ := e4 j f hf
        rw [hm] at g3
        obtain ⟨k', s', g', c', p', n', num', A', q1', q2', rt', rfl⟩ := r2.ten
        have HTY := Lib.hid r2
        unfold tyCells at g3
        have z0 : wr.cell? ⟨b, o9 + j * 11, none⟩ = some (.string f.name) := g3 0 (by decide)
        have z1 : wr.cell? ⟨b, o9 + j * 11 + 1, none⟩ = some (.int .i64 k') := g3 1 (by decide)
        have z2 : wr.cell? ⟨b, o9 + j * 11 + 2, none⟩ = some (.int .i64 s') := g3 2 (by decide)
        have z3 : wr.cell? ⟨b, o9 + j * 11 + 3, none⟩ = some (.bool g') := g3 3 (by decide)
        have z4 : wr.cell? ⟨b, o9 + j * 11 + 4, none⟩ = some (.bool c') := g3 4 (by decide)
        have z5 : wr.cell? ⟨b, o9 + j * 11 + 5, none⟩ = some (.pointer p') := g3 5 (by decide)
        have z6 : wr.cell? ⟨b, o9 + j * 11 + 6, none⟩ = some (.int .i64 n') := g3 6 (by decide)
        have z7 : wr.cell? ⟨b, o9 + j * 11 + 7, none⟩ = some (.int .i64 num') := g3 7 (by decide)
        have z8 : wr.cell? ⟨b, o9 + j * 11 + 8, none⟩ = some (.slice A' q1' q2') := g3 8 (by decide)
        have z9 : wr.cell? ⟨b, o9 + j * 11 + 9, none⟩ = some (.pointer rt') := g3 9 (by decide)
        have z10 : wr.cell? ⟨b, o9 + j * 11 + 10, none⟩ = some (.int .i64 m) := g3 10 (by decide)
        have hlx := World.block_lt_of_cell? _ _ z0
        have HLT := Lib.hid hlt
        have HB2 := Lib.hid (below_grown HBW.out (grown_more HG2.out hG) hgw)
        obtain ⟨w3, hw3⟩ : ∃ w3, w3 = wr.alloc (.cells #[.string f.name, .int .i64 k', .int .i64 s', .bool g', .bool c', .pointer p', .int .i64 n', .int .i64 num', .slice A' q1' q2', .pointer rt', .int .i64 m] 43) := ⟨_, rfl⟩
        have kb3 : Below wr.heap.size wr w3 := by rw [hw3]; exact below_alloc _ (Below.refl _ _)
        have HK3 := Lib.hid (show w3.heap[wr.heap.size]? = some (.cells #[.string f.name, .int .i64 k', .int .i64 s', .bool g', .bool c', .pointer p', .int .i64 n', .int .i64 num', .slice A' q1' q2', .pointer rt', .int .i64 m] 43 (0, 0)) by rw [hw3]; exact blk_new _ _)
        have HTY3 := Lib.hid (HTY.out.later kb3)
        have HL3 := Lib.hid (show LabB w3 g _ from blk_below HL.out kb3)
        have HG3 := Lib.hid (grown_more HG.out (grown_of_below (r := some g) kb3))
        have HB3 := Lib.hid (HB2.out.bt kb3)
        obtain ⟨oo, hoo⟩ : ∃ oo, oo = if cap = m then o else o + m := ⟨_, rfl⟩
        have hsl := HSL.out f hmem m hm
        rw [← hoo] at hsl
        have HOO := Lib.hid hoo
        clear hoo
        have HF := Lib.hid hf
        clear hL hG g3 e4 r1 r2 r3 kb3 hf
        go_wp2_with fail
        rw [← hw3]
        clear z0 z1 z2 z3 z4 z5 z6 z7 z8 z9 z10 hw3 hlx
        have c1 := blk_cell (i := 1) HK3.out rfl
        have c2 := blk_cell (i := 2) HK3.out rfl
        have c3 := blk_cell (i := 3) HK3.out rfl
        have c4 := blk_cell (i := 4) HK3.out rfl
        have c5 := blk_cell (i := 5) HK3.out rfl
        have c6 := blk_cell (i := 6) HK3.out rfl
        have c7 := blk_cell (i := 7) HK3.out rfl
        have c8 := blk_cell (i := 8) HK3.out rfl
        have c9 := blk_cell (i := 9) HK3.out rfl
        have c10 := blk_cell (i := 10) HK3.out rfl
        have cl := blk_lt HK3.out
        refine wp_region_over_tail 7 (by kernel_rfl) (by kernel_rfl) ?_
        simp only [List.take_succ_cons, List.take_zero, List.drop_succ_cons, List.drop_zero]
        repeat (go_big_quiet_step (fail))
        refine wpQuiet_nil ?_
        intro w5 kb5
        have HL5 := Lib.hid (show LabB w5 g _ from blk_below HL3.out kb5)
        have HG5 := Lib.hid (grown_more HG3.out (grown_of_below (r := some g) kb5))
        have HI := Lib.hid (HIH.out f hmem m hm w5 _ _ (HB3.out.bt kb5) (HTY3.out.later kb5) HL5.out (markF_length _ _ _ _ _))
        rw [← HOO.out] at HI
        unfold tyCells at HI
        clear kb5 c1 c2 c3 c4 c5 c6 c7 c8 c9 c10 cl hm
        go_wp2_with fail
        refine HI.out.mono ?_
        rintro e' w4 ⟨rfl, hL4, hG4⟩
        have HL4 := Lib.hid (show LabB w4 g (markF tab (d - 1) (fs.take (j + 1)) a l) by rw [take_more' HF.out, markF_snoc]; exact hL4)
        have HG4 := Lib.hid (grown_more HG5.out hG4)
        clear hL4 hG4
        go_wp2_with fail
        have hlt := HLT.out
        go_roundw
        case rel => exact ⟨j + 1, by omega, by go_num, HL4.out, HG4.out⟩
        case measure => simp [intOf]; omega
      · have e : j = fs.length := by omega
        subst e
        clear hL hG
        go_wp2_with fail
        go_returns
        exact ⟨rfl, by have := HL.out; rwa [List.take_length] at this, grown_more HG2.out HG.out⟩
  | d, .fn _ _ _, w, ds, a, o, nn, cap, l, hO, hU, hC, hb, hL, han, hoa, ha, hcn, hcc, hl => hO.elim
termination_by d t => (d, SizeOf.sizeOf t)
end Go.Proofs.Ytpcfibnnboenhaa
