/- pick.Data walked: its items add up to what the globals have. No condition. -/
import Derived.Test.YthpcnmjpjglmbaaDoorPdE
namespace Go.Proofs.YthpcnmjpjglmbaaDoor
open Go.RowKit
set_option linter.unusedVariables false
set_option maxHeartbeats 4000000
set_option maxRecDepth 100000
/-- what is known of the globals -/
structure GlobsOk (p : ProgD) : Prop where
  len : p.globals.length ≤ 20
  parts : ∀ g ∈ p.globals, g.parts.length ≤ 50 ∧ ∀ y ∈ g.parts, y.data.length ≤ 4096
  placed : ∀ g ∈ p.globals, 0 ≤ g.at_ ∧ 0 ≤ g.size ∧ g.at_ + g.size ≤ 4096 ∧ foldP p.funcs.length (some g.size) g.parts = some 0
  names : ∀ g ∈ p.globals, g.name.size ≤ 140737488355328
  fnames : ∀ f ∈ p.funcs, f.name.size ≤ 140737488355328
  ord : Ordered p.globals p.globals.length
theorem datum_any (W0 w : World) (h0 : Below W0.heap.size W0 w) (pb : Nat) (p : ProgD) (vf vg : Value) (hin : In W0 p vf vg) (hbx : BoxP W0 w pb p vf vg) (hfn : ∀ f ∈ p.funcs, f.name.size ≤ 140737488355328) (y : PartD) (vd : Value) (hd : SlR W0 1 ByteR vd y.data) (hl : y.data.length ≤ 4096) (left l2 : Int) (hs : stepP p.funcs.length left y = some l2) :
    Calls Tryd.prog 13 #[.pointer (some ⟨pb, 0, none⟩), .agg #[.int .i64 y.kind, vd, .int .i64 y.n]] w (DatV y w) := by
  by_cases k0 : y.kind = 0
  · exact datum_plain W0 w h0 pb y vd hd k0 hl
  · obtain ⟨Ad, cd, rfl, _⟩ := hd
    unfold stepP at hs
    rw [if_neg k0] at hs
    by_cases k1 : y.kind = 1
    · rw [if_pos k1] at hs
      split at hs
      · rename_i hc
        obtain ⟨Af, cf, rfl, _, _, hf⟩ := hin.funcs
        refine datum_fun w pb Af p.funcs.length cf y Ad _ cd k1 hc.1 hc.2.1 hbx.1 (fun i hi => ?_)
        obtain ⟨b, o, cs, e1, e2, e3, vs, vl, vb, rfl, _⟩ := hf i _ (List.getElem?_eq_getElem hi)
        have hc0 : W0.cell? ⟨b, o + i * 6, none⟩ = some (.string p.funcs[i].name) := e3 0 (by decide)
        exact ⟨b, o, _, e1, later hc0 h0, hfn _ (List.getElem_mem hi)⟩
      · cases hs
    · rw [if_neg k1] at hs
      by_cases k2 : y.kind = 2 ∨ y.kind = 3
      · exact datum_num w pb y Ad _ cd k2
      · rw [if_neg k2] at hs; cases hs
def DataV (p : ProgD) (w : World) (e : Ending) (w' : World) : Prop := ∃ v ds css, e = .returned v ∧ RowD w.heap.size w' v ds css ∧ runD p.globals ds = some ⟨endG p.globals, p.globals.length, kindG 2 p.globals, kindG 3 p.globals⟩ ∧ ds.length ≤ 2000 ∧ Below w.heap.size w w'
theorem data_any (W0 w : World) (h0 : Below W0.heap.size W0 w) (pb : Nat) (p : ProgD) (vf vg : Value) (hin : In W0 p vf vg) (hbx : BoxP W0 w pb p vf vg) (hG : GlobsOk p) :
    Calls Tryd.prog 6 #[.pointer (some ⟨pb, 0, none⟩)] w (DataV p w) := by
  have H0 := Lib.hid h0
  have HIN := Lib.hid hin
  have HBX := Lib.hid hbx
  have HG := Lib.hid hG
  obtain ⟨A2, cap2, rfl, _, m4, _⟩ := hin.globs
  obtain ⟨_, c1, _, _⟩ := hbx
  have hgl := hG.len
  have hlx := World.block_lt_of_cell? _ _ c1
  unfold maxLen at m4
  clear h0 hin hG
  go_enter Tryd.func6, Tryd.ntmps6
  go_wp2_with fail
  go_loopw [3, 4, 14] (fun v a i wr => ∃ (k : Nat) (ds : List DatD) (css : List (List Value)), k ≤ p.globals.length ∧ i = .int .i64 k ∧ a = .int .i64 (endG (p.globals.take k)) ∧ RowD w.heap.size wr v ds css ∧ runD p.globals ds = some ⟨endG (p.globals.take k), k, kindG 2 (p.globals.take k), kindG 3 (p.globals.take k)⟩ ∧ ds.length ≤ k * 60 ∧ (∃ A n c, v = .slice A n c) ∧ Below w.heap.size w wr) (fun _ _ i _ => p.globals.length - (intOf i).toNat)
  case atStart => exact ⟨0, [], [], by omega, rfl, rfl, ⟨World.ownsRow_nil _ _ _ _, El.nil _ _, fun d h => by cases h⟩, rfl, by simp, ⟨_, _, _, rfl⟩, Below.refl _ _⟩
  case round =>
    obtain ⟨k, ds, css, hk, rfl, rfl, hR, hrun, hdl, ⟨Av, nv, cv, rfl⟩, hb⟩ := hrel
    rename World => wo
    have HR := Lib.hid hR
    have HRUN := Lib.hid hrun
    have HBo := Lib.hid hb
    by_cases hlt : k < p.globals.length
    · obtain ⟨g, hg⟩ : ∃ g, p.globals[k]? = some g := ⟨_, List.getElem?_eq_getElem hlt⟩
      have hmem := List.mem_of_getElem? hg
      obtain ⟨a0, s0, as4, hfold⟩ := HG.out.placed g hmem
      have hord := HG.out.ord k g hlt hg
      have hnm := HG.out.names g hmem
      obtain ⟨hpl, hpd⟩ := HG.out.parts g hmem
      have HFO := Lib.hid hfold
      have HGK := Lib.hid hg
      have HPD := Lib.hid hpd
      obtain ⟨A4, c4, e1, _, _, e4⟩ := HIN.out.globs.later (by decide) (H0.out.bt hb)
      simp only [Value.slice.injEq] at e1
      obtain ⟨rfl, _, rfl⟩ := e1
      obtain ⟨b, o, cs, rfl, g2, g3, vp, rfl, r1, r2, r3, r4, r5⟩ := e4 k g hg
      obtain ⟨Ap, cp, rfl, _, hcp, _⟩ := id r4
      have HPT := Lib.hid r4
      have z0 : wo.cell? ⟨b, o + k * 4, none⟩ = some (.string g.name) := g3 0 (by decide)
      have z1 : wo.cell? ⟨b, o + k * 4 + 1, none⟩ = some (.int .i64 g.at_) := g3 1 (by decide)
      have z2 : wo.cell? ⟨b, o + k * 4 + 2, none⟩ = some (.int .i64 g.size) := g3 2 (by decide)
      have z3 : wo.cell? ⟨b, o + k * 4 + 3, none⟩ = some (.slice Ap g.parts.length cp) := g3 3 (by decide)
      have zl := World.block_lt_of_cell? _ _ z0
      obtain ⟨w3, hw3⟩ : ∃ w3, w3 = wo.alloc (.cells #[.string g.name, .int .i64 g.at_, .int .i64 g.size, .slice Ap g.parts.length cp] 30) := ⟨_, rfl⟩
      have hb3 : Below wo.heap.size wo w3 := by rw [hw3]; exact below_alloc _ (Below.refl _ _)
      have HX3 := Lib.hid (show w3.heap[wo.heap.size]? = some (.cells #[.string g.name, .int .i64 g.at_, .int .i64 g.size, .slice Ap g.parts.length cp] 30 (0, 0)) by rw [hw3]; exact blk_new _ _)
      have HR3 := Lib.hid (HR.out.later hb3)
      have HB3 := Lib.hid (HBo.out.bt hb3)
      obtain ⟨at0, hat0⟩ : ∃ z, z = endG (p.globals.take k) := ⟨_, rfl⟩
      rw [← hat0] at hord HRUN ⊢
      have HLT := Lib.hid hlt
      have HDL := Lib.hid hdl
      have HZ := Lib.hid HB3.out.size
      have hat1 : 0 ≤ at0 := by
        have := (runD_ok HR.out.nn ds.length _ (by rw [List.take_length]; exact HRUN.out))
        unfold StOk at this
        simp only at this
        omega
      clear hR hrun hb hg hmem hfold hpd g3 e4 r1 r2 r3 r4 hb3 hat0 hdl
      obtain ⟨bb, hbb⟩ : ∃ b, decide (g.at_ > at0) = b := ⟨_, rfl⟩
      go_upto_if 21 with (fail)
      have HBB := Lib.hid hbb
      clear hbb
      rw [← hw3]
      clear hw3 z0 z1 z2 z3 zl
      generalize wo.heap.size = bx at *
      go_cut [3] (fun v wx => ∃ (ds : List DatD) (css : List (List Value)), RowD w.heap.size wx v ds css ∧ runD p.globals ds = some ⟨g.at_, k, kindG 2 (p.globals.take k), kindG 3 (p.globals.take k)⟩ ∧ ds.length ≤ k * 60 + 1 ∧ (∃ A n c, v = .slice A n c) ∧ Below w.heap.size w wx ∧ wx.heap[bx]? = some (.cells #[.string g.name, .int .i64 g.at_, .int .i64 g.size, .slice Ap g.parts.length cp] 30 (0, 0)))
      case first =>
        have x1 := blk_cell (i := 1) HX3.out rfl
        have xl := blk_lt HX3.out
        cases bb with
        | true =>
          have hgt : g.at_ > at0 := of_decide_eq_true HBB.out
          obtain ⟨v', w4, cs, r1, ⟨A', n', c', rfl⟩, r2, r3, r4⟩ := HR3.out.push HZ.out ⟨5, ⟨#[]⟩, 0, g.at_ - at0⟩ none 0 (by show 0 ≤ g.at_ - at0; omega) (by have := HDL.out; omega)
          have HR4 := Lib.hid r2
          have HB4 := Lib.hid (HB3.out.trans r3)
          have HX4 := Lib.hid (r4 _ _ _ _ HX3.out (by decide))
          have HRUN4 := Lib.hid (show runD p.globals (ds ++ [⟨5, ⟨#[]⟩, 0, g.at_ - at0⟩]) = some ⟨g.at_, k, kindG 2 (p.globals.take k), kindG 3 (p.globals.take k)⟩ by
            rw [runD_snoc, HRUN.out]
            show stepD _ _ _ = _
            unfold stepD
            simp; omega)
          have R1 := Lib.hid r1
          clear r2 r3 r4 hgt
          go_wp2_with (at_builtin; refine wpList_append_run _ rfl _ _ _ rfl _ _ _ _ rfl rfl r1 ?_)
          go_meet
          exact ⟨_, _, HR4.out, HRUN4.out, by have := HDL.out; simp; omega, ⟨_, _, _, rfl⟩, HB4.out, HX4.out⟩
        | false =>
          have hgt := of_decide_eq_false HBB.out
          have HE := Lib.hid (show at0 = g.at_ by omega)
          clear hgt
          go_wp2_with fail
          go_meet
          exact ⟨ds, css, HR3.out, by have := HRUN.out; rwa [HE.out] at this, by have := HDL.out; omega, ⟨_, _, _, rfl⟩, HB3.out, HX3.out⟩
      case rest =>
        obtain ⟨ds1, css1, hR, hrun, hdl, ⟨Aw, nw, cw, rfl⟩, hb, hX⟩ := hcut
        rename World => wx
        have HR1 := Lib.hid hR
        have HRUN1 := Lib.hid hrun
        have HDL1 := Lib.hid hdl
        have HB1 := Lib.hid hb
        have HX1 := Lib.hid hX
        have x0 := blk_cell (i := 0) hX rfl
        have x1 := blk_cell (i := 1) hX rfl
        have x2 := blk_cell (i := 2) hX rfl
        have x3 := blk_cell (i := 3) hX rfl
        have xl := blk_lt hX
        clear hR hrun hdl hb hX HR3 HRUN HB3 HX3 HDL
        go_wp2_with fail
        refine (glabel_any wx g.name hnm).mono ?_
        rintro e w4 ⟨rfl, rfl⟩
        obtain ⟨v', w5, cs, r1, ⟨A', n', c', rfl⟩, r2, r3, r4⟩ := HR1.out.push HB1.out.size ⟨0, gLabel g.name, 0, 0⟩ none 0 (Int.le_refl _) (by have := HDL1.out; omega)
        have HR5 := Lib.hid r2
        have HB5 := Lib.hid (HB1.out.trans r3)
        have hX5 := r4 _ _ _ _ HX1.out (by decide)
        have HRUN5 := Lib.hid (show runD p.globals (ds1 ++ [⟨0, gLabel g.name, 0, 0⟩]) = some ⟨g.at_, k + 1, kindG 2 (p.globals.take k), kindG 3 (p.globals.take k)⟩ by
          rw [runD_snoc, HRUN1.out]
          show stepD _ _ _ = _
          unfold stepD
          simp [HGK.out])
        have HDL5 := Lib.hid (show (ds1 ++ [(⟨0, gLabel g.name, 0, 0⟩ : DatD)]).length ≤ k * 60 + 2 by have := HDL1.out; simp; omega)
        have y3 := blk_cell (i := 3) hX5 rfl
        have yl := blk_lt hX5
        clear r2 r3 r4 x0 x1 x2 x3 xl hX5
        go_wp2_with (at_builtin; refine wpList_append_run _ rfl _ _ _ rfl _ _ _ _ rfl rfl r1 ?_)
        generalize hds2 : ds1 ++ [(⟨0, gLabel g.name, 0, 0⟩ : DatD)] = ds2 at *
        generalize hcss2 : css1 ++ [cs] = css2 at *
        clear hds2 hcss2 r1 y3 yl
        go_loopw [3, 45] (fun v i wr => ∃ (q : Nat) (ds : List DatD) (css : List (List Value)) (left : Int), q ≤ g.parts.length ∧ i = .int .i64 q ∧ RowD w.heap.size wr v ds css ∧ foldP p.funcs.length (some g.size) (g.parts.take q) = some left ∧ runD p.globals ds = some ⟨g.at_ + (g.size - left), k + 1, kindG 2 (p.globals.take k) + kindP 2 (g.parts.take q), kindG 3 (p.globals.take k) + kindP 3 (g.parts.take q)⟩ ∧ ds.length ≤ k * 60 + 2 + q ∧ (∃ A n c, v = .slice A n c) ∧ Below w.heap.size w wr) (fun _ i _ => g.parts.length - (intOf i).toNat)
        case atStart => exact ⟨0, ds2, css2, g.size, by omega, rfl, HR5.out, rfl, by rw [HRUN5.out]; simp [kindP], HDL5.out, ⟨_, _, _, rfl⟩, HB5.out⟩
        case round =>
          obtain ⟨q, ds, css, left, hq, rfl, hR, hfo, hrun, hdl, ⟨Av, nv, cv, rfl⟩, hb⟩ := hrel
          rename World => wq
          have HRq := Lib.hid hR
          have HFq := Lib.hid hfo
          have HRUNq := Lib.hid hrun
          have HDLq := Lib.hid hdl
          have HBq := Lib.hid hb
          by_cases hql : q < g.parts.length
          · obtain ⟨y, hy⟩ : ∃ y, g.parts[q]? = some y := ⟨_, List.getElem?_eq_getElem hql⟩
            have hst : ∃ l2, stepP p.funcs.length left y = some l2 := by
              cases e : stepP p.funcs.length left y with
              | some l2 => exact ⟨l2, rfl⟩
              | none =>
                have h1 := foldP_take (nf := p.funcs.length) (left := some g.size) hy
                rw [hfo] at h1
                have h2 : foldP p.funcs.length (some g.size) (g.parts.take (q + 1)) = none := h1.trans e
                have h3 := foldP_no h2
                rw [HFO.out] at h3
                cases h3
            obtain ⟨l2, hl2⟩ := hst
            have HL2 := Lib.hid hl2
            have HY := Lib.hid hy
            have hdl4 := HPD.out y (List.mem_of_getElem? hy)
            obtain ⟨A5, c5, e1, _, _, e5⟩ := HPT.out.later (by decide) (H0.out.bt hb)
            simp only [Value.slice.injEq] at e1
            obtain ⟨rfl, _, rfl⟩ := e1
            obtain ⟨bp, op, cs7, rfl, g2, g3, vd, rfl, y1, y2, y3, y4⟩ := e5 q y hy
            obtain ⟨Ad, cd, rfl, hcd1, hcd2, _⟩ := id y2
            have hdt := datum_any W0
            have z0 : wq.cell? ⟨bp, op + q * 3, none⟩ = some (.int .i64 y.kind) := g3 0 (by decide)
            have z1 : wq.cell? ⟨bp, op + q * 3 + 1, none⟩ = some (.slice Ad y.data.length cd) := g3 1 (by decide)
            have z2 : wq.cell? ⟨bp, op + q * 3 + 2, none⟩ = some (.int .i64 y.n) := g3 2 (by decide)
            have zl := World.block_lt_of_cell? _ _ z0
            obtain ⟨w6, hw6⟩ : ∃ w6, w6 = wq.alloc (.cells #[.int .i64 y.kind, .slice Ad y.data.length cd, .int .i64 y.n] 39) := ⟨_, rfl⟩
            have hb6 : Below wq.heap.size wq w6 := by rw [hw6]; exact below_alloc _ (Below.refl _ _)
            have HB6 := Lib.hid (HBq.out.bt hb6)
            have HR6 := Lib.hid (HRq.out.later hb6)
            have HDT := Lib.hid (datum_any W0 w6 (H0.out.bt HB6.out) pb p _ _ HIN.out (HBX.out.later HB6.out) HG.out.fnames y _ y2 hdl4 left l2 hl2)
            have HQL := Lib.hid hql
            clear hR hfo hrun hdl hb hl2 hy g3 e5 y1 y2 y3 y4 hb6 hdt
            go_wp2_with fail
            rw [← hw6]
            clear hw6 z0 z1 z2 zl
            refine HDT.out.mono ?_
            rintro e w7 ⟨d, A8, c8, rfl, hpo, kb7⟩
            obtain ⟨hsd, hnn, hle1, hle2⟩ := hpo.step (gs := p.globals) HL2.out ⟨g.at_ + (g.size - left), k + 1, kindG 2 (p.globals.take k) + kindP 2 (g.parts.take q), kindG 3 (p.globals.take k) + kindP 3 (g.parts.take q)⟩
            have HB7 := Lib.hid (HB6.out.bt kb7)
            obtain ⟨v8, w8, cs8, r1, ⟨A', n', c', rfl⟩, r2, r3, r4⟩ := (HR6.out.later kb7).push HB7.out.size d A8 c8 hnn (by have := HDLq.out; omega)
            have HR8 := Lib.hid r2
            have HB8 := Lib.hid (HB7.out.trans r3)
            have HRUN8 := Lib.hid (show runD p.globals (ds ++ [d]) = some ⟨g.at_ + (g.size - l2), k + 1, kindG 2 (p.globals.take k) + kindP 2 (g.parts.take (q + 1)), kindG 3 (p.globals.take k) + kindP 3 (g.parts.take (q + 1))⟩ by
              rw [runD_snoc, HRUNq.out]
              show stepD _ _ _ = _
              rw [hsd, kindP_take HY.out, kindP_take HY.out]
              simp only [Option.some.injEq, StD.mk.injEq]
              exact ⟨by omega, trivial, Int.add_assoc _ _ _, Int.add_assoc _ _ _⟩)
            have HF8 := Lib.hid (show foldP p.funcs.length (some g.size) (g.parts.take (q + 1)) = some l2 by rw [foldP_take HY.out, HFq.out]; exact HL2.out)
            clear r2 r3 r4 kb7 hsd hnn hle1 hle2 hpo
            go_wp2_with (at_builtin; refine wpList_append_run _ rfl _ _ _ rfl _ _ _ _ rfl rfl r1 ?_)
            have hql := HQL.out
            go_roundw
            case rel => exact ⟨q + 1, ds ++ [d], _, l2, by omega, by go_num, HR8.out, HF8.out, HRUN8.out, by have := HDLq.out; simp; omega, ⟨_, _, _, rfl⟩, HB8.out⟩
            case measure => simp [intOf]; omega
          · have e : q = g.parts.length := by omega
            subst e
            clear hR hrun hdl hb
            rw [List.take_length] at hfo
            have hl0 : left = 0 := by rw [HFO.out] at hfo; exact (Option.some.inj hfo).symm
            subst hl0
            clear hfo
            go_wp2_with fail
            have hlt := HLT.out
            go_roundw
            case rel => exact ⟨k + 1, ds, css, by omega, by go_num, by rw [endG_take HGK.out], HRq.out, by
              have := HRUNq.out
              rw [List.take_length] at this
              rw [this, endG_take HGK.out, kindG_take HGK.out, kindG_take HGK.out]
              simp, by have := HDLq.out; omega, ⟨_, _, _, rfl⟩, HBq.out⟩
            case measure => simp [intOf]; omega
    · have e : k = p.globals.length := by omega
      subst e
      clear hR hrun hb
      go_wp2_with fail
      go_returns
      exact ⟨_, ds, css, rfl, HR.out, by have := HRUN.out; rwa [List.take_length] at this, by omega, HBo.out⟩
end Go.Proofs.YthpcnmjpjglmbaaDoor
