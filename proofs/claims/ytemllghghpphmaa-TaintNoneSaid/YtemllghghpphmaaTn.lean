/- TaintNone: the law walked. No condition. -/
import Derived.Test.YtemllghghpphmaaTnQ
import Derived.Test.YtemllghghpphmaaFlB
import Derived.Test.YtemllghghpphmaaRn
import Derived.Test.YtemllghghpphmaaFit15
namespace Go.Proofs.Ytemllghghpphmaa
open Go.RowKit
set_option linter.unusedVariables false
set_option maxHeartbeats 8000000
theorem Try.infoBlk : (Try.prog.info? 34).map (fun i => (i.zero, i.size, i.bytes)) = some (some (.agg #[.slice none 0 0, .int .i64 0, .int .i64 0, .int .i64 0, .int .i64 0, .int .i64 0, .int .i64 0, .int .i64 0, .int .i64 0]), 9, 88) := by kernel_rfl
theorem Try.infoIns : (Try.prog.info? 29).map (fun i => (i.zero, i.size, i.bytes)) = some (some (.agg #[.int .i64 0, .int .i64 0, .int .i64 0, .int .i64 0, .int .i64 0, .int .i64 0, .int .i64 0, .bool false, .bool false, .int .i64 0, .int .i64 0, .slice none 0 0]), 12, 104) := by kernel_rfl
/-- what a function brings -/
structure FnT (f : FuncD) (R P : Nat) : Prop where
  regs : f.regs = (R : Int)
  par : f.params = (P : Int)
  h0n : 0 < f.blocks.length
  hn : f.blocks.length ≤ 2000
  hR : R ≤ 300
  hP : P ≤ R
  hsec : f.secret.length = P
  hnx : ∀ i k, i < f.blocks.length → k ∈ nxF f i → 0 ≤ k ∧ k < f.blocks.length
  hslim : ∀ b ∈ f.blocks, ∀ x ∈ b.ins, x.args.length ≤ 1000000
  hil : ∀ b ∈ f.blocks, b.ins.length ≤ 2000
  hdst : ∀ b ∈ f.blocks, ∀ x ∈ b.ins, x.dst < (R : Int)
theorem FnT.of {p : ProgD} {f : FuncD} (h1 : FuncOk p f) (h2 : FuncL f) : ∃ R P : Nat, FnT f R P := by
  obtain ⟨⟨a1, a2, a3, a4, a5⟩, a6⟩ := h1
  obtain ⟨b1, b2, b3, b4, b5⟩ := h2
  have hR : f.regs = ((f.regs.toNat : Nat) : Int) := by omega
  refine ⟨f.regs.toNat, f.params.toNat, hR, by omega, Nat.pos_of_ne_zero a5, b3, by omega, by omega, by omega, fun i k hi hk => ?_, fun b hb x hx => ?_, fun b hb => (b5 b hb).1, fun b hb x hx => ?_⟩
  · rw [nxF_of (List.getElem?_eq_getElem hi)] at hk
    exact (a6 _ (List.getElem_mem hi)).2.2.2.2.2 k hk
  · have := ((b5 b hb).2 x hx).1
    omega
  · have := (a6 b hb).1 x hx
    rw [← hR]
    exact this.2.2.2.2.1
theorem ownB_slR {w : World} {base : Nat} {v : Value} {l : List Bool} (h : OwnB w base v l) : SlR w 1 BoolR v l := by
  unfold OwnB at h
  rcases h.2 with ⟨rfl, e⟩ | ⟨g, cap, cur, rfl, h1, h2, h3, h4, _⟩
  · exact ⟨none, 0, by rw [e], by omega, by decide, fun i x hi => by have := (List.getElem?_eq_some_iff.1 hi).1; omega⟩
  · refine ⟨_, cap, rfl, h3, h4, fun i x hi => ⟨g, 0, [.bool x], rfl, rfl, fun j hj => ?_, rfl⟩⟩
    obtain rfl : j = 0 := by omega
    have hlt := (List.getElem?_eq_some_iff.1 hi).1
    rw [Nat.zero_add, Nat.mul_one, Nat.add_zero, h.cellAt i (by omega)]
    show (l.map Value.bool)[i]? = _
    rw [List.getElem?_map, hi]; rfl
set_option maxRecDepth 100000 in
theorem nonelaw (w : World) (p : ProgD) (vf vg : Value) (hin : In w p vf vg) (qb qa : Int) (hqb : In64 qb) (hqa : In64 qa) :
    Calls Try.prog 4 #[.agg #[vf, vg, .int .i64 p.data, .int .i64 p.main], .int .i64 qb, .int .i64 qa] w fun e w' => e = .returned (.bool true) ∧ Below w.heap.size w w' := by
  have HIN := Lib.hid hin
  obtain ⟨A, cap, rfl, _, m3, hi⟩ := hin.funcs
  obtain ⟨A2, cap2, rfl, _, m4, _⟩ := hin.globs
  have HM := Lib.hid (fun w1 h => maybe_any w w1 h p _ _ hin)
  have hfl := hin.flen
  have hgl := hin.glen
  have HF := Lib.hid hi
  have HQB := Lib.hid hqb
  have HQA := Lib.hid hqa
  clear hi hin m3 m4 hqb hqa
  have HB1 := Lib.hid (below_alloc (.cells #[.slice A p.funcs.length cap, .slice A2 p.globals.length cap2, .int .i64 p.data, .int .i64 p.main] 54) (Below.refl w.heap.size w))
  have HBX := Lib.hid (block_box w #[.slice A p.funcs.length cap, .slice A2 p.globals.length cap2, .int .i64 p.data, .int .i64 p.main] 54)
  go_enter Try.func4, Try.ntmps4
  go_wp2_with fail
  refine (fit_vm _).mono ?_
  rintro e w2 ⟨rfl, hb2⟩
  have HB2 := Lib.hid (HB1.out.bt hb2)
  have c0 := later (HBX.out 0 _ rfl) hb2
  have c1 := later (HBX.out 1 _ rfl) hb2
  have c2 := later (HBX.out 2 _ rfl) hb2
  have c3 := later (HBX.out 3 _ rfl) hb2
  clear hb2 HB1
  go_wp2_with fail
  refine (HM.out _ HB2.out).mono ?_
  rintro e w3 ⟨b, rfl, hb, hb3⟩
  have HB3 := Lib.hid (HB2.out.bt hb3)
  have d0 := later c0 hb3
  have HOK := Lib.hid hb
  clear c0 c1 c2 c3 hb3 hb
  cases b
  · go_wp2_with fail
    go_returns
    exact ⟨rfl, HB3.out⟩
  have HLk := Lib.hid (HOK.out rfl).1
  have HPk := Lib.hid (HOK.out rfl).2
  clear HOK HBX HB2
  go_wp2_with fail
  clear d0
  go_loopw [27] (fun i wr => ∃ k : Nat, k ≤ p.funcs.length ∧ i = .int .i64 k ∧ Below w.heap.size w wr) (fun i _ => p.funcs.length - (intOf i).toNat)
  case atStart => exact ⟨0, by omega, rfl, HB3.out⟩
  case round =>
    obtain ⟨k, hk, rfl, hb⟩ := hrel
    have HB5 := Lib.hid hb
    clear hb
    by_cases hlt : k < p.funcs.length
    · obtain ⟨f, hfk⟩ : ∃ f, p.funcs[k]? = some f := ⟨_, List.getElem?_eq_getElem hlt⟩
      obtain ⟨fb, fo, cs, rfl, e1, e2, hfr⟩ := HF.out k f hfk
      obtain ⟨R, P, hFN⟩ := FnT.of (HPk.out f (List.mem_of_getElem? hfk)) (HLk.out.2.2 f (List.mem_of_getElem? hfk))
      have HFN := Lib.hid hFN
      obtain ⟨vs, vl, vb, rfl, z1, z2, z3, z4, z5, z6, z7, z8, z9⟩ := hfr
      have HSB := Lib.hid z8
      have HSS := Lib.hid z3
      obtain ⟨A7, cap7, rfl, _, m7, _⟩ := z3
      obtain ⟨A6, cap6, rfl, _, m6, _⟩ := z6
      obtain ⟨A8, cap8, rfl, _, m8, h8⟩ := z8
      have r0 := later (e2 0 (by omega)) HB5.out
      have r1 : wr.cell? ⟨fb, fo + k * 6 + 1, none⟩ = some (.int .i64 (P : Nat)) := by rw [← hFN.par]; exact later (e2 1 (by omega)) HB5.out
      have r2 := later (e2 2 (by omega)) HB5.out
      have r3 : wr.cell? ⟨fb, fo + k * 6 + 3, none⟩ = some (.int .i64 (R : Nat)) := by rw [← hFN.regs]; exact later (e2 3 (by omega)) HB5.out
      have r4 := later (e2 4 (by omega)) HB5.out
      have r5 := later (e2 5 (by omega)) HB5.out
      rw [Nat.add_zero] at r0
      clear e1 e2 h8 hfk m6 m7 m8 z1 z2 z4 z5 z7 z9 hFN
      have hR300 := HFN.out.hR
      have hn2000 := HFN.out.hn
      have HB6 := Lib.hid (below_alloc (.cells #[.string f.name, .int .i64 (P : Nat), .slice A7 f.secret.length cap7, .int .i64 (R : Nat), .slice A6 f.slots.length cap6, .slice A8 f.blocks.length cap8] 38) HB5.out)
      have HFB := Lib.hid (blk_new wr (.cells #[.string f.name, .int .i64 (P : Nat), .slice A7 f.secret.length cap7, .int .i64 (R : Nat), .slice A6 f.slots.length cap6, .slice A8 f.blocks.length cap8] 38))
      go_wp2_with fail
      clear r0 r1 r2 r3 r4 r5
      generalize hgfe : wr.heap.size = gf at *
      obtain ⟨wf, hwf⟩ : ∃ z, z = wr.alloc (.cells #[.string f.name, .int .i64 (P : Nat), .slice A7 f.secret.length cap7, .int .i64 (R : Nat), .slice A6 f.slots.length cap6, .slice A8 f.blocks.length cap8] 38) := ⟨_, rfl⟩
      rw [← hwf] at HB6 HFB ⊢
      clear hwf hgfe
      refine (secrets_any w wf HB6.out gf 0 f (.slice A7 f.secret.length cap7) (.slice A8 f.blocks.length cap8) (blk_cell HFB.out rfl) (blk_cell HFB.out rfl) R (blk_cell HFB.out rfl) HSS.out HSB.out _ rfl HFN.out.h0n (by omega) (by omega) HFN.out.hnx HFN.out.hslim HFN.out.hdst (by have := HFN.out.hsec; have := HFN.out.hP; omega)).mono ?_
      rintro e w7 ⟨sv, As, J, rfl, hS, hB7, hJ, hAJ⟩
      have HS := Lib.hid hS
      have HJ := Lib.hid hJ
      have HAJ := Lib.hid hAJ
      have HB7 := Lib.hid (HB6.out.trans (hB7.mono HB6.out.size))
      have HF7 := Lib.hid ((hB7.block gf (blk_lt HFB.out)).trans HFB.out)
      have hgf : gf < w7.heap.size := blk_lt HF7.out
      clear hS hJ hAJ hB7 HB6
      have HBg := Lib.hid (below_alloc (.cells #[.string f.name, .int .i64 (P : Nat), .slice A7 f.secret.length cap7, .int .i64 (R : Nat), .slice A6 f.slots.length cap6, .slice A8 f.blocks.length cap8] 38) (Below.refl w7.heap.size w7))
      have HG7 := Lib.hid (blk_new w7 (.cells #[.string f.name, .int .i64 (P : Nat), .slice A7 f.secret.length cap7, .int .i64 (R : Nat), .slice A6 f.slots.length cap6, .slice A8 f.blocks.length cap8] 38))
      obtain ⟨w8, hmk, hob, hb8⟩ := make_bools (w7.alloc (.cells #[.string f.name, .int .i64 (P : Nat), .slice A7 f.secret.length cap7, .int .i64 (R : Nat), .slice A6 f.slots.length cap6, .slice A8 f.blocks.length cap8] 38)) P (by have := HFN.out.hP; omega)
      have HOB := Lib.hid hob
      have HOB0 := Lib.hid hb8
      have HF8 := Lib.hid (blk_below (blk_below HF7.out HBg.out) hb8)
      have HG8 := Lib.hid (blk_below HG7.out hb8)
      have HB8 := Lib.hid ((HB7.out.trans (HBg.out.mono HB7.out.size)).bt hb8)
      have hz8 := hb8.size
      rw [World.size_alloc] at hz8
      clear hob hb8
      have f0 := blk_cell (i := 0) HF7.out rfl
      have f1 := blk_cell (i := 1) HF7.out rfl
      have f2 := blk_cell (i := 2) HF7.out rfl
      have f3 := blk_cell (i := 3) HF7.out rfl
      have f4 := blk_cell (i := 4) HF7.out rfl
      have f5 := blk_cell (i := 5) HF7.out rfl
      obtain ⟨i0, hti, hz0, hz1, hz2⟩ := info_parts Try.infoBlk
      have HB9 := Lib.hid (Below.setCell HB8.out (p := ⟨w7.heap.size, 2, none⟩) HB7.out.size (.slice (some ⟨w7.heap.size + 1, 0, none⟩) P P))
      obtain ⟨v10, w10, css, hr, hown, hcl, hce, hcr, hb10⟩ := copy_row (P := Try.prog) (w := w8.setCell ⟨w7.heap.size, 2, none⟩ (.slice (some ⟨w7.heap.size + 1, 0, none⟩) P P)) 35 34 i0 _ 88 Try.underlying35 hti hz0 hz1 hz2 rfl (by decide) (HSB.out.foot (by decide) HB9.out.block) (fun cs x h => h.one) (by unfold maxLen; omega) (by omega)
      obtain ⟨g2, c2, hv10, _, _, hg2, hg2l⟩ := own_form hown HFN.out.h0n
      subst hv10
      have HG9 := Lib.hid (blk_setCell (i := 2) HG8.out (.slice (some ⟨w7.heap.size + 1, 0, none⟩) P P))
      have HG10 := Lib.hid (blk_below HG9.out hb10)
      have HB10 := Lib.hid (HB9.out.bt hb10)
      have HGS := Lib.hid (show SlR w10 1 BoolR (.slice (some ⟨w7.heap.size + 1, 0, none⟩) P P) (List.replicate P false) by
        have h1 : OwnB (w8.setCell ⟨w7.heap.size, 2, none⟩ (.slice (some ⟨w7.heap.size + 1, 0, none⟩) P P)) (w7.alloc (.cells #[.string f.name, .int .i64 (P : Nat), .slice A7 f.secret.length cap7, .int .i64 (R : Nat), .slice A6 f.slots.length cap6, .slice A8 f.blocks.length cap8] 38)).heap.size (.slice (some ⟨w7.heap.size + 1, 0, none⟩) P P) (List.replicate P false) := by
          have h2 := HOB.out
          unfold OwnB at h2 ⊢
          rw [World.size_alloc] at h2 ⊢
          exact h2.kept (grownBy_setCell w8 w7.heap.size 2 _) (Or.inr (by simp [Value.ownBlock]))
        exact (ownB_slR h1).later (by decide) hb10)
      have HW8 := Lib.hid (show Below w7.heap.size w7 w8 from HBg.out.bt (HOB0.out))
      have HW10 := Lib.hid (show Below w7.heap.size w7 w10 from (Below.setCell HW8.out (p := ⟨w7.heap.size, 2, none⟩) (Nat.le_refl _) _).bt hb10)
      have HROW := Lib.hid hown
      have HCL := Lib.hid hcl
      have HCE := Lib.hid hce
      have HCR := Lib.hid hcr
      have g2c := blk_cell (i := 2) HG8.out rfl
      have g2f := blk_free (i := 2) HG8.out
      have g2s := blk_lt HG8.out
      have f85 := blk_cell (i := 5) HF8.out rfl
      have hne : gf ≠ w7.heap.size := by omega
      have g5c := blk_cell (i := 5) HG10.out rfl
      have g5f := blk_free (i := 5) HG10.out
      have g5s := blk_lt HG10.out
      have hg2n : w7.heap.size + 1 < g2 := by
        rw [World.size_setCell] at hg2
        have h2 := HOB.out
        unfold OwnB at h2
        have := (h2.lt _ rfl).2
        simp at this
        omega
      clear hown hcl hce hcr hb10 hti hz0 hz1 hz2 hg2
      go_wp2_with (at_builtin; refine wpList_append_run' _ rfl _ _ _ rfl _ _ _ _ rfl rfl hr ?_)
      clear f0 f1 f2 f3 f4 f5 g2c g2f g2s f85 g5c g5f g5s hmk hr hz8
      obtain ⟨w11, hw11⟩ : ∃ z, z = w10.setCell ⟨w7.heap.size, 5, none⟩ (.slice (some ⟨g2, 0, none⟩) f.blocks.length c2) := ⟨_, rfl⟩
      have HG11 := Lib.hid (show w11.heap[w7.heap.size]? = some (.cells #[.string f.name, .int .i64 (P : Nat), .slice (some ⟨w7.heap.size + 1, 0, none⟩) P P, .int .i64 (R : Nat), .slice A6 f.slots.length cap6, .slice (some ⟨g2, 0, none⟩) f.blocks.length c2] 38 (0, 0)) by rw [hw11]; exact blk_setCell (i := 5) HG10.out _)
      have HW11 := Lib.hid (show Below w7.heap.size w7 w11 by rw [hw11]; exact Below.setCell HW10.out (p := ⟨w7.heap.size, 5, none⟩) (Nat.le_refl _) _)
      have HS11 := Lib.hid (show RowS w11 g2 c2 f.blocks.length 0 f (fun i b => if i < 0 then cleanB b else b) css by
        rw [hw11]
        have h1 := (own_base HROW.out (Nat.zero_le _)).kept (grownBy_setCell w10 w7.heap.size 5 (.slice (some ⟨g2, 0, none⟩) f.blocks.length c2)) (own_blk HROW.out HG10.out (by decide))
        exact RowS.start h1 HCL.out HCE.out HCR.out (Below.setCell HB10.out (p := ⟨w7.heap.size, 5, none⟩) HB7.out.size _) (by have := HB7.out.size; omega) (fun i b => by simp))
      have HGS11 := Lib.hid (show SlR w11 1 BoolR (.slice (some ⟨w7.heap.size + 1, 0, none⟩) P P) (List.replicate P false) by
        rw [hw11]
        obtain ⟨Ax, cx, e, k1, k2, k3⟩ := HGS.out
        refine ⟨Ax, cx, e, k1, k2, fun i x hx => ?_⟩
        obtain ⟨b, o, cs, rfl, k4, k5, k6⟩ := k3 i x hx
        refine ⟨b, o, cs, rfl, k4, fun j hj => ?_, k6⟩
        rw [← k5 j hj]
        simp only [Value.slice.injEq, Option.some.injEq, Addr.mk.injEq] at e
        exact World.cell?_setCell_other _ _ _ _ (fun h => by have := congrArg Addr.block h; simp at this; omega))
      rw [← hw11]
      clear hw11 HGS HG10 HB10 HW10 HROW HB9 HG9 HW8 HG8 HF8 HOB HOB0 HB8 HG7 HBg
      have c5 := blk_cell (i := 5) HG11.out rfl
      go_wp2_with fail
      clear c5
      go_loopw [44] (fun i wr => ∃ (j : Nat) (css : List (List Value)), j ≤ f.blocks.length ∧ i = .int .i64 j ∧ Below w7.heap.size w7 wr ∧ wr.heap[w7.heap.size]? = some (.cells #[.string f.name, .int .i64 (P : Nat), .slice (some ⟨w7.heap.size + 1, 0, none⟩) P P, .int .i64 (R : Nat), .slice A6 f.slots.length cap6, .slice (some ⟨g2, 0, none⟩) f.blocks.length c2] 38 (0, 0)) ∧
        SlR wr 1 BoolR (.slice (some ⟨w7.heap.size + 1, 0, none⟩) P P) (List.replicate P false) ∧ RowS wr g2 c2 f.blocks.length 0 f (fun i b => if i < j then cleanB b else b) css ∧ ∀ (i : Nat) cs blk, j ≤ i → css[i]? = some cs → f.blocks[i]? = some blk → BlockR w cs blk) (fun i _ => f.blocks.length - (intOf i).toNat)
      case atStart => exact ⟨0, css, by omega, rfl, HW11.out, HG11.out, HGS11.out, HS11.out, fun i cs blk _ h1 h2 => HCR.out i cs blk h1 h2⟩
      case round =>
        rename World => wi
        obtain ⟨j, cssj, hj, rfl, hW, hG, hGS, hRS, hOld⟩ := hrel
        have HW12 := Lib.hid hW
        have HG12 := Lib.hid hG
        have HGS12 := Lib.hid hGS
        have HRS := Lib.hid hRS
        have HOld := Lib.hid hOld
        clear hW hG hGS hRS hOld HG11 HW11 HS11 HGS11 HCR HCE HCL
        have c5 := blk_cell (i := 5) HG12.out rfl
        by_cases hltj : j < f.blocks.length
        · obtain ⟨blk, hblk⟩ : ∃ b', f.blocks[j]? = some b' := ⟨_, List.getElem?_eq_getElem hltj⟩
          obtain ⟨csj, hcsj⟩ : ∃ c, cssj[j]? = some c := ⟨_, List.getElem?_eq_getElem (by rw [HRS.out.len]; exact hltj)⟩
          have HBK := Lib.hid hblk
          have HCJ := Lib.hid hcsj
          have hil := HFN.out.hil blk (List.mem_of_getElem? hblk)
          obtain ⟨vins, hce, hsi, hrest⟩ := HOld.out j csj blk (Nat.le_refl _) hcsj hblk
          have hat := row_at HRS.out.row HRS.out.len HRS.out.each hcsj (j := 0) (u := vins) (by rw [hce]; rfl)
          rw [Nat.add_zero] at hat
          obtain ⟨at1, at2, at3⟩ := hat
          have HBi := Lib.hid (HB7.out.trans (HW12.out.mono HB7.out.size))
          obtain ⟨i1, hti, hz0, hz1, hz2⟩ := info_parts Try.infoIns
          obtain ⟨vl, w12, cssl, hr, hown, hcl, hcel, hcr, hb12⟩ := copy_row (P := Try.prog) (w := wi) 30 29 i1 _ 104 Try.underlying30 hti hz0 hz1 hz2 rfl (by decide) (hsi.foot (by decide) HBi.out.block) (fun cs x h => h.one) (by unfold maxLen; omega) (by omega)
          obtain ⟨Al, cl, hvl, _⟩ := own_slice hown
          obtain ⟨Ai, ci, hvi, _⟩ := id hsi
          have HRI := Lib.hid (show RowI w w12 wi.heap.size vl blk.ins (fun i x => if i < 0 then cleanI x else x) cssl from ⟨hown, hcl, hcel, fun i cs x h1 h2 => by simpa using hcr i cs x h1 h2⟩)
          have HB12 := Lib.hid hb12
          have HCE := Lib.hid hce
          subst hvl hvi
          clear hown hcl hcel hcr hb12 hti hz0 hz1 hz2 hce hsi hrest hblk hcsj
          go_wp2_with (at_builtin; refine wpList_append_run' _ rfl _ _ _ rfl _ _ _ _ rfl rfl hr ?_)
          clear hr at1 at2 at3 c5
          go_loopw [56] (fun i wq => ∃ (q : Nat) (cssl : List (List Value)), q ≤ blk.ins.length ∧ i = .int .i64 q ∧ RowI w wq wi.heap.size (.slice Al blk.ins.length cl) blk.ins (fun i x => if i < q then cleanI x else x) cssl ∧ Below wi.heap.size wi wq) (fun i _ => blk.ins.length - (intOf i).toNat)
          case atStart => exact ⟨0, cssl, by omega, rfl, HRI.out, HB12.out⟩
          case round =>
            rename World => wq
            obtain ⟨q, cssq, hq, rfl, hRI, hBq⟩ := hrel
            have HRQ := Lib.hid hRI
            have HBQ := Lib.hid hBq
            clear hRI hBq HRI HB12
            by_cases hltq : q < blk.ins.length
            · obtain ⟨x, hx⟩ : ∃ x, blk.ins[q]? = some x := ⟨_, List.getElem?_eq_getElem hltq⟩
              obtain ⟨gl, kl, hvl, _, _, hgl1, _⟩ := own_form HRQ.out.row (by omega)
              cases hvl
              obtain ⟨css', hN, hgr, ⟨u, k1⟩, k2, k3⟩ := RowI.put (G' := fun i x => if i < q + 1 then cleanI x else x) HRQ.out rfl hx false (fun i y hi => by
                by_cases h1 : i < q
                · rw [if_pos h1, if_pos (by omega)]
                · rw [if_neg h1, if_neg (by omega)]) (by rw [if_neg (Nat.lt_irrefl q), if_pos (Nat.lt_succ_self q)]; rfl)
              have N1 := Lib.hid hN
              have N2 := Lib.hid (below_of_grown HBQ.out (Nat.le_refl _) hgr (fun k hk => by cases hk; exact hgl1))
              clear hN hgr hx
              go_wp2_with fail
              go_roundw
              case rel => exact ⟨q + 1, css', by omega, by go_num, N1.out, N2.out⟩
              case measure => simp [intOf]; omega
            · have e : q = blk.ins.length := by omega
              subst e
              have HGq := Lib.hid (blk_below HG12.out HBQ.out)
              have HRSq := Lib.hid (HRS.out.later HBQ.out)
              have c5 := blk_cell (i := 5) HGq.out rfl
              have hat := row_at HRSq.out.row HRSq.out.len HRSq.out.each HCJ.out (j := 0) (u := .slice Ai blk.ins.length ci) (by rw [HCE.out]; rfl)
              rw [Nat.add_zero] at hat
              obtain ⟨at1, at2, at3⟩ := hat
              have HBw := Lib.hid (HBi.out.trans (HBQ.out.mono HBi.out.size))
              have hrest := HRSq.out.el j csj blk HCJ.out HBK.out
              rw [if_neg (Nat.lt_irrefl j)] at hrest
              have hnew := HRQ.out.rests (ins' := blk.ins.map cleanI) (by simp) (fun i y hy => by
                rw [List.getElem?_map] at hy
                obtain ⟨x, hx, rfl⟩ := Option.map_eq_some_iff.1 hy
                exact ⟨x, hx, by rw [if_pos (List.getElem?_eq_some_iff.1 hx).1]⟩) hrest HBw.out (by have := HB7.out.size; omega) (own_ne HRQ.out.row HRSq.out.row (by decide)) (by omega)
              obtain ⟨p1, p2⟩ := HRSq.out.put (G' := fun i b => if i < j + 1 then cleanB b else b) HCJ.out HBK.out (.slice Al blk.ins.length cl) (fun i b hi => by
                by_cases h1 : i < j
                · rw [if_pos h1, if_pos (by omega)]
                · rw [if_neg h1, if_neg (by omega)]) (by rw [if_pos (Nat.lt_succ_self j)]; exact hnew)
              have N1 := Lib.hid p1
              have N2 := Lib.hid (below_of_grown (HW12.out.trans (HBQ.out.mono HW12.out.size)) (Nat.le_refl _) p2 (fun k hk => by cases hk; omega))
              have N3 := Lib.hid (blk_kept HGq.out p2 (Or.inr (by intro e; cases e; omega)))
              have N4 := Lib.hid (show SlR (wq.setCell ⟨g2, j * 9, none⟩ (.slice Al blk.ins.length cl)) 1 BoolR (.slice (some ⟨w7.heap.size + 1, 0, none⟩) P P) (List.replicate P false) by
                obtain ⟨Ax, cx, e, k1, k2, k3⟩ := HGS12.out.later (by decide) HBQ.out
                refine ⟨Ax, cx, e, k1, k2, fun i x hx => ?_⟩
                obtain ⟨b, o, cs, rfl, k4, k5, k6⟩ := k3 i x hx
                refine ⟨b, o, cs, rfl, k4, fun j hj => ?_, k6⟩
                rw [← k5 j hj]
                simp only [Value.slice.injEq, Option.some.injEq, Addr.mk.injEq] at e
                exact World.cell?_setCell_other _ _ _ _ (fun h => by have := congrArg Addr.block h; simp at this; omega))
              clear p1 p2 hnew hrest
              have N5 := Lib.hid (show ∀ (i : Nat) cs b, j + 1 ≤ i → (cssj.set j (csj.set 0 (.slice Al blk.ins.length cl)))[i]? = some cs → f.blocks[i]? = some b → BlockR w cs b from fun i cs b hi h1 h2 => by
                rw [List.getElem?_set_ne (by omega)] at h1
                exact HOld.out i cs b (by omega) h1 h2)
              go_wp2_with fail
              go_roundw
              case rel => exact ⟨j + 1, _, by omega, by go_num, N2.out, N3.out, N4.out, N1.out, N5.out⟩
              case measure => simp [intOf]; omega
        · have e : j = f.blocks.length := by omega
          subst e
          have HBi := Lib.hid (HB7.out.trans (HW12.out.mono HB7.out.size))
          have HSL := Lib.hid (HRS.out.slR (xs := f.blocks.map cleanB) (by simp) (fun i y hy => by
            rw [List.getElem?_map] at hy
            obtain ⟨b, hb, rfl⟩ := Option.map_eq_some_iff.1 hy
            exact ⟨b, hb, by rw [if_pos (List.getElem?_eq_some_iff.1 hb).1]⟩))
          go_wp2_with fail
          clear c5
          refine (of_none wi wi (Below.refl _ _) w7.heap.size 0 (cleanF f P) _ _ (blk_cell HG12.out rfl) (blk_cell HG12.out rfl) R (blk_cell HG12.out rfl) HGS12.out HSL.out f.blocks.length (by show _ = (f.blocks.map cleanB).length; simp) HFN.out.h0n (by omega) (by omega)
            (fun i k hi hk => HFN.out.hnx i k hi (by rw [cleanF_nx f P i hi] at hk; exact hk)) (cleanF_all f P (fun x h => h) HFN.out.hslim) (cleanF_all f P (fun x h => h) HFN.out.hdst) (by show (List.replicate P false).length ≤ R; rw [List.length_replicate]; exact HFN.out.hP) (cleanF_len f P (fun b hb => by have := HFN.out.hil b hb; omega)) (cleanF_secret f P) (cleanF_ins f P)).mono ?_
          rintro e w13 ⟨y1, y2, rfl, hb13⟩
          have hfd : ∀ w, (Instr.field 43 (.agg #[y1, y2, .bool false]) 2).run Try.prog w = .ok (.bool false) w := fun _ => by kernel_rfl
          have HW13 := Lib.hid (HW12.out.trans (hb13.mono HW12.out.size))
          have HG13 := Lib.hid (blk_below HG12.out hb13)
          have HF13 := Lib.hid (blk_below HF7.out HW13.out)
          have f5 := blk_cell (i := 5) HF13.out rfl
          have hgl5 := blk_lt HF13.out
          clear hb13 HSL HGS12 HRS HOld HBi HG12 HW12
          go_wp2_with fail
          have hdz : ((f.blocks.length : Int) == 0) = false := by have h := HFN.out.h0n; rw [beq_eq_false_iff_ne]; omega
          have hdz2 : (f.blocks.length : Int) ≠ 0 := by have := HFN.out.h0n; omega
          refine wp_region_over (by kernel_rfl) (by kernel_rfl) ?_
          repeat (go_big_quiet_step (fail))
          refine wpQuiet_nil ?_
          intro w14 hb14
          obtain ⟨bi, hbi, hbl⟩ := idx_mod qb HFN.out.h0n (by omega)
          rw [hbi]
          have HW14 := Lib.hid (HW13.out.trans (hb14.mono HW13.out.size))
          have HF14 := Lib.hid (blk_below HF13.out hb14)
          have HG14 := Lib.hid (blk_below HG13.out hb14)
          obtain ⟨blk, hblk⟩ : ∃ b', f.blocks[bi]? = some b' := ⟨_, List.getElem?_eq_getElem hbl⟩
          have HBK := Lib.hid hblk
          have hil := HFN.out.hil blk (List.mem_of_getElem? hblk)
          have HSB2 := HSB.out
          obtain ⟨Az, cz, ez, _, _, hz⟩ := HSB2
          obtain ⟨bb, bo, csb, e0, e1, e2, vi, e3, y1, y2, y3⟩ := hz bi blk hblk
          subst e3
          cases ez
          subst e0
          obtain ⟨Ai, ci, hvi, _⟩ := id y1
          subst hvi
          have HY1 := Lib.hid y1
          have HBi := Lib.hid (HB7.out.trans (HW14.out.mono HB7.out.size))
          have b0 := later (e2 0 (by omega)) HBi.out
          have b1 := later (e2 1 (by omega)) HBi.out
          have b2 := later (e2 2 (by omega)) HBi.out
          have b3 := later (e2 3 (by omega)) HBi.out
          have b4 := later (e2 4 (by omega)) HBi.out
          have b5 := later (e2 5 (by omega)) HBi.out
          have b6 := later (e2 6 (by omega)) HBi.out
          have b7 := later (e2 7 (by omega)) HBi.out
          have b8 := later (e2 8 (by omega)) HBi.out
          rw [Nat.add_zero] at b0
          have f5 := blk_cell (i := 5) HF14.out rfl
          have hgl5 := blk_lt HF14.out
          clear hb14 hbi e1 e2 y1 y2 y3 hz hdz hdz2 hfd hblk
          by_cases hm0 : blk.ins.length = 0
          · have hm1 : ((blk.ins.length : Int) == 0) = true := by rw [beq_iff_eq]; omega
            have N1 := Lib.hid (below_alloc (.cells #[.slice Ai blk.ins.length ci, .int .i64 blk.term.kind, .int .i64 blk.term.op, .int .i64 blk.term.a.reg, .int .i64 blk.term.a.num, .int .i64 blk.term.b.reg, .int .i64 blk.term.b.num, .int .i64 blk.term.to_, .int .i64 blk.term.els] 34) HBi.out)
            clear hm0
            go_wp2_with fail
            go_roundw
            case rel => exact ⟨k + 1, by omega, by go_num, N1.out⟩
            case measure => simp [intOf]; omega
          · have hm1 : ((blk.ins.length : Int) == 0) = false := by rw [beq_eq_false_iff_ne]; omega
            have hm2 : 0 < blk.ins.length := by omega
            have hmz2 : (blk.ins.length : Int) ≠ 0 := by omega
            have HB15 := Lib.hid (below_alloc (.cells #[.slice Ai blk.ins.length ci, .int .i64 blk.term.kind, .int .i64 blk.term.op, .int .i64 blk.term.a.reg, .int .i64 blk.term.a.num, .int .i64 blk.term.b.reg, .int .i64 blk.term.b.num, .int .i64 blk.term.to_, .int .i64 blk.term.els] 34) (Below.refl w14.heap.size w14))
            have HX15 := Lib.hid (blk_new w14 (.cells #[.slice Ai blk.ins.length ci, .int .i64 blk.term.kind, .int .i64 blk.term.op, .int .i64 blk.term.a.reg, .int .i64 blk.term.a.num, .int .i64 blk.term.b.reg, .int .i64 blk.term.b.num, .int .i64 blk.term.to_, .int .i64 blk.term.els] 34))
            clear hm0
            go_wp2_with fail
            clear b0 b1 b2 b3 b4 b5 b6 b7 b8 f5 hgl5
            obtain ⟨w15, hw15⟩ : ∃ z, z = w14.alloc (.cells #[.slice Ai blk.ins.length ci, .int .i64 blk.term.kind, .int .i64 blk.term.op, .int .i64 blk.term.a.reg, .int .i64 blk.term.a.num, .int .i64 blk.term.b.reg, .int .i64 blk.term.b.num, .int .i64 blk.term.to_, .int .i64 blk.term.els] 34) := ⟨_, rfl⟩
            rw [← hw15] at HB15 HX15 ⊢
            clear hw15
            obtain ⟨gb, hgb⟩ : ∃ z, z = w14.heap.size := ⟨_, rfl⟩
            rw [← hgb] at HX15 ⊢
            have HGB := Lib.hid (show w7.heap.size < gb by have := blk_lt HG14.out; omega)
            clear hgb
            have x0 := blk_cell (i := 0) HX15.out rfl
            have xl := blk_lt HX15.out
            refine wp_region_over (by kernel_rfl) (by kernel_rfl) ?_
            repeat (go_big_quiet_step (fail))
            refine wpQuiet_nil ?_
            intro w16 hb16
            obtain ⟨ka, hka, hkl⟩ := idx_mod qa hm2 (by omega)
            rw [hka]
            have HW16 := Lib.hid ((HW14.out.bt HB15.out).bt hb16)
            have HF16 := Lib.hid (blk_below (blk_below HF14.out HB15.out) hb16)
            have HG16 := Lib.hid (blk_below (blk_below HG14.out HB15.out) hb16)
            have HX16 := Lib.hid (blk_below HX15.out hb16)
            have HB16 := Lib.hid (HB7.out.trans (HW16.out.mono HB7.out.size))
            clear x0 xl hb16 hka hm1 hmz2 HX15 HB15 HG14 HF14 HW14 HBi HG13 HF13 HW13
            have f0 := blk_cell (i := 0) HF16.out rfl
            have f1 := blk_cell (i := 1) HF16.out rfl
            have f2 := blk_cell (i := 2) HF16.out rfl
            have f3 := blk_cell (i := 3) HF16.out rfl
            have f4 := blk_cell (i := 4) HF16.out rfl
            have f5 := blk_cell (i := 5) HF16.out rfl
            go_upto_region 30 with (refine wpList_store_blk (by rfl) 38 _ _ (by rfl) w7.heap.size (by rfl) (by rfl) HG16.out (by rfl) (by kernel_rfl) (by kernel_rfl) ?_; intro w17 kg17 hb17 hz17 ho17)
            have HW17 := Lib.hid (hb17 _ _ (Nat.le_refl _) HW16.out)
            have HG17 := Lib.hid kg17
            have HF17 := Lib.hid ((ho17 gf (by omega)).trans HF16.out)
            have HX17 := Lib.hid ((ho17 gb (by have := HGB.out; omega)).trans HX16.out)
            have HB17 := Lib.hid (HB7.out.trans (HW17.out.mono HB7.out.size))
            clear kg17 hb17 hz17 ho17 f0 f1 f2 f3 f4 f5 HG16 HF16 HX16 HW16 HB16
            obtain ⟨i0, hti, hz0, hz1, hz2⟩ := info_parts Try.infoBlk
            obtain ⟨v18, w18, css, hr, hown, hcl, hce, hcr, hb18⟩ := copy_row (P := Try.prog) (w := w17) 35 34 i0 _ 88 Try.underlying35 hti hz0 hz1 hz2 rfl (by decide) (HSB.out.foot (by decide) HB17.out.block) (fun cs x h => h.one) (by unfold maxLen; omega) (by omega)
            obtain ⟨g3, c3, hv18, _, _, hg3, hg3l⟩ := own_form hown HFN.out.h0n
            subst hv18
            have HG18 := Lib.hid (blk_below HG17.out hb18)
            have HX18 := Lib.hid (blk_below HX17.out hb18)
            have HW18 := Lib.hid (HW17.out.trans (hb18.mono HW17.out.size))
            have HROW := Lib.hid hown
            have HCL := Lib.hid hcl
            have HCE := Lib.hid hce
            have HCR := Lib.hid hcr
            have f5 := blk_cell (i := 5) HF17.out rfl
            have fl := blk_lt HF17.out
            have g5c := blk_cell (i := 5) HG18.out rfl
            have g5f := blk_free (i := 5) HG18.out
            have g5s := blk_lt HG18.out
            have hg3n : w7.heap.size < g3 := by have := blk_lt HG17.out; omega
            clear hown hcl hce hcr hb18 hti hz0 hz1 hz2 hg3
            go_wp2_with (at_builtin; refine wpList_append_run' _ rfl _ _ _ rfl _ _ _ _ rfl rfl hr ?_)
            clear f5 fl g5c g5f g5s hr
            obtain ⟨w19, hw19⟩ : ∃ z, z = w18.setCell ⟨w7.heap.size, 5, none⟩ (.slice (some ⟨g3, 0, none⟩) f.blocks.length c3) := ⟨_, rfl⟩
            have HG19 := Lib.hid (show w19.heap[w7.heap.size]? = some (.cells #[.string f.name, .int .i64 (P : Nat), .slice A7 f.secret.length cap7, .int .i64 (R : Nat), .slice A6 f.slots.length cap6, .slice (some ⟨g3, 0, none⟩) f.blocks.length c3] 38 (0, 0)) by rw [hw19]; exact blk_setCell (i := 5) HG18.out _)
            have HW19 := Lib.hid (show Below w7.heap.size w7 w19 by rw [hw19]; exact Below.setCell HW18.out (p := ⟨w7.heap.size, 5, none⟩) (Nat.le_refl _) _)
            have HX19 := Lib.hid (show w19.heap[gb]? = some (.cells #[.slice Ai blk.ins.length ci, .int .i64 blk.term.kind, .int .i64 blk.term.op, .int .i64 blk.term.a.reg, .int .i64 blk.term.a.num, .int .i64 blk.term.b.reg, .int .i64 blk.term.b.num, .int .i64 blk.term.to_, .int .i64 blk.term.els] 34 (0, 0)) by rw [hw19]; exact blk_set HX18.out (by have := HGB.out; show gb ≠ w7.heap.size; omega) _)
            have HR19 := Lib.hid (show w19.ownsRow 0 34 9 (.slice (some ⟨g3, 0, none⟩) f.blocks.length c3) f.blocks.length css.flatten by
              rw [hw19]
              exact (own_base HROW.out (Nat.zero_le _)).kept (grownBy_setCell w18 w7.heap.size 5 _) (own_blk HROW.out HG18.out (by decide)))
            rw [← hw19]
            clear hw19 HROW HX18 HG18 HW18 HX17 HG17 HF17 HB17 HW17
            have HB19 := Lib.hid (HB7.out.trans (HW19.out.mono HB7.out.size))
            obtain ⟨i1, hti, hz0, hz1, hz2⟩ := info_parts Try.infoIns
            obtain ⟨vl, w20, cssl, hr, hown, hcl, hcel, hcr, hb20⟩ := copy_row (P := Try.prog) (w := w19.drew) 30 29 i1 _ 104 Try.underlying30 hti hz0 hz1 hz2 rfl (by decide) (HY1.out.foot (w' := w19.drew) (by decide) HB19.out.block) (fun cs x h => h.one) (by unfold maxLen; omega) (by omega)
            have hbA : Below w19.heap.size w19 w20 := ⟨hb20.os, hb20.tape, hb20.output, hb20.size, hb20.block⟩
            obtain ⟨gl, kl, hvl, _, _, hgl1, hgl2⟩ := own_form hown hm2
            subst hvl
            have hgl1 : w19.heap.size ≤ gl := hgl1
            have HRI := Lib.hid (show RowI w w20 w19.heap.size (.slice (some ⟨gl, 0, none⟩) blk.ins.length kl) blk.ins (fun i x => x) cssl from ⟨hown, hcl, hcel, hcr⟩)
            have HG20 := Lib.hid (blk_below HG19.out hbA)
            have HR20 := Lib.hid (own_below HR19.out hbA)
            have HW20 := Lib.hid (HW19.out.trans (hbA.mono HW19.out.size))
            have HX20 := Lib.hid (blk_below HX19.out hbA)
            obtain ⟨csb, hcsb⟩ : ∃ c, css[bi]? = some c := ⟨_, List.getElem?_eq_getElem (by rw [HCL.out]; exact hbl)⟩
            have HCB := Lib.hid hcsb
            have hlb := HCE.out csb (List.mem_of_getElem? hcsb)
            have hat := row_at HR20.out HCL.out HCE.out hcsb (j := 0) (List.getElem?_eq_getElem (by omega))
            rw [Nat.add_zero] at hat
            obtain ⟨at1, at2, at3⟩ := hat
            obtain ⟨vold, hvold⟩ : ∃ z, csb[0] = z := ⟨_, rfl⟩
            rw [hvold] at at1
            have g5 := blk_cell (i := 5) HG19.out rfl
            have gb0 := blk_cell (i := 0) HX19.out rfl
            have HU5 := Lib.hid (blk_cell (i := 5) HG20.out rfl)
            have HU0 := Lib.hid (blk_cell (i := 0) HX20.out rfl)
            have HR21 := Lib.hid (row_put HR20.out HCE.out hcsb (by decide : 0 < 9) (.slice (some ⟨gl, 0, none⟩) blk.ins.length kl))
            clear hown hcl hcel hcr hb20 hti hz0 hz1 hz2 hcsb hvold
            refine upto_begin 8 (fun w' => w'.cell? ⟨w7.heap.size, 5, none⟩ = some (.slice (some ⟨g3, 0, none⟩) f.blocks.length c3) ∧ w'.cell? ⟨gb, 0, none⟩ = some (.slice Ai blk.ins.length ci)) (by kernel_rfl) ?_ (fun hU0 => ?_)
            · exact ⟨g5, gb0⟩
            first | refine upto_run 0 (v := ?_) hU0 (by kernel_rfl) rfl (by kernel_rfl) (by kernel_rfl) (by kernel_rfl) (by kernel_rfl) (fun _ _ _ h => h) (Or.inl ⟨by rfl, ?_⟩) ?_ | fail
            rotate_left
            · first | (intro w _; go_simp; with_reducible rfl) | (intro w _; go_simp; done) | fail
            try simp only [Act.put, List.setIfInBounds_toArray, List.set_cons_zero, List.set_cons_succ]
            first | refine upto_read 1 (v := ?_) hU0 (by kernel_rfl) rfl (by kernel_rfl) (by kernel_rfl) (by kernel_rfl) (by kernel_rfl) (by kernel_rfl) (fun _ _ _ h => h) (Or.inl ⟨by rfl, ?_⟩) ?_ | fail
            rotate_left
            · first | (intro w hSw; (try dsimp only at hSw); go_simp; with_reducible rfl) | (intro w hSw; (try dsimp only at hSw); go_simp; done) | fail
            try simp only [Act.put, List.setIfInBounds_toArray, List.set_cons_zero, List.set_cons_succ]
            first | refine upto_run 2 (v := ?_) hU0 (by kernel_rfl) rfl (by kernel_rfl) (by kernel_rfl) (by kernel_rfl) (by kernel_rfl) (fun _ _ _ h => h) (Or.inl ⟨by rfl, ?_⟩) ?_ | fail
            rotate_left
            · first | (intro w _; go_simp; with_reducible rfl) | (intro w _; go_simp; done) | fail
            try simp only [Act.put, List.setIfInBounds_toArray, List.set_cons_zero, List.set_cons_succ]
            first | refine upto_run 3 (v := ?_) hU0 (by kernel_rfl) rfl (by kernel_rfl) (by kernel_rfl) (by kernel_rfl) (by kernel_rfl) (fun _ _ _ h => h) (Or.inl ⟨by rfl, ?_⟩) ?_ | fail
            rotate_left
            · first | (intro w _; go_simp; with_reducible rfl) | (intro w _; go_simp; done) | fail
            try simp only [Act.put, List.setIfInBounds_toArray, List.set_cons_zero, List.set_cons_succ]
            first | refine upto_read 4 (v := ?_) hU0 (by kernel_rfl) rfl (by kernel_rfl) (by kernel_rfl) (by kernel_rfl) (by kernel_rfl) (by kernel_rfl) (fun _ _ _ h => h) (Or.inl ⟨by rfl, ?_⟩) ?_ | fail
            rotate_left
            · first | (intro w hSw; (try dsimp only at hSw); go_simp; with_reducible rfl) | (intro w hSw; (try dsimp only at hSw); go_simp; done) | fail
            try simp only [Act.put, List.setIfInBounds_toArray, List.set_cons_zero, List.set_cons_succ]
            first | refine upto_next 5 rfl (by kernel_rfl) (fun K hK => ?_) | fail
            refine step_append_run rfl (.const (.slice none 0 0)) (.tmp 117) 30 rfl _ _ _ _ rfl rfl hr ?_
            try go_simp
            first | refine hK.out _ _ ?_ (fun hU1 => ?_) | (go_wp2_with fail; refine hK.out _ _ ?_ (fun hU1 => ?_)) | fail
            · exact Or.inr ⟨HU5.out, HU0.out⟩
            clear hK K
            clear hU0
            try simp only [Act.put, List.setIfInBounds_toArray, List.set_cons_zero, List.set_cons_succ]
            first | refine upto_run 6 (v := ?_) hU1 (by kernel_rfl) rfl (by kernel_rfl) (by kernel_rfl) (by kernel_rfl) (by kernel_rfl) (fun _ _ _ h => h) (Or.inl ⟨by rfl, ?_⟩) ?_ | fail
            rotate_left
            · first | (intro w _; go_simp; with_reducible rfl) | (intro w _; go_simp; done) | fail
            try simp only [Act.put, List.setIfInBounds_toArray, List.set_cons_zero, List.set_cons_succ]
            first | refine upto_run 7 (v := ?_) hU1 (by kernel_rfl) rfl (by kernel_rfl) (by kernel_rfl) (by kernel_rfl) (by kernel_rfl) (fun _ _ _ h => h) (Or.inl ⟨by rfl, ?_⟩) ?_ | fail
            rotate_left
            · first | (intro w _; go_simp; with_reducible rfl) | (intro w _; go_simp; done) | fail
            try simp only [Act.put, List.setIfInBounds_toArray, List.set_cons_zero, List.set_cons_succ]
            first | refine upto_next 8 rfl (by kernel_rfl) (fun K hK => ?_) | fail
            go_simp
            first | refine hK.out _ _ ?_ (fun hU2 => ?_) | (go_wp2_with fail; refine hK.out _ _ ?_ (fun hU2 => ?_)) | fail
            · exact Or.inl (by kernel_rfl)
            clear hK K
            clear hU1
            try simp only [Act.put, List.setIfInBounds_toArray, List.set_cons_zero, List.set_cons_succ]
            refine upto_done (by kernel_rfl) ?_ _
            clear g5 gb0 at1 at2 at3 hr
            obtain ⟨w21, hw21⟩ : ∃ z, z = w20.setCell ⟨g3, bi * 9, none⟩ (.slice (some ⟨gl, 0, none⟩) blk.ins.length kl) := ⟨_, rfl⟩
            rw [Nat.add_zero, ← hw21] at HR21
            rw [← hw21]
            have HG21 := Lib.hid (show w21.heap[w7.heap.size]? = some (.cells #[.string f.name, .int .i64 (P : Nat), .slice A7 f.secret.length cap7, .int .i64 (R : Nat), .slice A6 f.slots.length cap6, .slice (some ⟨g3, 0, none⟩) f.blocks.length c3] 38 (0, 0)) from blk_kept HG20.out HR21.out.2.1 (Or.inr (by intro e; cases e; omega)))
            have HRI21 := Lib.hid (show RowI w w21 w19.heap.size (.slice (some ⟨gl, 0, none⟩) blk.ins.length kl) blk.ins (fun i x => x) cssl from ⟨HRI.out.row.kept HR21.out.2.1 (own_ne HRI.out.row HR20.out (by decide)), HRI.out.len, HRI.out.each, HRI.out.el⟩)
            have HW21 := Lib.hid (below_of_grown HW20.out (Nat.le_refl _) HR21.out.2.1 (fun k hk => by cases hk; omega))
            clear hw21
            have hlc : (css.set bi (csb.set 0 (.slice (some ⟨gl, 0, none⟩) blk.ins.length kl))).length = f.blocks.length := by rw [HR21.out.2.2.1, HCL.out]
            have hat := row_at HR21.out.1 hlc HR21.out.2.2.2 (i := bi) (j := 0) (List.getElem?_set_self (by rw [HCL.out]; exact hbl)) (List.getElem?_set_self (by omega))
            rw [Nat.add_zero] at hat
            obtain ⟨at1, at2, at3⟩ := hat
            obtain ⟨x, hx⟩ : ∃ x, blk.ins[ka]? = some x := ⟨_, List.getElem?_eq_getElem hkl⟩
            obtain ⟨css', hN, hgr, ⟨u, k1⟩, k2, k3⟩ := RowI.put (G' := fun i x => if i = ka then hotI x else x) HRI21.out rfl hx true (fun i y hi => by rw [if_neg hi]) (by rw [if_pos rfl]; rfl)
            have HN := Lib.hid hN
            have HGR := Lib.hid hgr
            have HKX := Lib.hid hx
            have g5 := blk_cell (i := 5) HG21.out rfl
            clear hN hgr hx
            go_wp2_with fail
            clear at1 at2 at3 k1 k2 k3 g5
            obtain ⟨w22, hw22⟩ : ∃ z, z = w21.setCell ⟨gl, ka * 12 + 8, none⟩ (.bool true) := ⟨_, rfl⟩
            rw [← hw22] at HN HGR
            rw [← hw22]
            clear hw22
            have HG22 := Lib.hid (blk_kept HG21.out HGR.out (Or.inr (by have := blk_lt HG19.out; intro e; cases e; omega)))
            have HW22 := Lib.hid (below_of_grown HW21.out (Nat.le_refl _) HGR.out (fun k hk => by cases hk; have := HW19.out.size; omega))
            have HB22 := Lib.hid (HB7.out.trans (HW22.out.mono HB7.out.size))
            have hwg : w.heap.size ≤ g3 := by have := HB7.out.size; omega
            have HRS := Lib.hid (show RowS w22 g3 c3 f.blocks.length 0 f (fun i b => if i = bi then hotB' b ka else b) (css.set bi (csb.set 0 (.slice (some ⟨gl, 0, none⟩) blk.ins.length kl))) from
              ⟨HR21.out.1.kept HGR.out (own_ne HR21.out.1 HRI21.out.row (by decide)), hlc, HR21.out.2.2.2, fun i cs b h1 h2 => by
                by_cases e : i = bi
                · subst e
                  rw [List.getElem?_set_self (by rw [HCL.out]; exact hbl)] at h1
                  rw [HBK.out] at h2
                  rw [if_pos rfl, ← Option.some.inj h1, ← Option.some.inj h2]
                  have h3 := HN.out.rests (g := g3) (ins' := blk.ins.set ka (hotI x)) (by simp) (fun q y hy => by
                    rw [List.getElem?_set] at hy
                    split at hy
                    · rename_i e; subst e
                      exact ⟨x, HKX.out, by rw [if_pos rfl]; exact Option.some.inj hy⟩
                    · rename_i e
                      exact ⟨y, hy, by rw [if_neg (fun h => e h.symm)]⟩) (Rests.of_in (HCR.out i csb blk HCB.out HBK.out) HB22.out hwg) HB22.out hwg (own_ne HN.out.row (HR21.out.1.kept HGR.out (own_ne HR21.out.1 HRI21.out.row (by decide))) (by decide)) (by omega)
                  have e2 : hotB' blk ka = { blk with ins := blk.ins.set ka (hotI x) } := by unfold hotB'; rw [HKX.out]
                  rw [e2]; exact h3
                · rw [List.getElem?_set_ne (fun h => e h.symm)] at h1
                  rw [if_neg e]
                  exact Rests.of_in (HCR.out i cs b h1 h2) HB22.out hwg⟩)
            have HHF := Lib.hid (show (hotF f bi ka).blocks = f.blocks.set bi (hotB' blk ka) by unfold hotF; rw [HBK.out])
            have HSL := Lib.hid (HRS.out.slR (xs := (hotF f bi ka).blocks) (hotF_len f bi ka) (fun i y hy => by
              rw [HHF.out, List.getElem?_set] at hy
              split at hy
              · rename_i e; subst e
                exact ⟨blk, HBK.out, by rw [if_pos rfl]; exact Option.some.inj hy⟩
              · rename_i e
                exact ⟨y, hy, by rw [if_neg (fun h => e h.symm)]⟩))
            clear hlc hlb
            refine (secrets_any w22 w22 (Below.refl _ _) w7.heap.size 0 (hotF f bi ka) (.slice A7 f.secret.length cap7) (.slice (some ⟨g3, 0, none⟩) f.blocks.length c3) (blk_cell HG22.out rfl) (blk_cell HG22.out rfl) R (blk_cell HG22.out rfl) (HSS.out.foot (by decide) HB22.out.block) HSL.out f.blocks.length (hotF_len f bi ka).symm HFN.out.h0n (by omega) (by omega)
              (fun i k hi hk => HFN.out.hnx i k hi (by rw [hotF_nx f bi ka i hi] at hk; exact hk)) (hotF_all f bi ka (fun x h => h) HFN.out.hslim) (hotF_all f bi ka (fun x h => h) HFN.out.hdst) (by have := HFN.out.hsec; have := HFN.out.hP; show f.secret.length ≤ R; omega)).mono ?_
            rintro e w23 ⟨nv, An, Jn, rfl, hS2, hb23, hJ2, hAJ2⟩
            have HW23 := Lib.hid (HW22.out.trans (hb23.mono HW22.out.size))
            have HF23 := Lib.hid (blk_below HF7.out HW23.out)
            have HS23 := Lib.hid (set_below HS.out HW23.out)
            have HN23 := Lib.hid hS2
            have HB23 := Lib.hid (HB7.out.trans (HW23.out.mono HB7.out.size))
            have HMORE := Lib.hid (show ∀ r : Nat, hasL As (r : Nat) = true → hasL An (r : Nat) = true from fun r hr => by
              unfold hasL at hr ⊢
              simp only [Int.toNat_natCast, Bool.and_eq_true] at hr ⊢
              exact ⟨hr.1, (hAJ2 r).2 (sec_more f bi ka rfl HJ.out hJ2 r ((HAJ.out r).1 hr.2))⟩)
            have f3 := blk_cell (i := 3) HF23.out rfl
            have fl := blk_lt HF23.out
            clear hS2 hb23 hJ2 hAJ2
            go_wp2_with fail
            clear f3 fl
            go_loop [133] (fun i => ∃ r : Nat, r ≤ R ∧ i = .int .i64 r) (fun i => R - (intOf i).toNat)
            case atStart => exact ⟨0, by omega, rfl⟩
            case round =>
              obtain ⟨r, hr, rfl⟩ := hrel
              by_cases hltr : r < R
              · have HM2 := Lib.hid (HMORE.out r)
                obtain ⟨ha, hha⟩ : ∃ z, z = hasL As (r : Nat) := ⟨_, rfl⟩
                have HHA := Lib.hid hha
                clear hha
                go_wp2_with fail
                refine (has_any w23 _ sv As r HS23.out (by omega)).mono ?_
                rintro e w24 ⟨rfl, rfl⟩
                rw [← HHA.out]
                cases ha with
                | false =>
                  go_wp2_with fail
                  go_round
                  case rel => exact ⟨r + 1, by omega, by go_num⟩
                  case measure => simp [intOf]; omega
                | true =>
                  go_wp2_with fail
                  refine (has_any w23 _ nv An r HN23.out (by omega)).mono ?_
                  rintro e w24 ⟨rfl, rfl⟩
                  rw [HM2.out HHA.out.symm]
                  go_wp2_with fail
                  go_round
                  case rel => exact ⟨r + 1, by omega, by go_num⟩
                  case measure => simp [intOf]; omega
              · have e : r = R := by omega
                subst e
                have N1 := Lib.hid HB23.out
                go_wp2_with fail
                go_roundw
                case rel => exact ⟨k + 1, by omega, by go_num, N1.out⟩
                case measure => simp [intOf]; omega
    · have e : k = p.funcs.length := by omega
      subst e
      go_wp2_with fail
      go_returns
      exact ⟨rfl, HB5.out⟩
end Go.Proofs.Ytemllghghpphmaa
