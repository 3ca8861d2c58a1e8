/- PickLays: the law walked. No condition. -/
import Derived.Test.YtbogcompeefoaaaDoorQk
import Derived.Test.YtbogcompeefoaaaDoorQl
import Derived.Test.YtbogcompeefoaaaDoorQd
import Derived.Test.YtbogcompeefoaaaDoorQb
import Derived.Test.YtbogcompeefoaaaDoorPk
import Derived.Deep.Cut
import Derived.Carry
import Derived.Deep.CutRange
import Derived.Deep.DeepCutAuto
namespace Go.Proofs.YtbogcompeefoaaaDoor
open Go.RowKit
set_option linter.unusedVariables false
set_option maxHeartbeats 8000000
set_option maxRecDepth 100000
theorem tab_ok {W : World} (h : GsOk W) : TabP W :=
  ⟨fun i x hx => h.2.1 i _ (by rw [List.getElem?_map]; show (plcT[i]?).map _ = _; rw [hx]; rfl), fun i x hx => h.1 i _ (by rw [List.getElem?_map]; show (argT[i]?).map _ = _; rw [hx]; rfl)⟩
theorem blk_new_map (w : World) : (w.alloc (.map #[] 0)).heap[w.heap.size]? = some (.map #[] 0) := by unfold World.alloc; exact Array.getElem?_push_size
theorem bytes_self (a : ByteArray) : (a == a) = true := (MapKept.bytes_beq a a).2 rfl
theorem bytes_ne {a b : ByteArray} (h : a ≠ b) : (a != b) = true := by
  rw [bne]
  cases e : (a == b) with
  | false => rfl
  | true => exact absurd ((MapKept.bytes_beq a b).1 e) h
theorem blk_lt_map {w : World} {g c : Nat} {es : Array MapEntry} (h : w.heap[g]? = some (.map es c)) : g < w.heap.size := (Array.getElem?_eq_some_iff.1 h).1
/-- what is not the map's block stands -/
theorem cell_grown {w w' : World} {g : Nat} {a : Addr} {v : Value} (hg : w.grownBy w' (some g)) (h : w.cell? a = some v) (hne : a.block ≠ g) : w'.cell? a = some v := by
  have hl := World.block_lt_of_cell? w _ h
  have := hg.block a.block hl (fun e => hne (Option.some.inj e))
  unfold World.cell? at h ⊢
  rw [this]; exact h
theorem ext_two (tl : List UInt8) : (⟨⟨46 :: 76 :: tl⟩⟩ : ByteArray).extract 0 2 = { data := #[46, 76] } := by
  refine ByteArray.ext ?_
  rw [ByteArray.data_extract]
  apply Array.toList_inj.1
  simp
theorem grown_later {w w1 w2 : World} {r : Option Nat} (h : w.grownBy w1 r) (hb : Below w1.heap.size w1 w2) : w.grownBy w2 r :=
  ⟨hb.os.trans h.os, hb.tape.trans h.tape, hb.output.trans h.output, Nat.le_trans h.size hb.size, fun k hk hne => (hb.block k (Nat.lt_of_lt_of_le hk h.size)).trans (h.block k hk hne)⟩
theorem grown_map {w w1 : World} {g : Nat} (h : w.grownBy w1 (some g)) (o : Obj) : w.grownBy { w1 with heap := w1.heap.setIfInBounds g o } (some g) :=
  ⟨h.os, h.tape, h.output, by simpa using h.size, fun k hk hne => by
    have hne2 : g ≠ k := fun e => hne (by rw [e])
    show (w1.heap.setIfInBounds g o)[k]? = _
    rw [Array.getElem?_setIfInBounds_ne hne2]
    exact h.block k hk hne⟩
theorem layslaw (w : World) (hT : TabP w) (hpw : PowOk w) (p : ProgD) (vf vg : Value) (hin : In w p vf vg) (hn1 : ∀ g ∈ p.globals, g.name.size ≤ 140737488355328) (hn2 : ∀ f ∈ p.funcs, f.name.size ≤ 140737488355328) :
    Calls Tryd.prog 3 #[.agg #[vf, vg, .int .i64 p.data, .int .i64 p.main]] w fun e w' => e = .returned (.bool true) ∧ Below w.heap.size w w' := by
  have HIN := Lib.hid hin
  have HTab := Lib.hid hT
  have HPow := Lib.hid hpw
  have HN := Lib.hid (And.intro hn1 hn2)
  obtain ⟨A, cap, rfl, _, m3, _⟩ := hin.funcs
  obtain ⟨A2, cap2, rfl, _, m4, _⟩ := hin.globs
  have HM := Lib.hid (fun w1 h => mayq_any w w1 h p _ _ hin)
  have HFI := Lib.hid (fun (w1 : World) (h : Below w.heap.size w w1) => fit_any w1 (hT.later h) (hpw.below h))
  have hfl := hin.flen
  have hgl := hin.glen
  clear hin m3 m4 hn1 hn2 hT hpw
  have HB1 := Lib.hid (below_alloc (.cells #[.slice A p.funcs.length cap, .slice A2 p.globals.length cap2, .int .i64 p.data, .int .i64 p.main] 25) (Below.refl w.heap.size w))
  have HBX := Lib.hid (block_box w #[.slice A p.funcs.length cap, .slice A2 p.globals.length cap2, .int .i64 p.data, .int .i64 p.main] 25)
  go_enter Tryd.func3, Tryd.ntmps3
  go_wp2_with fail
  refine (HFI.out _ HB1.out).mono ?_
  rintro e w2 ⟨rfl, hb2⟩
  have HB2 := Lib.hid (HB1.out.bt hb2)
  have c0 := later (HBX.out 0 _ rfl) hb2
  have c1 := later (HBX.out 1 _ rfl) hb2
  have c2 := later (HBX.out 2 _ rfl) hb2
  have c3 := later (HBX.out 3 _ rfl) hb2
  have cl := World.block_lt_of_cell? _ _ c0
  clear hb2 HB1
  go_wp2_with fail
  refine (HM.out _ HB2.out).mono ?_
  rintro e w3 ⟨b, rfl, hb, hb3⟩
  have HB3 := Lib.hid (HB2.out.bt hb3)
  have HBP := Lib.hid (show BoxP w w3 w.heap.size p (.slice A p.funcs.length cap) (.slice A2 p.globals.length cap2) from ⟨later c0 hb3, later c1 hb3, later c2 hb3, later c3 hb3⟩)
  have HOK := Lib.hid hb
  obtain ⟨pb, hpb⟩ : ∃ pb, pb = w.heap.size := ⟨_, rfl⟩
  rw [← hpb] at HBP ⊢
  have HPB := Lib.hid hpb
  clear hb hb3 c0 c1 c2 c3 cl hpb
  cases b with
  | false =>
    go_wp2_with fail
    go_returns
    exact ⟨rfl, HB3.out⟩
  | true =>
    obtain ⟨⟨hl1, hl2⟩, hrt⟩ := HOK.out rfl
    have HO := Lib.hid (show POk p from ⟨hl1.1, hl1.2.1, hrt.prog, hl1.2.2, HN.out.2, HN.out.1⟩)
    have HPI := Lib.hid (show PIn w3 p pb from ⟨⟨_, HBP.out.1, (HIN.out.funcs.later (by decide) HB3.out).imp' (fun cs x h => FuncR.later h HB3.out)⟩, ⟨_, HBP.out.2.1, (HIN.out.globs.later (by decide) HB3.out).imp' (fun cs x h => GlobR.later h HB3.out)⟩, HTab.out.later HB3.out, HPow.out.below HB3.out⟩)
    have HAA := Lib.hid (all_any w w3 HB3.out p A cap pb HBP.out.1 HIN.out.funcs (fun f hf => FnOk.of (hrt.prog f hf) (hl1.2.2 f hf)) hl1.1)
    have hf20 := hl1.1
    clear hl1 hl2 hrt HOK HM HFI HBX
    go_wp2_with fail
    refine HAA.out.mono ?_
    rintro e w4 ⟨va, vs, rfl, hA, hb4⟩
    have HAl := Lib.hid hA
    have HB4 := Lib.hid (HB3.out.bt hb4)
    have HPI4 := Lib.hid (HPI.out.later hb4)
    have HB34 := Lib.hid hb4
    obtain ⟨Av, cv, rfl, _⟩ := own_slice hA.row
    clear hA hb4 HAA
    go_wp2_with fail
    refine (pickall_any w4 p pb HPI4.out HO.out w3.heap.size _ vs HAl.out HB34.out.size).mono ?_
    rintro e w5 ⟨vc, xs, rfl, hC, hb5⟩
    have HC := Lib.hid hC
    have HB5 := Lib.hid (HB4.out.bt hb5)
    have HB35 := Lib.hid (below_over HB34.out hb5)
    have HPI5 := Lib.hid (HPI4.out.later hb5)
    obtain ⟨Ac, cc, rfl, _⟩ := own_slice hC.row
    clear hC hb5 HAl HPI4 HB34 HPI
    go_wp2_with fail
    go_loopw [21] (fun i wr => ∃ k : Nat, k ≤ p.funcs.length ∧ i = .int .i64 (k : Nat) ∧ Below w5.heap.size w5 wr) (fun i _ => p.funcs.length - (intOf i).toNat)
    case atStart => exact ⟨0, by omega, rfl, Below.refl _ _⟩
    case round =>
      obtain ⟨k, hk, rfl, hb⟩ := hrel
      rename World => wo
      have HBo := Lib.hid hb
      clear hb
      by_cases hlt : k < p.funcs.length
      · obtain ⟨f, hfk⟩ : ∃ f, p.funcs[k]? = some f := ⟨_, List.getElem?_eq_getElem hlt⟩
        have HCo := Lib.hid (HC.out.more HBo.out)
        obtain ⟨a, b, c, y0, y1, y2, A5, cp, ls, hot, rfl, rfl, rfl, hrow, hLd, hlen, hlast⟩ := HCo.out.at_ k f hlt hfk
        obtain ⟨gr, cr, hvl, _⟩ := own_form HCo.out.row (by omega)
        simp only [Value.slice.injEq] at hvl
        obtain ⟨rfl, _, rfl⟩ := hvl
        have z0 := (World.ownsRow.cellAt HCo.out.row (k * 3) (by omega)).trans y0
        have z1 := (World.ownsRow.cellAt HCo.out.row (k * 3 + 1) (by omega)).trans y1
        have z2 := (World.ownsRow.cellAt HCo.out.row (k * 3 + 2) (by omega)).trans y2
        have zl := World.block_lt_of_cell? _ _ z0
        obtain ⟨l0, hl0, hl0n⟩ := hLd.first
        have hpos : 0 < ls.length := (List.getElem?_eq_some_iff.1 hl0).1
        obtain ⟨gl, cl, hvl2, _⟩ := own_form hrow hpos
        simp only [Value.slice.injEq] at hvl2
        obtain ⟨rfl, _, rfl⟩ := hvl2
        have HLR := Lib.hid (linR_of hrow)
        have HLd := Lib.hid hLd
        have HLa := Lib.hid hlast
        have HL0 := Lib.hid (And.intro hl0 hl0n)
        obtain ⟨m, hm⟩ : ∃ m, m = ls.length := ⟨_, rfl⟩
        rw [← hm] at hpos hlen z1
        have HMe := Lib.hid hm
        have HFK := Lib.hid hfk
        have HLT := Lib.hid hlt
        obtain ⟨nm, hnm⟩ : ∃ nm, nm = f.name := ⟨_, rfl⟩
        rw [← hnm] at z0
        have HNm := Lib.hid hnm
        clear y0 y1 y2 hrow hLd hlast hl0 hl0n hm hfk hnm
        have HBb := Lib.hid (below_alloc (.cells #[.string nm, .slice (some ⟨gl, 0, none⟩) m cp, .bool hot] 35) (Below.refl wo.heap.size wo))
        have HXb := Lib.hid (blk_new wo (.cells #[.string nm, .slice (some ⟨gl, 0, none⟩) m cp, .bool hot] 35))
        go_upto_region 8 with (fail)
        obtain ⟨wb, hwb⟩ : ∃ z, z = wo.alloc (.cells #[.string nm, .slice (some ⟨gl, 0, none⟩) m cp, .bool hot] 35) := ⟨_, rfl⟩
        obtain ⟨gb, hgb⟩ : ∃ z, z = wo.heap.size := ⟨_, rfl⟩
        rw [← hwb] at HBb HXb ⊢
        rw [← hgb] at HXb ⊢
        obtain ⟨t, ht⟩ : ∃ t, m = t + 1 := ⟨m - 1, by omega⟩
        subst ht
        have HBO := Lib.hid (below_over HBo.out HBb.out)
        have HB6 := Lib.hid (HB5.out.bt HBO.out)
        have HLb := Lib.hid (HLR.out.later HBb.out)
        obtain ⟨_, _, eA, _, _, hi⟩ := HIN.out.funcs
        obtain ⟨fb, fo, cs, hAe, _, e2, hFR⟩ := hi k f HFK.out
        cases eA
        subst hAe
        obtain ⟨vs_, vl_, vb_, rfl, _⟩ := hFR
        have t0 := blk_cell (i := 0) HXb.out rfl
        have t1 := blk_cell (i := 1) HXb.out rfl
        have tl := blk_lt HXb.out
        have c0 := later HBP.out.1 (below_over (HB35.out) HBO.out)
        have c0l := World.block_lt_of_cell? _ _ c0
        have f0 : wb.cell? ⟨fb, fo + k * 6, none⟩ = some (.string nm) := by rw [HNm.out]; exact later (e2 0 (by omega)) HB6.out
        have f0l := World.block_lt_of_cell? _ _ f0
        obtain ⟨Y, hY⟩ : ∃ Y : ByteArray, Y = ⟨⟨fnB nm.data.toList⟩⟩ := ⟨_, rfl⟩
        have z0 : wb.cell? ⟨gl, 0, none⟩ = some (.string Y) := by
          have := HLb.out 0 l0 0 _ HL0.out.1 rfl
          rw [HL0.out.2, ← HNm.out, ← hY] at this
          exact this
        have z0l := World.block_lt_of_cell? _ _ z0
        have HFl := Lib.hid (show ∀ W, Calls Tryd.prog 8 #[.string nm] W fun e w' => e = .returned (.string Y) ∧ Below W.heap.size W w' from fun W => by rw [hY]; exact flab_any W nm (by rw [HNm.out]; exact HN.out.2 f (List.mem_of_getElem? HFK.out)))
        have d1 : (nm != nm) = false := by rw [bne, bytes_self]; rfl
        have d2 : (Y != Y) = false := by rw [bne, bytes_self]; rfl
        have d3 : ((t : Int) + 1 == 0) = false := by simp; omega
        have ht8 : t ≤ 100000000 := by omega
        clear hi e2 hwb hgb z1 z2 zl HLR HBb hY hlen
        go_upto_region 9 with (fail)
        refine wp_region_over (by kernel_rfl) (by kernel_rfl) ?_
        repeat (go_big_quiet_step ((go_at_call 8; exact calls_over (Nat.le_refl _) (HFl.out _))))
        refine wpQuiet_nil ?_
        intro wc kbc
        have HXc := Lib.hid (blk_below HXb.out kbc)
        have HLc := Lib.hid (HLb.out.later kbc)
        have HBC := Lib.hid (HB6.out.bt kbc)
        have HB5c := Lib.hid (below_over HBO.out kbc)
        clear t0 t1 tl c0 c0l f0 f0l z0 z0l d1 d2 d3 kbc HFl
        have hmm := @run_makeMap Tryd.prog
        go_upto_region 12 with (fail)
        clear hmm
        have HBm := Lib.hid (below_alloc (.map #[] 0) (Below.refl wc.heap.size wc))
        have HMp := Lib.hid (blk_new_map wc)
        obtain ⟨wd, hwd⟩ : ∃ z, z = wc.alloc (.map #[] 0) := ⟨_, rfl⟩
        obtain ⟨gm, hgm⟩ : ∃ z, z = wc.heap.size := ⟨_, rfl⟩
        rw [← hwd] at HBm HMp ⊢
        rw [← hgm] at HMp ⊢
        have HXd := Lib.hid (blk_below HXc.out HBm.out)
        have HLd2 := Lib.hid (HLc.out.later HBm.out)
        have HBD := Lib.hid (HBC.out.bt HBm.out)
        have HB5d := Lib.hid (below_over HB5c.out HBm.out)
        have hglm : gl < gm := by rw [hgm]; have h0 := HLc.out 0 l0 0 _ HL0.out.1 rfl; exact World.block_lt_of_cell? _ _ h0
        have hgbm : gb < gm := by rw [hgm]; exact blk_lt HXc.out
        have hmd : gm < wd.heap.size := blk_lt_map HMp.out
        have HGw := Lib.hid (show w.heap.size ≤ gm by rw [hgm]; exact HBC.out.size)
        have HG5 := Lib.hid (show w5.heap.size ≤ gm by rw [hgm]; exact HB5c.out.size)
        obtain ⟨ll, hll, hlo⟩ : ∃ l, ls[t]? = some l ∧ (l.op = 33 ∨ l.op = 38) := by
          have hnb : 0 < f.blocks.length := by
            have := (HO.out.po f (List.mem_of_getElem? HFK.out)).1.2.2.2.2
            omega
          obtain ⟨l, h1, h2⟩ := HLa.out.1 hnb rfl
          refine ⟨l, ?_, h2⟩
          rw [List.getLast?_eq_getElem?, ← HMe.out, Nat.add_sub_cancel] at h1
          exact h1
        obtain ⟨lo, hlop⟩ : ∃ z, z = ll.op := ⟨_, rfl⟩
        rw [← hlop] at hlo
        have y0 : wd.cell? ⟨gl, t * 11 + 1, none⟩ = some (.int .i64 lo) := by rw [hlop]; exact HLd2.out t ll 1 _ hll rfl
        have y0l := World.block_lt_of_cell? _ _ y0
        have t1 := blk_cell (i := 1) HXd.out rfl
        have tl := blk_lt HXd.out
        have HGl := Lib.hid (And.intro hglm (And.intro hgbm hmd))
        clear hwd hgm hll hlop HXc HLc HBC HB5c HBm hglm hgbm hmd
        go_upto_region 13 with (fail)
        go_cut [69] (fun z wx => z = .bool false ∧ wx = wd)
        case first =>
          rcases hlo with rfl | rfl
          · go_wp2_with fail
            go_meet
            exact ⟨rfl, rfl⟩
          · go_wp2_with fail
            go_meet
            exact ⟨rfl, rfl⟩
        case rest =>
          obtain ⟨hc, hw⟩ := hcut
          subst hc
          rw [hw]
          clear y0 y0l hlo hw
          go_wp2_with fail
          clear t1 tl
          go_loopw [73] (fun idx wr => ∃ (j : Nat) (es : Array MapEntry) (ck : Nat), j ≤ t + 1 ∧ idx = .int .i64 (j : Nat) ∧ wr.heap[gm]? = some (.map es ck) ∧ SetM es (labs (ls.take j)) ∧ wd.grownBy wr (some gm)) (fun idx _ => t + 1 - (intOf idx).toNat)
          case atStart => exact ⟨0, #[], 0, by omega, rfl, HMp.out, SetM.nil, ⟨rfl, rfl, rfl, Nat.le_refl _, fun _ _ _ => rfl⟩⟩
          case round =>
            rename World => wr
            obtain ⟨j, es, ck, hj, rfl, hm, hs, hg⟩ := hrel
            have HMr := Lib.hid hm
            have HSr := Lib.hid hs
            have HGr := Lib.hid hg
            have HBR := Lib.hid (show Below w.heap.size w wr from below_of_grown HBD.out (Nat.le_refl _) hg (fun z hz => by cases hz; exact HGw.out))
            have HB5R := Lib.hid (show Below w5.heap.size w5 wr from below_of_grown HB5d.out (Nat.le_refl _) hg (fun z hz => by cases hz; exact HG5.out))
            have HCd := Lib.hid (show ∀ (j : Nat) (l : LineD) (c : Nat) (v : Value), ls[j]? = some l → (lineC l)[c]? = some v → wr.cell? ⟨gl, j * 11 + c, none⟩ = some v from fun j l c v h1 h2 => cell_grown HGr.out (HLd2.out j l c v h1 h2) (by have := HGl.out.1; show gl ≠ gm; omega))
            have HXr := Lib.hid (show wr.heap[gb]? = some (.cells #[.string nm, .slice (some ⟨gl, 0, none⟩) (t + 1) cp, .bool hot] 35 (0, 0)) from blk_kept HXd.out hg (Or.inr (by have := HGl.out.2.1; simp; omega)))
            clear hm hs hg
            by_cases hltj : j < t + 1
            · obtain ⟨l, hl⟩ : ∃ l, ls[j]? = some l := ⟨_, List.getElem?_eq_getElem (by have := HMe.out; omega)⟩
              obtain ⟨X, hX⟩ : ∃ X : ByteArray, X = ⟨⟨l.label⟩⟩ := ⟨_, rfl⟩
              obtain ⟨T, hT⟩ : ∃ T : ByteArray, T = ⟨⟨l.to_⟩⟩ := ⟨_, rfl⟩
              have r0 : wr.cell? ⟨gl, j * 11, none⟩ = some (.string X) := by rw [hX]; exact HCd.out j l 0 _ hl rfl
              have r1 : wr.cell? ⟨gl, j * 11 + 1, none⟩ = some (.int .i64 l.op) := HCd.out j l 1 _ hl rfl
              have r2 : wr.cell? ⟨gl, j * 11 + 2, none⟩ = some (.int .i64 l.dst) := HCd.out j l 2 _ hl rfl
              have r3 : wr.cell? ⟨gl, j * 11 + 3, none⟩ = some (.int .i64 l.src) := HCd.out j l 3 _ hl rfl
              have r4 : wr.cell? ⟨gl, j * 11 + 4, none⟩ = some (.int .i64 l.imm) := HCd.out j l 4 _ hl rfl
              have r5 : wr.cell? ⟨gl, j * 11 + 5, none⟩ = some (.int .i64 l.size) := HCd.out j l 5 _ hl rfl
              have r6 : wr.cell? ⟨gl, j * 11 + 6, none⟩ = some (.bool l.signed) := HCd.out j l 6 _ hl rfl
              have r7 : wr.cell? ⟨gl, j * 11 + 7, none⟩ = some (.int .i64 l.cond) := HCd.out j l 7 _ hl rfl
              have r8 : wr.cell? ⟨gl, j * 11 + 8, none⟩ = some (.string T) := by rw [hT]; exact HCd.out j l 8 _ hl rfl
              have r9 : wr.cell? ⟨gl, j * 11 + 9, none⟩ = some (.bool l.hot) := HCd.out j l 9 _ hl rfl
              have r10 : wr.cell? ⟨gl, j * 11 + 10, none⟩ = some (.bool l.reload) := HCd.out j l 10 _ hl rfl
              have rl := World.block_lt_of_cell? _ _ r0
              have HXe := Lib.hid hX
              have HTe := Lib.hid hT
              have HL := Lib.hid hl
              have HBy := Lib.hid (below_alloc (.cells #[.string X, .int .i64 l.op, .int .i64 l.dst, .int .i64 l.src, .int .i64 l.imm, .int .i64 l.size, .bool l.signed, .int .i64 l.cond, .string T, .bool l.hot, .bool l.reload] 46) (Below.refl wr.heap.size wr))
              have HXy := Lib.hid (blk_new wr (.cells #[.string X, .int .i64 l.op, .int .i64 l.dst, .int .i64 l.src, .int .i64 l.imm, .int .i64 l.size, .bool l.signed, .int .i64 l.cond, .string T, .bool l.hot, .bool l.reload] 46))
              clear hX hT hl
              go_upto_region 18 with (fail)
              obtain ⟨wy, hwy⟩ : ∃ z, z = wr.alloc (.cells #[.string X, .int .i64 l.op, .int .i64 l.dst, .int .i64 l.src, .int .i64 l.imm, .int .i64 l.size, .bool l.signed, .int .i64 l.cond, .string T, .bool l.hot, .bool l.reload] 46) := ⟨_, rfl⟩
              obtain ⟨gy, hgy⟩ : ∃ z, z = wr.heap.size := ⟨_, rfl⟩
              rw [← hwy] at HBy HXy ⊢
              rw [← hgy] at HXy ⊢
              have HMy := Lib.hid (show wy.heap[gm]? = some (.map es ck) from (HBy.out.block gm (blk_lt_map HMr.out)).trans HMr.out)
              have HGy := Lib.hid (grown_later HGr.out HBy.out)
              clear hwy hgy r0 r1 r2 r3 r4 r5 r6 r7 r8 r9 r10 rl
              have q0 := blk_cell (i := 0) HXy.out rfl
              have ql := blk_lt HXy.out
              by_cases hn : l.label = []
              · as_aux_lemma =>
                  have dX : X.toList.isEmpty = true := by rw [HXe.out, Lib.toList_data, hn]; rfl
                  have HI := Lib.hid (HLd.out.ins j l HL.out hn)
                  have HN0 := Lib.hid hn
                  have HRt := Lib.hid (show ∀ W : World, Calls Tryd.prog 9 #[.agg #[.int .i64 l.op, .int .i64 l.dst, .int .i64 l.src, .int .i64 l.imm, .int .i64 l.size, .bool l.signed, .int .i64 l.cond, .string T]] W fun en w' => en = .returned (.bool true) ∧ Below W.heap.size W w' from fun W => by rw [HTe.out]; exact right_line W l HI.out.1)
                  have q1 := blk_cell (i := 1) HXy.out rfl
                  have q2 := blk_cell (i := 2) HXy.out rfl
                  have q3 := blk_cell (i := 3) HXy.out rfl
                  have q4 := blk_cell (i := 4) HXy.out rfl
                  have q5 := blk_cell (i := 5) HXy.out rfl
                  have q6 := blk_cell (i := 6) HXy.out rfl
                  have q7 := blk_cell (i := 7) HXy.out rfl
                  have q8 := blk_cell (i := 8) HXy.out rfl
                  have q9 := blk_cell (i := 9) HXy.out rfl
                  have q10 := blk_cell (i := 10) HXy.out rfl
                  have HBz := Lib.hid (below_alloc (.cells #[.int .i64 l.op, .int .i64 l.dst, .int .i64 l.src, .int .i64 l.imm, .int .i64 l.size, .bool l.signed, .int .i64 l.cond, .string T] 42) (Below.refl wy.heap.size wy))
                  have HXz := Lib.hid (blk_new wy (.cells #[.int .i64 l.op, .int .i64 l.dst, .int .i64 l.src, .int .i64 l.imm, .int .i64 l.size, .bool l.signed, .int .i64 l.cond, .string T] 42))
                  clear hn
                  go_upto_region 23 with (fail)
                  obtain ⟨wz, hwz⟩ : ∃ z, z = wy.alloc (.cells #[.int .i64 l.op, .int .i64 l.dst, .int .i64 l.src, .int .i64 l.imm, .int .i64 l.size, .bool l.signed, .int .i64 l.cond, .string T] 42) := ⟨_, rfl⟩
                  obtain ⟨gz, hgz⟩ : ∃ z, z = wy.heap.size := ⟨_, rfl⟩
                  rw [← hwz] at HBz HXz ⊢
                  rw [← hgz] at HXz ⊢
                  have HMz := Lib.hid (show wz.heap[gm]? = some (.map es ck) from (HBz.out.block gm (blk_lt_map HMy.out)).trans HMy.out)
                  have HGz := Lib.hid (grown_later HGy.out HBz.out)
                  have HXyz := Lib.hid (blk_below HXy.out HBz.out)
                  have HXrz := Lib.hid (blk_below HXr.out (below_over HBy.out HBz.out))
                  have HCz := Lib.hid (fun (W : World) (h : Below wz.heap.size wz W) (j : Nat) (l : LineD) (c : Nat) (v : Value) (h1 : ls[j]? = some l) (h2 : (lineC l)[c]? = some v) => later (HCd.out j l c v h1 h2) (below_over (below_over HBy.out HBz.out) h))
                  clear hwz hgz q0 ql q1 q2 q3 q4 q5 q6 q7 q8 q9 q10 dX
                  have p0 := blk_cell (i := 0) HXz.out rfl
                  have p1 := blk_cell (i := 1) HXz.out rfl
                  have p2 := blk_cell (i := 2) HXz.out rfl
                  have p3 := blk_cell (i := 3) HXz.out rfl
                  have p4 := blk_cell (i := 4) HXz.out rfl
                  have p5 := blk_cell (i := 5) HXz.out rfl
                  have p6 := blk_cell (i := 6) HXz.out rfl
                  have p7 := blk_cell (i := 7) HXz.out rfl
                  have pl := blk_lt HXz.out
                  go_cut [143] (fun z wx => z = .bool false ∧ Below wz.heap.size wz wx)
                  case first =>
                    as_aux_lemma =>
                      obtain ⟨hrp, him, h39, h41, h37, h36, hd15, hs15, _, _⟩ := HI.out.1
                      have ho1 := hrp.1
                      have ho2 := hrp.2.1
                      have b39 : (l.op == 39) = false := by simpa using h39
                      have b41 : (l.op == 41) = false := by simpa using h41
                      have b37 : (l.op == 37) = false := by simpa using h37
                      have HU := Lib.hid (fun W => uses_any W l.op l.dst l.src l.imm l.size l.signed l.cond T ho1 ho2 hd15 hs15)
                      clear hrp him h39 h41 h37 hd15 hs15 ho1 ho2
                      by_cases hc36 : l.op = 36
                      · have b36 : (l.op == 36) = true := by simpa using hc36
                        have b11 : (l.dst != 11) = false := by simpa using h36 hc36
                        clear h36 hc36
                        go_wp2_with fail
                        refine (HRt.out _).mono ?_
                        rintro e w6 ⟨rfl, hb6⟩
                        have HB6 := Lib.hid hb6
                        have HX6 := Lib.hid (blk_below HXz.out hb6)
                        clear hb6 p0 p1 p2 p3 p4 p5 p6 p7 pl
                        have p0 := blk_cell (i := 0) HX6.out rfl
                        have p1 := blk_cell (i := 1) HX6.out rfl
                        have p2 := blk_cell (i := 2) HX6.out rfl
                        have p3 := blk_cell (i := 3) HX6.out rfl
                        have p4 := blk_cell (i := 4) HX6.out rfl
                        have p5 := blk_cell (i := 5) HX6.out rfl
                        have p6 := blk_cell (i := 6) HX6.out rfl
                        have p7 := blk_cell (i := 7) HX6.out rfl
                        have pl := blk_lt HX6.out
                        go_wp2_with fail
                        refine (HU.out _).mono ?_
                        rintro e w7 ⟨rfl, hb7⟩
                        have HB7 := Lib.hid (below_over HB6.out hb7)
                        have HX7 := Lib.hid (blk_below HX6.out hb7)
                        clear hb7 p0 p1 p2 p3 p4 p5 p6 p7 pl
                        have p0 := blk_cell (i := 0) HX7.out rfl
                        have p1 := blk_cell (i := 1) HX7.out rfl
                        have p2 := blk_cell (i := 2) HX7.out rfl
                        have p3 := blk_cell (i := 3) HX7.out rfl
                        have p4 := blk_cell (i := 4) HX7.out rfl
                        have p5 := blk_cell (i := 5) HX7.out rfl
                        have p6 := blk_cell (i := 6) HX7.out rfl
                        have p7 := blk_cell (i := 7) HX7.out rfl
                        have pl := blk_lt HX7.out
                        go_wp2_with fail
                        go_meet
                        exact ⟨rfl, HB7.out⟩
                      · have b36 : (l.op == 36) = false := by simpa using hc36
                        clear h36 hc36
                        go_wp2_with fail
                        refine (HRt.out _).mono ?_
                        rintro e w6 ⟨rfl, hb6⟩
                        have HB6 := Lib.hid hb6
                        have HX6 := Lib.hid (blk_below HXz.out hb6)
                        clear hb6 p0 p1 p2 p3 p4 p5 p6 p7 pl
                        have p0 := blk_cell (i := 0) HX6.out rfl
                        have p1 := blk_cell (i := 1) HX6.out rfl
                        have p2 := blk_cell (i := 2) HX6.out rfl
                        have p3 := blk_cell (i := 3) HX6.out rfl
                        have p4 := blk_cell (i := 4) HX6.out rfl
                        have p5 := blk_cell (i := 5) HX6.out rfl
                        have p6 := blk_cell (i := 6) HX6.out rfl
                        have p7 := blk_cell (i := 7) HX6.out rfl
                        have pl := blk_lt HX6.out
                        go_wp2_with fail
                        refine (HU.out _).mono ?_
                        rintro e w7 ⟨rfl, hb7⟩
                        have HB7 := Lib.hid (below_over HB6.out hb7)
                        have HX7 := Lib.hid (blk_below HX6.out hb7)
                        clear hb7 p0 p1 p2 p3 p4 p5 p6 p7 pl
                        have p0 := blk_cell (i := 0) HX7.out rfl
                        have p1 := blk_cell (i := 1) HX7.out rfl
                        have p2 := blk_cell (i := 2) HX7.out rfl
                        have p3 := blk_cell (i := 3) HX7.out rfl
                        have p4 := blk_cell (i := 4) HX7.out rfl
                        have p5 := blk_cell (i := 5) HX7.out rfl
                        have p6 := blk_cell (i := 6) HX7.out rfl
                        have p7 := blk_cell (i := 7) HX7.out rfl
                        have pl := blk_lt HX7.out
                        go_wp2_with fail
                        go_meet
                        exact ⟨rfl, HB7.out⟩
                  case rest =>
                    as_aux_lemma =>
                      obtain ⟨hc, hb⟩ := hcut
                      subst hc
                      rename World => w8
                      have HB8 := Lib.hid hb
                      have HX8 := Lib.hid (blk_below HXz.out hb)
                      have HXr8 := Lib.hid (blk_below HXrz.out hb)
                      have HXy8 := Lib.hid (blk_below HXyz.out hb)
                      clear hb p0 p1 p2 p3 p4 p5 p6 p7 pl
                      have p0 := blk_cell (i := 0) HX8.out rfl
                      have pl := blk_lt HX8.out
                      have s1 := blk_cell (i := 1) HXr8.out rfl
                      have sl := blk_lt HXr8.out
                      go_upto_region 25 with (fail)
                      go_cut [164] (fun z wx => z = .bool false ∧ wx = w8)
                      case first =>
                        as_aux_lemma =>
                          by_cases h34 : l.op = 34
                          · obtain ⟨l2, hl2, ho2⟩ := HI.out.2.1 h34
                            have hj2 : j + 1 < t + 1 := by have := (List.getElem?_eq_some_iff.1 hl2).1; have := HMe.out; omega
                            have b34 : (l.op == 34) = true := by simpa using h34
                            have bj : ((j : Int) + 1 == (t : Int) + 1) = false := by simp; omega
                            have y0 : w8.cell? ⟨gl, (j + 1) * 11 + 1, none⟩ = some (.int .i64 33) := by
                              have := HCz.out w8 HB8.out (j + 1) l2 1 _ hl2 rfl
                              rw [ho2] at this
                              exact this
                            have y0l := World.block_lt_of_cell? _ _ y0
                            clear h34 hl2 ho2
                            go_wp2_with fail
                            go_meet
                            exact ⟨rfl, rfl⟩
                          · have b34 : (l.op == 34) = false := by simpa using h34
                            clear h34
                            go_wp2_with fail
                            go_meet
                            exact ⟨rfl, rfl⟩
                      case rest =>
                        as_aux_lemma =>
                          obtain ⟨hc, hw⟩ := hcut
                          subst hc
                          rw [hw]
                          clear hw p0 pl s1 sl
                          have p0 := blk_cell (i := 0) HX8.out rfl
                          have p1 := blk_cell (i := 1) HX8.out rfl
                          have p2 := blk_cell (i := 2) HX8.out rfl
                          have p3 := blk_cell (i := 3) HX8.out rfl
                          have p4 := blk_cell (i := 4) HX8.out rfl
                          have p5 := blk_cell (i := 5) HX8.out rfl
                          have p6 := blk_cell (i := 6) HX8.out rfl
                          have p7 := blk_cell (i := 7) HX8.out rfl
                          have pl := blk_lt HX8.out
                          have q9 := blk_cell (i := 9) HXy8.out rfl
                          have q10 := blk_cell (i := 10) HXy8.out rfl
                          have ql := blk_lt HXy8.out
                          go_upto_region 27 with (fail)
                          go_cut [193] (fun z wx => z = .bool false ∧ Below w8.heap.size w8 wx)
                          case first =>
                            as_aux_lemma =>
                              obtain ⟨_, _, _, _, _, _, _, _, hrl, hstk⟩ := HI.out.1
                              by_cases h3 : l.op = 3
                              · have b3 : (l.op == 3) = true := by simpa using h3
                                by_cases h4 : l.src = 4
                                · have b4 : (l.src == 4) = true := by simpa using h4
                                  have hr : l.reload = true := hrl.2 ⟨h3, h4⟩
                                  rw [hr] at q10
                                  clear hr
                                  obtain ⟨hz8, hi0, hh⟩ := hstk (Or.inl ⟨h3, h4⟩)
                                  rw [hh] at q9
                                  have bz : (l.size != 8) = false := by simpa using hz8
                                  have bi : decide (l.imm < 0) = false := decide_eq_false (by omega)
                                  clear hz8 hi0 hh
                                  have HSt := Lib.hid (show ∀ W : World, Calls Tryd.prog 11 #[.agg #[.int .i64 l.op, .int .i64 l.dst, .int .i64 l.src, .int .i64 l.imm, .int .i64 l.size, .bool l.signed, .int .i64 l.cond, .string T]] W fun e w' => e = .returned (.bool true) ∧ Below W.heap.size W w' from fun W => by have := stack_any W l.op l.dst l.src l.imm l.size l.signed l.cond T; rw [decide_eq_true (by omega)] at this; exact this)
                                  clear hrl hstk h3 h4
                                  go_wp2_with fail
                                  refine (HSt.out _).mono ?_
                                  rintro e w9 ⟨rfl, hb9⟩
                                  have HB9 := Lib.hid hb9
                                  have p3 := later p3 hb9
                                  have p4 := later p4 hb9
                                  have q9 := later q9 hb9
                                  have pl := World.block_lt_of_cell? _ _ p3
                                  have ql := World.block_lt_of_cell? _ _ q9
                                  clear hb9
                                  go_wp2_with fail
                                  go_meet
                                  exact ⟨rfl, HB9.out⟩
                                · have b4 : (l.src == 4) = false := by simpa using h4
                                  have hr : l.reload = false := by
                                    cases e : l.reload with
                                    | false => rfl
                                    | true => exact absurd (hrl.1 e).2 h4
                                  rw [hr] at q10
                                  clear hr
                                  have HSt := Lib.hid (show ∀ W : World, Calls Tryd.prog 11 #[.agg #[.int .i64 l.op, .int .i64 l.dst, .int .i64 l.src, .int .i64 l.imm, .int .i64 l.size, .bool l.signed, .int .i64 l.cond, .string T]] W fun e w' => e = .returned (.bool false) ∧ Below W.heap.size W w' from fun W => by have := stack_any W l.op l.dst l.src l.imm l.size l.signed l.cond T; rw [decide_eq_false (by omega)] at this; exact this)
                                  clear hrl hstk h3 h4
                                  go_wp2_with fail
                                  refine (HSt.out _).mono ?_
                                  rintro e w9 ⟨rfl, hb9⟩
                                  have HB9 := Lib.hid hb9
                                  clear hb9
                                  go_wp2_with fail
                                  go_meet
                                  exact ⟨rfl, HB9.out⟩
                              · have b3 : (l.op == 3) = false := by simpa using h3
                                have hr : l.reload = false := by
                                  cases e : l.reload with
                                  | false => rfl
                                  | true => exact absurd (hrl.1 e).1 h3
                                rw [hr] at q10
                                clear hr
                                by_cases hd : l.op = 4 ∧ l.dst = 4
                                · skip
                                  obtain ⟨hz8, hi0, hh⟩ := hstk (Or.inr hd)
                                  rw [hh] at q9
                                  have bz : (l.size != 8) = false := by simpa using hz8
                                  have bi : decide (l.imm < 0) = false := decide_eq_false (by omega)
                                  clear hz8 hi0 hh
                                  have HSt := Lib.hid (show ∀ W : World, Calls Tryd.prog 11 #[.agg #[.int .i64 l.op, .int .i64 l.dst, .int .i64 l.src, .int .i64 l.imm, .int .i64 l.size, .bool l.signed, .int .i64 l.cond, .string T]] W fun e w' => e = .returned (.bool true) ∧ Below W.heap.size W w' from fun W => by have := stack_any W l.op l.dst l.src l.imm l.size l.signed l.cond T; rw [decide_eq_true (by omega)] at this; exact this)
                                  clear hrl hstk h3 hd
                                  go_wp2_with fail
                                  refine (HSt.out _).mono ?_
                                  rintro e w9 ⟨rfl, hb9⟩
                                  have HB9 := Lib.hid hb9
                                  have p3 := later p3 hb9
                                  have p4 := later p4 hb9
                                  have q9 := later q9 hb9
                                  have pl := World.block_lt_of_cell? _ _ p3
                                  have ql := World.block_lt_of_cell? _ _ q9
                                  clear hb9
                                  go_wp2_with fail
                                  go_meet
                                  exact ⟨rfl, HB9.out⟩
                                · skip
                                  have HSt := Lib.hid (show ∀ W : World, Calls Tryd.prog 11 #[.agg #[.int .i64 l.op, .int .i64 l.dst, .int .i64 l.src, .int .i64 l.imm, .int .i64 l.size, .bool l.signed, .int .i64 l.cond, .string T]] W fun e w' => e = .returned (.bool false) ∧ Below W.heap.size W w' from fun W => by have := stack_any W l.op l.dst l.src l.imm l.size l.signed l.cond T; rw [decide_eq_false (by omega)] at this; exact this)
                                  clear hrl hstk h3 hd
                                  go_wp2_with fail
                                  refine (HSt.out _).mono ?_
                                  rintro e w9 ⟨rfl, hb9⟩
                                  have HB9 := Lib.hid hb9
                                  clear hb9
                                  go_wp2_with fail
                                  go_meet
                                  exact ⟨rfl, HB9.out⟩
                          case rest =>
                            obtain ⟨hc, hb⟩ := hcut
                            subst hc
                            have HBe := Lib.hid (below_over HB8.out hb)
                            clear hb p0 p1 p2 p3 p4 p5 p6 p7 pl q9 q10 ql
                            go_wp2_with fail
                            go_roundw
                            case rel => exact ⟨j + 1, es, ck, by omega, by go_num, (HBe.out.block gm (blk_lt_map HMz.out)).trans HMz.out, by rw [labs_same HL.out HN0.out]; exact HSr.out, grown_later HGz.out HBe.out⟩
                            case measure => simp [intOf]; omega
              · as_aux_lemma =>
                  have dX : X.toList.isEmpty = false := by rw [HXe.out, Lib.toList_data]; simpa using hn
                  have hz : ∀ w : World, (zeroValue 4).run Tryd.prog w = .ok (.bool false) w := fun w => rfl
                  have hfr := HLd.out.fresh HL.out hn
                  have hlk := run_lookS (P := Tryd.prog) Tryd.underlying48 Tryd.underlying9 hz HMy.out HSr.out l.label
                  rw [← HXe.out, decide_eq_false hfr] at hlk
                  have hst := run_storeS (P := Tryd.prog) Tryd.underlying48 Tryd.underlying9 HMy.out HSr.out l.label hfr
                  rw [← HXe.out] at hst
                  obtain ⟨W, hW⟩ : ∃ z : World, z = { wy with heap := wy.heap.setIfInBounds gm (.map (es.push { key := .string X, val := .bool true, born := ck }) (ck + 1)) } := ⟨_, rfl⟩
                  rw [← hW] at hst
                  have HGW := Lib.hid (show wd.grownBy W (some gm) from by rw [hW]; exact grown_map HGy.out _)
                  have HMW := Lib.hid (show W.heap[gm]? = some (.map (es.push { key := .string X, val := .bool true, born := ck }) (ck + 1)) by rw [hW]; simp [blk_lt_map HMy.out])
                  have HSW := Lib.hid (show SetM (es.push { key := .string X, val := .bool true, born := ck }) (labs (ls.take (j + 1))) by rw [labs_snoc HL.out hn, HXe.out]; exact HSr.out.push l.label ck)
                  have HN0 := Lib.hid hn
                  clear hW hz hfr hn
                  by_cases hj0 : j = 0
                  · have dj : decide ((j : Int) > 0) = false := decide_eq_false (by omega)
                    have dj2 : decide (0 < j) = false := decide_eq_false (by omega)
                    clear hj0
                    go_wp2_with fail
                    go_roundw
                    case rel => exact ⟨j + 1, _, _, by omega, by go_num, HMW.out, HSW.out, HGW.out⟩
                    case measure => simp [intOf]; omega
                  · have dj : decide ((j : Int) > 0) = true := decide_eq_true (by omega)
                    have dj2 : decide (0 < j) = true := decide_eq_true (by omega)
                    obtain ⟨tl, htl⟩ := HLd.out.dot HL.out HN0.out (by omega)
                    have hxs : X.size = tl.length + 2 := by rw [HXe.out, htl]; rfl
                    have dxe : (X.extract 0 2).toList = [46, 76] := by rw [HXe.out, htl, ext_two, Lib.toList_data]
                    go_wp2_with fail
                    go_roundw
                    case rel => exact ⟨j + 1, _, _, by omega, by go_num, HMW.out, HSW.out, HGW.out⟩
                    case measure => simp [intOf]; omega
            · have e : j = t + 1 := by omega
              have HSa := Lib.hid (show SetM es (labs ls) by have := HSr.out; rw [e, HMe.out, List.take_length] at this; exact this)
              have s1 := blk_cell (i := 1) HXr.out rfl
              have sl := blk_lt HXr.out
              clear e
              go_wp2_with fail
              clear s1 sl
              go_loopw [198] (fun idx wx => ∃ q : Nat, q ≤ t + 1 ∧ idx = .int .i64 (q : Nat) ∧ Below wr.heap.size wr wx) (fun idx _ => t + 1 - (intOf idx).toNat)
              case atStart => exact ⟨0, by omega, rfl, Below.refl _ _⟩
              case round =>
                as_aux_lemma =>
                rename World => wx
                obtain ⟨q, hq, rfl, hb⟩ := hrel
                have HBX := Lib.hid hb
                have HMx := Lib.hid (show wx.heap[gm]? = some (.map es ck) from (hb.block gm (blk_lt_map HMr.out)).trans HMr.out)
                clear hb
                by_cases hltq : q < t + 1
                · obtain ⟨l, hl⟩ : ∃ l, ls[q]? = some l := ⟨_, List.getElem?_eq_getElem (by have := HMe.out; omega)⟩
                  obtain ⟨X, hX⟩ : ∃ X : ByteArray, X = ⟨⟨l.label⟩⟩ := ⟨_, rfl⟩
                  obtain ⟨T, hT⟩ : ∃ T : ByteArray, T = ⟨⟨l.to_⟩⟩ := ⟨_, rfl⟩
                  have HXe := Lib.hid hX
                  have HTe := Lib.hid hT
                  have HL := Lib.hid hl
                  clear hX hT hl
                  have r0 : wx.cell? ⟨gl, q * 11, none⟩ = some (.string X) := by rw [HXe.out]; exact later (HCd.out q l 0 _ HL.out rfl) HBX.out
                  have r1 : wx.cell? ⟨gl, q * 11 + 1, none⟩ = some (.int .i64 l.op) := later (HCd.out q l 1 _ HL.out rfl) HBX.out
                  have r2 : wx.cell? ⟨gl, q * 11 + 2, none⟩ = some (.int .i64 l.dst) := later (HCd.out q l 2 _ HL.out rfl) HBX.out
                  have r3 : wx.cell? ⟨gl, q * 11 + 3, none⟩ = some (.int .i64 l.src) := later (HCd.out q l 3 _ HL.out rfl) HBX.out
                  have r4 : wx.cell? ⟨gl, q * 11 + 4, none⟩ = some (.int .i64 l.imm) := later (HCd.out q l 4 _ HL.out rfl) HBX.out
                  have r5 : wx.cell? ⟨gl, q * 11 + 5, none⟩ = some (.int .i64 l.size) := later (HCd.out q l 5 _ HL.out rfl) HBX.out
                  have r6 : wx.cell? ⟨gl, q * 11 + 6, none⟩ = some (.bool l.signed) := later (HCd.out q l 6 _ HL.out rfl) HBX.out
                  have r7 : wx.cell? ⟨gl, q * 11 + 7, none⟩ = some (.int .i64 l.cond) := later (HCd.out q l 7 _ HL.out rfl) HBX.out
                  have r8 : wx.cell? ⟨gl, q * 11 + 8, none⟩ = some (.string T) := by rw [HTe.out]; exact later (HCd.out q l 8 _ HL.out rfl) HBX.out
                  have r9 : wx.cell? ⟨gl, q * 11 + 9, none⟩ = some (.bool l.hot) := later (HCd.out q l 9 _ HL.out rfl) HBX.out
                  have r10 : wx.cell? ⟨gl, q * 11 + 10, none⟩ = some (.bool l.reload) := later (HCd.out q l 10 _ HL.out rfl) HBX.out
                  have rl := World.block_lt_of_cell? _ _ r0
                  have HBy := Lib.hid (below_alloc (.cells #[.string X, .int .i64 l.op, .int .i64 l.dst, .int .i64 l.src, .int .i64 l.imm, .int .i64 l.size, .bool l.signed, .int .i64 l.cond, .string T, .bool l.hot, .bool l.reload] 46) (Below.refl wx.heap.size wx))
                  have HXy := Lib.hid (blk_new wx (.cells #[.string X, .int .i64 l.op, .int .i64 l.dst, .int .i64 l.src, .int .i64 l.imm, .int .i64 l.size, .bool l.signed, .int .i64 l.cond, .string T, .bool l.hot, .bool l.reload] 46))
                  go_upto_region 33 with (fail)
                  obtain ⟨wy, hwy⟩ : ∃ z, z = wx.alloc (.cells #[.string X, .int .i64 l.op, .int .i64 l.dst, .int .i64 l.src, .int .i64 l.imm, .int .i64 l.size, .bool l.signed, .int .i64 l.cond, .string T, .bool l.hot, .bool l.reload] 46) := ⟨_, rfl⟩
                  obtain ⟨gy, hgy⟩ : ∃ z, z = wx.heap.size := ⟨_, rfl⟩
                  rw [← hwy] at HBy HXy ⊢
                  rw [← hgy] at HXy ⊢
                  have HMy := Lib.hid (show wy.heap[gm]? = some (.map es ck) from (HBy.out.block gm (blk_lt_map HMx.out)).trans HMx.out)
                  have HBY := Lib.hid (below_over HBX.out HBy.out)
                  clear hwy hgy r0 r1 r2 r3 r4 r5 r6 r7 r8 r9 r10 rl
                  have q1 := blk_cell (i := 1) HXy.out rfl
                  have q8 := blk_cell (i := 8) HXy.out rfl
                  have ql := blk_lt HXy.out
                  by_cases ho : l.op = 33 ∨ l.op = 34
                  · have hz : ∀ w : World, (zeroValue 4).run Tryd.prog w = .ok (.bool false) w := fun w => rfl
                    have hmem := HLd.out.goes HL.out ho
                    have hlk := run_lookS (P := Tryd.prog) Tryd.underlying48 Tryd.underlying9 hz HMy.out HSa.out l.to_
                    rw [← HTe.out, decide_eq_true hmem] at hlk
                    clear hz hmem
                    by_cases h33 : l.op = 33
                    · have b33 : (l.op == 33) = true := by simpa using h33
                      clear ho h33
                      go_wp2_with fail
                      go_roundw
                      case rel => exact ⟨q + 1, by omega, by go_num, HBY.out⟩
                      case measure => simp [intOf]; omega
                    · have b33 : (l.op == 33) = false := by simpa using h33
                      have b34 : (l.op == 34) = true := by rcases ho with h | h; exact absurd h h33; simpa using h
                      clear ho h33
                      go_wp2_with fail
                      go_roundw
                      case rel => exact ⟨q + 1, by omega, by go_num, HBY.out⟩
                      case measure => simp [intOf]; omega
                  · have b33 : (l.op == 33) = false := by simp; omega
                    have b34 : (l.op == 34) = false := by simp; omega
                    clear ho
                    go_wp2_with fail
                    go_roundw
                    case rel => exact ⟨q + 1, by omega, by go_num, HBY.out⟩
                    case measure => simp [intOf]; omega
                · have e : q = t + 1 := by omega
                  clear e
                  go_wp2_with fail
                  go_roundw
                  case rel => exact ⟨k + 1, by omega, by go_num, below_over HB5R.out HBX.out⟩
                  case measure => simp [intOf]; omega
      · have e : k = p.funcs.length := by omega
        subst e
        go_wp2_with fail
        go_returns
        exact ⟨rfl, HB5.out.bt HBo.out⟩
end Go.Proofs.YtbogcompeefoaaaDoor
