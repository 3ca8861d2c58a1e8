/- PickData: the law walked. No condition. -/
import Derived.Test.YthpcnmjpjglmbaaDoorPdG
import Derived.Test.YthpcnmjpjglmbaaDoorPdN
import Derived.Test.YthpcnmjpjglmbaaDoorPk
import Derived.Test.YthpcnmjpjglmbaaDoorFit20
namespace Go.Proofs.YthpcnmjpjglmbaaDoor
open Go.RowKit
set_option linter.unusedVariables false
set_option maxHeartbeats 4000000
set_option maxRecDepth 100000
theorem endG_nn {gs : List GlobD} (h : ∀ g ∈ gs, 0 ≤ g.at_ ∧ 0 ≤ g.size ∧ g.at_ + g.size ≤ 4096) (k : Nat) : 0 ≤ endG (gs.take k) ∧ endG (gs.take k) ≤ 4096 := by
  match k with
  | 0 => rw [List.take_zero]; exact ⟨Int.le_refl _, by decide⟩
  | k + 1 =>
    cases hg : gs[k]? with
    | none =>
      by_cases hn : gs = []
      · subst hn; simp [endG]
      · rw [List.take_of_length_le (by have := List.getElem?_eq_none_iff.1 hg; omega)]
        obtain ⟨g, hgl⟩ : ∃ g, gs[gs.length - 1]? = some g := ⟨_, List.getElem?_eq_getElem (by have := List.length_pos_iff.2 hn; omega)⟩
        have hlp := List.length_pos_iff.2 hn
        have := endG_take hgl
        rw [show gs.length - 1 + 1 = gs.length by omega, List.take_length] at this
        rw [this]
        have := h g (List.mem_of_getElem? hgl)
        omega
    | some g =>
      rw [endG_take hg]
      have := h g (List.mem_of_getElem? hg)
      omega
theorem kindP_nn {k : Int} (hk : k = 2 ∨ k = 3) {nf : Int} : ∀ (l : List PartD) (left : Option Int), foldP nf left l ≠ none → 0 ≤ kindP k l
  | [], _, _ => by simp [kindP]
  | y :: l, left, h => by
    have h2 : foldP nf (left.bind fun x => stepP nf x y) l ≠ none := h
    have ih := kindP_nn hk l _ h2
    have hy : 0 ≤ (if y.kind = k then y.n else 0) := by
      split
      · rename_i e
        cases left with
        | none => exact absurd (foldP_none nf l) h2
        | some x =>
          cases e2 : stepP nf x y with
          | none =>
            have : (some x).bind (fun x => stepP nf x y) = none := e2
            rw [this] at h2
            exact absurd (foldP_none nf l) h2
          | some z =>
            unfold stepP at e2
            rw [if_neg (by omega), if_neg (by omega), if_pos (by omega)] at e2
            split at e2
            · omega
            · cases e2
      · exact Int.le_refl _
    unfold kindP at ih ⊢
    rw [List.map_cons, List.sum_cons]
    omega
theorem parts_bound {nf : Int} : ∀ (l : List PartD) (left : Int), foldP nf (some left) l ≠ none → ∀ y ∈ l, y.kind = 2 ∨ y.kind = 3 → 0 ≤ y.n ∧ y.n ≤ left
  | [], _, _, y, hy, _ => by cases hy
  | z :: l, left, h, y, hy, hk => by
    have h2 : foldP nf ((some left).bind fun x => stepP nf x z) l ≠ none := h
    cases e : stepP nf left z with
    | none =>
      have : (some left).bind (fun x => stepP nf x z) = none := e
      rw [this] at h2
      exact absurd (foldP_none nf l) h2
    | some l2 =>
      have : (some left).bind (fun x => stepP nf x z) = some l2 := e
      rw [this] at h2
      have hle : l2 ≤ left ∧ ((z.kind = 2 ∨ z.kind = 3) → 0 ≤ z.n ∧ z.n ≤ left) := by
        unfold stepP at e
        split at e
        · split at e
          · cases e; exact ⟨by omega, fun h => by omega⟩
          · cases e
        · split at e
          · split at e
            · cases e; exact ⟨by omega, fun h => by omega⟩
            · cases e
          · split at e
            · split at e
              · cases e; exact ⟨by omega, fun h => by omega⟩
              · cases e
            · cases e
      rcases List.mem_cons.1 hy with rfl | hy
      · exact hle.2 hk
      · have := parts_bound l l2 h2 y hy hk
        omega
theorem kindP_bd {k : Int} : ∀ (l : List PartD), (∀ y ∈ l, y.kind = k → 0 ≤ y.n ∧ y.n ≤ 4096) → 0 ≤ kindP k l ∧ kindP k l ≤ l.length * 4096
  | [], _ => by simp [kindP]
  | y :: l, h => by
    have ih := kindP_bd l (fun z hz => h z (List.mem_cons_of_mem _ hz))
    have hy : 0 ≤ (if y.kind = k then y.n else 0) ∧ (if y.kind = k then y.n else 0) ≤ 4096 := by
      split
      · rename_i e; exact h y List.mem_cons_self e
      · omega
    unfold kindP at ih ⊢
    rw [List.map_cons, List.sum_cons, List.length_cons]
    omega
theorem kindG_bd {k : Int} : ∀ (gs : List GlobD), (∀ g ∈ gs, g.parts.length ≤ 50 ∧ ∀ y ∈ g.parts, y.kind = k → 0 ≤ y.n ∧ y.n ≤ 4096) → 0 ≤ kindG k gs ∧ kindG k gs ≤ gs.length * 204800
  | [], _ => by simp [kindG]
  | g :: gs, h => by
    have ih := kindG_bd gs (fun z hz => h z (List.mem_cons_of_mem _ hz))
    obtain ⟨h1, h2⟩ := h g List.mem_cons_self
    have := kindP_bd g.parts h2
    unfold kindG at ih ⊢
    rw [List.map_cons, List.sum_cons, List.length_cons]
    omega
theorem glabel_ov (W : World) (x : ByteArray) (hs : x.size ≤ 140737488355328) : Calls Tryd.prog 7 #[.string x] W fun e w' => e = .returned (.string (gLabel x)) ∧ Below W.heap.size W w' :=
  (glabel_any W x hs).mono (fun e w' h => ⟨h.1, by rw [h.2]; exact Below.refl _ _⟩)
theorem datalaw (w : World) (p : ProgD) (vf vg : Value) (hin : In w p vf vg) (hn1 : ∀ g ∈ p.globals, g.name.size ≤ 140737488355328) (hn2 : ∀ f ∈ p.funcs, f.name.size ≤ 140737488355328) :
    Calls Tryd.prog 3 #[.agg #[vf, vg, .int .i64 p.data, .int .i64 p.main]] w fun e w' => e = .returned (.bool true) ∧ Below w.heap.size w w' := by
  have HIN := Lib.hid hin
  have HN1 := Lib.hid hn1
  have HN2 := Lib.hid hn2
  obtain ⟨A, cap, rfl, _, m3, _⟩ := hin.funcs
  obtain ⟨A2, cap2, rfl, _, m4, _⟩ := hin.globs
  have HM := Lib.hid (fun w1 h => mayq_any w w1 h p _ _ hin)
  have hfl := hin.flen
  have hgl := hin.glen
  clear hin m3 m4 hn1 hn2
  have HB1 := Lib.hid (below_alloc (.cells #[.slice A p.funcs.length cap, .slice A2 p.globals.length cap2, .int .i64 p.data, .int .i64 p.main] 25) (Below.refl w.heap.size w))
  have HBX := Lib.hid (block_box w #[.slice A p.funcs.length cap, .slice A2 p.globals.length cap2, .int .i64 p.data, .int .i64 p.main] 25)
  go_enter Tryd.func3, Tryd.ntmps3
  go_wp2_with fail
  refine (fit_vm _).mono ?_
  rintro e w2 ⟨rfl, hb2⟩
  have HB2 := Lib.hid (HB1.out.bt hb2)
  have c0 := later (HBX.out 0 _ rfl) hb2
  have c1 := later (HBX.out 1 _ rfl) hb2
  have c2 := later (HBX.out 2 _ rfl) hb2
  have c3 := later (HBX.out 3 _ rfl) hb2
  have cl := World.block_lt_of_cell? _ _ c0
  clear hb2 HB1
  go_wp2_with fail
  refine (HM.out _ HB2.out).mono ?_
  rintro e w3 ⟨b, rfl, hb, hb3⟩
  have HB3 := Lib.hid (HB2.out.bt hb3)
  have HBP := Lib.hid (show BoxP w w3 w.heap.size p (.slice A p.funcs.length cap) (.slice A2 p.globals.length cap2) from ⟨later c0 hb3, later c1 hb3, later c2 hb3, later c3 hb3⟩)
  have HOK := Lib.hid hb
  clear hb hb3 c0 c1 c2 c3 cl
  cases b with
  | false =>
    go_wp2_with fail
    go_returns
    exact ⟨rfl, HB3.out⟩
  | true =>
    obtain ⟨⟨hl1, hl2⟩, hrt⟩ := HOK.out rfl
    have HP := Lib.hid (show ∀ g ∈ p.globals, 0 ≤ g.at_ ∧ 0 ≤ g.size ∧ g.at_ + g.size ≤ 4096 ∧ foldP p.funcs.length (some g.size) g.parts = some 0 from fun g hg => by
      have h1 := of_decide_eq_true (hrt.globs g hg)
      have h2 := hl2.2.1
      exact ⟨h1.1, h1.2.1, by omega, h1.2.2.2.2⟩)
    have HQ := Lib.hid (show ∀ g ∈ p.globals, g.parts.length ≤ 50 ∧ ∀ y ∈ g.parts, y.data.length ≤ 4096 from fun g hg => ⟨(hl2.2.2 g hg).2.2.1, (hl2.2.2 g hg).2.2.2⟩)
    have hg20 := hl1.2.1
    have HE := Lib.hid (endG_nn (gs := p.globals) (fun g hg => ⟨(HP.out g hg).1, (HP.out g hg).2.1, (HP.out g hg).2.2.1⟩))
    clear hl1 hl2 hrt HOK
    have b1 := HBP.out.2.1
    have bl := World.block_lt_of_cell? _ _ b1
    go_wp2_with fail
    clear b1 bl
    go_loopw [3, 24] (fun a i wr => ∃ k : Nat, k ≤ p.globals.length ∧ i = .int .i64 k ∧ a = .int .i64 (endG (p.globals.take k)) ∧ Ordered p.globals k ∧ Below w3.heap.size w3 wr) (fun _ i _ => p.globals.length - (intOf i).toNat)
    case atStart => exact ⟨0, by omega, rfl, rfl, fun i g h => by omega, Below.refl _ _⟩
    case round =>
      obtain ⟨k, hk, rfl, rfl, hord, hb⟩ := hrel
      rename World => wo
      have HO := Lib.hid hord
      have HBo := Lib.hid hb
      by_cases hlt : k < p.globals.length
      · obtain ⟨g, hg⟩ : ∃ g, p.globals[k]? = some g := ⟨_, List.getElem?_eq_getElem hlt⟩
        obtain ⟨a0, s0, as4, _⟩ := HP.out g (List.mem_of_getElem? hg)
        obtain ⟨A4, c4, e1, _, _, e4⟩ := HIN.out.globs.later (by decide) (HB3.out.bt hb)
        simp only [Value.slice.injEq] at e1
        obtain ⟨rfl, _, rfl⟩ := e1
        obtain ⟨b, o, cs, rfl, g2, g3, vp, rfl, r1, r2, r3, r4, r5⟩ := e4 k g hg
        obtain ⟨Ap, cp, rfl, _⟩ := r4
        have z0 : wo.cell? ⟨b, o + k * 4, none⟩ = some (.string g.name) := g3 0 (by decide)
        have z1 : wo.cell? ⟨b, o + k * 4 + 1, none⟩ = some (.int .i64 g.at_) := g3 1 (by decide)
        have z2 : wo.cell? ⟨b, o + k * 4 + 2, none⟩ = some (.int .i64 g.size) := g3 2 (by decide)
        have z3 : wo.cell? ⟨b, o + k * 4 + 3, none⟩ = some (.slice Ap g.parts.length cp) := g3 3 (by decide)
        have zl := World.block_lt_of_cell? _ _ z0
        have HLT := Lib.hid hlt
        have HG := Lib.hid hg
        obtain ⟨w4, hw4⟩ : ∃ w4, w4 = wo.alloc (.cells #[.string g.name, .int .i64 g.at_, .int .i64 g.size, .slice Ap g.parts.length cp] 30) := ⟨_, rfl⟩
        have HB4 := Lib.hid (show Below w3.heap.size w3 w4 by rw [hw4]; exact below_alloc _ HBo.out)
        obtain ⟨at0, hat0⟩ : ∃ z, z = endG (p.globals.take k) := ⟨_, rfl⟩
        have hat1 := (HE.out k).1
        have hat2 := (HE.out k).2
        rw [← hat0] at hat1 hat2 ⊢
        have HAT := Lib.hid hat0
        clear hord hb hg g3 e4 r1 r2 r3 hat0
        by_cases hlo : g.at_ < at0
        · have dlo : decide (g.at_ < at0) = true := decide_eq_true hlo
          go_wp2_with fail
          rw [← hw4]
          go_returns
          exact ⟨rfl, HB3.out.bt HB4.out⟩
        · have dlo : decide (g.at_ < at0) = false := decide_eq_false hlo
          have HLO := Lib.hid hlo
          go_wp2_with fail
          rw [← hw4]
          have hlt := HLT.out
          go_roundw
          case rel => exact ⟨k + 1, by omega, by go_num, by rw [endG_take HG.out], fun i g' hi hg' => by
            by_cases e : i = k
            · subst e
              rw [HG.out] at hg'
              obtain rfl := Option.some.inj hg'
              have h1 := HAT.out
              have h2 := HLO.out
              omega
            · exact HO.out i g' (by omega) hg', HB4.out⟩
          case measure => simp [intOf]; omega
      · have e : k = p.globals.length := by omega
        subst e
        have HBPo := Lib.hid (HBP.out.later hb)
        have HDA := Lib.hid (data_any w wo (HB3.out.bt hb) w.heap.size p _ _ HIN.out HBPo.out ⟨hg20, HQ.out, HP.out, HN1.out, HN2.out, hord⟩)
        clear hord hb
        rw [List.take_length]
        go_wp2_with fail
        refine HDA.out.mono ?_
        rintro e w5 ⟨v, ds, css, rfl, hR, hrun, hdl, hb5⟩
        have HR5 := Lib.hid (show SlR w5 4 DatR v ds from row_slR hR.own hR.el.1 hR.el.2.1 hR.el.2.2 (fun _ _ => rfl))
        have HNN := Lib.hid hR.nn
        have HRUN := Lib.hid hrun
        obtain ⟨Av, cv, rfl, hvm⟩ := own_slice hR.own
        unfold maxLen at hvm
        have HB5 := Lib.hid ((HB3.out.bt HBo.out).bt hb5)
        have HBP5 := Lib.hid (HBPo.out.later hb5)
        have HSB := Lib.hid (fun (j : Nat) (t : StD) (hj : j ≤ ds.length) (ht : runD p.globals (ds.take j) = some t) => show 0 ≤ t.at_ ∧ t.at_ ≤ 4096 ∧ 0 ≤ t.pub ∧ t.pub ≤ 4096 ∧ 0 ≤ t.sec ∧ t.sec ≤ 4096 from by
          have h1 := runD_ok HNN.out j t ht
          have h2 := runD_mono HNN.out HRUN.out (ds.length - j) j t (by omega) ht
          have h3 := (HE.out p.globals.length).2
          rw [List.take_length] at h3
          unfold StOk at h1
          simp only at h2
          omega)
        clear hR hrun hb5
        go_wp2_with fail
        go_loopw [6, 7, 8, 9, 40] (fun a n pu se i wr => ∃ (j : Nat) (s : StD), j ≤ ds.length ∧ i = .int .i64 j ∧ a = .int .i64 s.at_ ∧ n = .int .i64 (s.next : Nat) ∧ pu = .int .i64 s.pub ∧ se = .int .i64 s.sec ∧ runD p.globals (ds.take j) = some s ∧ Below w5.heap.size w5 wr) (fun _ _ _ _ i _ => ds.length - (intOf i).toNat)
        case atStart => exact ⟨0, ⟨0, 0, 0, 0⟩, by omega, rfl, rfl, rfl, rfl, rfl, rfl, Below.refl _ _⟩
        case round =>
          obtain ⟨j, s, hj, rfl, rfl, rfl, rfl, rfl, hrun, hb⟩ := hrel
          rename World => wo2
          have HRj := Lib.hid hrun
          have HBo2 := Lib.hid hb
          obtain ⟨sa0, sa1, sp0, sp1, ss0, ss1⟩ := HSB.out j s hj hrun
          by_cases hlt : j < ds.length
          · obtain ⟨d, hd⟩ : ∃ d, ds[j]? = some d := ⟨_, List.getElem?_eq_getElem hlt⟩
            obtain ⟨t, ht⟩ := runD_take HRUN.out (j + 1)
            have hnx := runD_next hd hrun
            rw [ht] at hnx
            obtain ⟨ta0, ta1, tp0, tp1, ts0, ts1⟩ := HSB.out (j + 1) t (by omega) ht
            have HTJ := Lib.hid ht
            have hdn : 0 ≤ d.n := HNN.out d (List.mem_of_getElem? hd)
            obtain ⟨A4, c4, e1, _, _, e4⟩ := HR5.out.later (by decide) hb
            simp only [Value.slice.injEq] at e1
            obtain ⟨rfl, _, rfl⟩ := e1
            obtain ⟨b, o, cs, rfl, g2, g3, Ad, cd, rfl⟩ := e4 j d hd
            have z0 : wo2.cell? ⟨b, o + j * 4, none⟩ = some (.int .i64 d.kind) := g3 0 (by decide)
            have z1 : wo2.cell? ⟨b, o + j * 4 + 1, none⟩ = some (.string d.name) := g3 1 (by decide)
            have z2 : wo2.cell? ⟨b, o + j * 4 + 2, none⟩ = some (.slice Ad d.len cd) := g3 2 (by decide)
            have z3 : wo2.cell? ⟨b, o + j * 4 + 3, none⟩ = some (.int .i64 d.n) := g3 3 (by decide)
            have zl := World.block_lt_of_cell? _ _ z0
            obtain ⟨w6, hw6⟩ : ∃ w6, w6 = wo2.alloc (.cells #[.int .i64 d.kind, .string d.name, .slice Ad d.len cd, .int .i64 d.n] 36) := ⟨_, rfl⟩
            have hb6 : Below wo2.heap.size wo2 w6 := by rw [hw6]; exact below_alloc _ (Below.refl _ _)
            have HB6 := Lib.hid (HBo2.out.bt hb6)
            have HX6 := Lib.hid (show w6.heap[wo2.heap.size]? = some (.cells #[.int .i64 d.kind, .string d.name, .slice Ad d.len cd, .int .i64 d.n] 36 (0, 0)) by rw [hw6]; exact blk_new _ _)
            have HLT := Lib.hid hlt
            have HNX := Lib.hid (show some t = stepD p.globals s d from hnx)
            clear hrun hb hd ht hnx g3 e4 hb6
            obtain ⟨κ, hκ⟩ : ∃ κ, κ = d.kind := ⟨_, rfl⟩
            have HK := Lib.hid hκ
            rw [← hκ] at z0 HX6 hw6
            clear hκ
            by_cases k0 : κ = 0
            · subst k0
              have hex : ∃ g, p.globals[s.next]? = some g ∧ g.at_ = s.at_ ∧ d.name = gLabel g.name ∧ t = ⟨s.at_, s.next + 1, s.pub, s.sec⟩ := by
                have h := HNX.out
                unfold stepD at h
                rw [← HK.out, if_pos rfl] at h
                cases e : p.globals[s.next]? with
                | none => rw [e] at h; cases h
                | some g =>
                  rw [e] at h
                  simp only at h
                  split at h
                  · rename_i hc
                    exact ⟨g, rfl, hc.1, hc.2, Option.some.inj h⟩
                  · cases h
              obtain ⟨g, hg, hga, hgn, rfl⟩ := hex
              clear ta0 ta1 tp0 tp1 ts0 ts1
              have hsl : s.next < p.globals.length := (List.getElem?_eq_some_iff.1 hg).1
              obtain ⟨A7, c7, f1, _, _, f4⟩ := HIN.out.globs.later (by decide) (HB5.out.bt HB6.out)
              simp only [Value.slice.injEq] at f1
              obtain ⟨rfl, _, rfl⟩ := f1
              obtain ⟨bg, og, cs9, rfl, h2, h3, vp9, rfl, _⟩ := f4 s.next g hg
              have y0 : w6.cell? ⟨bg, og + s.next * 4, none⟩ = some (.string g.name) := h3 0 (by decide)
              have y1 : w6.cell? ⟨bg, og + s.next * 4 + 1, none⟩ = some (.int .i64 g.at_) := h3 1 (by decide)
              have yl := World.block_lt_of_cell? _ _ y0
              rw [hga] at y1
              have hb6 := HBP5.out.later HB6.out
              have m1 := hb6.2.1
              have ml := World.block_lt_of_cell? _ _ m1
              have HX0 := HX6.out
              rw [hgn] at HX0
              have u1 := blk_cell (i := 1) HX0 rfl
              have ul := blk_lt HX0
              have hgm := HN1.out g (List.mem_of_getElem? hg)
              have HGL := Lib.hid (fun (W : World) => glabel_ov W g.name hgm)
              have dne : ((s.next : Int) == (p.globals.length : Int)) = false := by simp; omega
              have hsi : (s.next : Int) < (p.globals.length : Int) := by omega
              clear hb6 HX0 f4 h3 hgn
              go_upto_region 21 with (fail)
              rw [← hw6]
              clear hw6 z0 z1 z2 z3 zl
              refine wp_region_over (by kernel_rfl) (by kernel_rfl) ?_
              repeat (go_big_quiet_step ((go_at_call 7; exact calls_over (by exact Nat.le_refl _) (HGL.out _))))
              refine wpQuiet_nil ?_
              intro w7 kb7
              have HB7 := Lib.hid (HB6.out.bt kb7)
              clear kb7 y0 y1 yl m1 ml u1 ul
              go_wp2_with fail
              have hlt := HLT.out
              go_roundw
              case rel => exact ⟨j + 1, ⟨s.at_, s.next + 1, s.pub, s.sec⟩, by omega, by go_num, rfl, by go_num, rfl, rfl, HTJ.out, HB7.out⟩
              case measure => simp [intOf]; omega
            · by_cases k1 : κ = 1
              · obtain rfl : t = ⟨s.at_ + d.len, s.next, s.pub, s.sec⟩ := by
                  have h := HNX.out
                  unfold stepD at h
                  rw [← HK.out] at h
                  simpa [k0, k1] using h
                subst k1
                have q1 : 0 ≤ s.at_ + d.len ∧ s.at_ + d.len ≤ 4096 := ⟨ta0, ta1⟩
                have q2 : 0 ≤ s.pub ∧ s.pub ≤ 4096 := ⟨tp0, tp1⟩
                have q3 : 0 ≤ s.sec ∧ s.sec ≤ 4096 := ⟨ts0, ts1⟩
                obtain ⟨q11, q12⟩ := q1
                obtain ⟨q21, q22⟩ := q2
                obtain ⟨q31, q32⟩ := q3
                clear ta0 ta1 tp0 tp1 ts0 ts1
                go_wp2_with fail
                rw [← hw6]
                have hlt := HLT.out
                go_roundw
                case rel => exact ⟨j + 1, ⟨s.at_ + d.len, s.next, s.pub, s.sec⟩, by omega, by go_num, rfl, rfl, rfl, rfl, HTJ.out, HB6.out⟩
                case measure => simp [intOf]; omega
              · by_cases k2 : κ = 2
                · obtain rfl : t = ⟨s.at_ + 8, s.next, s.pub, s.sec⟩ := by
                    have h := HNX.out
                    unfold stepD at h
                    rw [← HK.out] at h
                    simpa [k0, k1, k2] using h
                  subst k2
                  have q1 : 0 ≤ s.at_ + 8 ∧ s.at_ + 8 ≤ 4096 := ⟨ta0, ta1⟩
                  have q2 : 0 ≤ s.pub ∧ s.pub ≤ 4096 := ⟨tp0, tp1⟩
                  have q3 : 0 ≤ s.sec ∧ s.sec ≤ 4096 := ⟨ts0, ts1⟩
                  obtain ⟨q11, q12⟩ := q1
                  obtain ⟨q21, q22⟩ := q2
                  obtain ⟨q31, q32⟩ := q3
                  clear ta0 ta1 tp0 tp1 ts0 ts1
                  go_wp2_with fail
                  rw [← hw6]
                  have hlt := HLT.out
                  go_roundw
                  case rel => exact ⟨j + 1, ⟨s.at_ + 8, s.next, s.pub, s.sec⟩, by omega, by go_num, rfl, rfl, rfl, rfl, HTJ.out, HB6.out⟩
                  case measure => simp [intOf]; omega
                · by_cases k3 : κ = 3
                  · obtain rfl : t = ⟨s.at_ + d.n, s.next, s.pub + d.n, s.sec⟩ := by
                      have h := HNX.out
                      unfold stepD at h
                      rw [← HK.out] at h
                      simpa [k0, k1, k2, k3] using h
                    subst k3
                    have q1 : 0 ≤ s.at_ + d.n ∧ s.at_ + d.n ≤ 4096 := ⟨ta0, ta1⟩
                    have q2 : 0 ≤ s.pub + d.n ∧ s.pub + d.n ≤ 4096 := ⟨tp0, tp1⟩
                    have q3 : 0 ≤ s.sec ∧ s.sec ≤ 4096 := ⟨ts0, ts1⟩
                    obtain ⟨q11, q12⟩ := q1
                    obtain ⟨q21, q22⟩ := q2
                    obtain ⟨q31, q32⟩ := q3
                    clear ta0 ta1 tp0 tp1 ts0 ts1
                    go_wp2_with fail
                    rw [← hw6]
                    have hlt := HLT.out
                    go_roundw
                    case rel => exact ⟨j + 1, ⟨s.at_ + d.n, s.next, s.pub + d.n, s.sec⟩, by omega, by go_num, rfl, rfl, rfl, rfl, HTJ.out, HB6.out⟩
                    case measure => simp [intOf]; omega
                  · by_cases k4 : κ = 4
                    · obtain rfl : t = ⟨s.at_ + d.n, s.next, s.pub, s.sec + d.n⟩ := by
                        have h := HNX.out
                        unfold stepD at h
                        rw [← HK.out] at h
                        simpa [k0, k1, k2, k3, k4] using h
                      subst k4
                      have q1 : 0 ≤ s.at_ + d.n ∧ s.at_ + d.n ≤ 4096 := ⟨ta0, ta1⟩
                      have q2 : 0 ≤ s.pub ∧ s.pub ≤ 4096 := ⟨tp0, tp1⟩
                      have q3 : 0 ≤ s.sec + d.n ∧ s.sec + d.n ≤ 4096 := ⟨ts0, ts1⟩
                      obtain ⟨q11, q12⟩ := q1
                      obtain ⟨q21, q22⟩ := q2
                      obtain ⟨q31, q32⟩ := q3
                      clear ta0 ta1 tp0 tp1 ts0 ts1
                      go_wp2_with fail
                      rw [← hw6]
                      have hlt := HLT.out
                      go_roundw
                      case rel => exact ⟨j + 1, ⟨s.at_ + d.n, s.next, s.pub, s.sec + d.n⟩, by omega, by go_num, rfl, rfl, rfl, rfl, HTJ.out, HB6.out⟩
                      case measure => simp [intOf]; omega
                    · obtain rfl : t = ⟨s.at_ + d.n, s.next, s.pub, s.sec⟩ := by
                        have h := HNX.out
                        unfold stepD at h
                        rw [← HK.out] at h
                        simpa [k0, k1, k2, k3, k4] using h
                      have t0 : (κ == 0) = false := by simpa using k0
                      have t1 : (κ == 1) = false := by simpa using k1
                      have t2 : (κ == 2) = false := by simpa using k2
                      have t3 : (κ == 3) = false := by simpa using k3
                      have t4 : (κ == 4) = false := by simpa using k4
                      have q1 : 0 ≤ s.at_ + d.n ∧ s.at_ + d.n ≤ 4096 := ⟨ta0, ta1⟩
                      have q2 : 0 ≤ s.pub ∧ s.pub ≤ 4096 := ⟨tp0, tp1⟩
                      have q3 : 0 ≤ s.sec ∧ s.sec ≤ 4096 := ⟨ts0, ts1⟩
                      obtain ⟨q11, q12⟩ := q1
                      obtain ⟨q21, q22⟩ := q2
                      obtain ⟨q31, q32⟩ := q3
                      clear ta0 ta1 tp0 tp1 ts0 ts1
                      go_wp2_with fail
                      rw [← hw6]
                      have hlt := HLT.out
                      go_roundw
                      case rel => exact ⟨j + 1, ⟨s.at_ + d.n, s.next, s.pub, s.sec⟩, by omega, by go_num, rfl, rfl, rfl, rfl, HTJ.out, HB6.out⟩
                      case measure => simp [intOf]; omega
          · have e : j = ds.length := by omega
            subst e
            rw [List.take_length, HRUN.out] at hrun
            obtain rfl := Option.some.inj hrun
            have hpd := HQ.out
            have HPB := Lib.hid (show ∀ g ∈ p.globals, ∀ y ∈ g.parts, y.kind = 2 ∨ y.kind = 3 → 0 ≤ y.n ∧ y.n ≤ 4096 from fun g hg y hy hk => by
              have h1 := HP.out g hg
              have := parts_bound g.parts g.size (by rw [h1.2.2.2]; simp) y hy hk
              omega)
            have HKB := Lib.hid (show ∀ (κ : Int) (k : Nat), κ = 2 ∨ κ = 3 → 0 ≤ kindG κ (p.globals.take k) ∧ kindG κ (p.globals.take k) ≤ 10000000 from fun κ k hκ => by
              have := kindG_bd (k := κ) (p.globals.take k) (fun g hg => ⟨(HQ.out g (List.mem_of_mem_take hg)).1, fun y hy hk => HPB.out g (List.mem_of_mem_take hg) y hy (by omega)⟩)
              have hl : (p.globals.take k).length ≤ 20 := by rw [List.length_take]; omega
              omega)
            have HBq := Lib.hid (HB5.out.bt hb)
            have HBPq := Lib.hid (HBP5.out.later hb)
            obtain ⟨P, hP⟩ : ∃ P, P = kindG 2 p.globals := ⟨_, rfl⟩
            obtain ⟨S, hS⟩ : ∃ S, S = kindG 3 p.globals := ⟨_, rfl⟩
            have hPb := HKB.out 2 p.globals.length (Or.inl rfl)
            have hSb := HKB.out 3 p.globals.length (Or.inr rfl)
            rw [List.take_length] at hPb hSb
            rw [← hP] at hPb ⊢
            rw [← hS] at hSb ⊢
            have HPE := Lib.hid hP
            have HSE := Lib.hid hS
            obtain ⟨E9, hE9⟩ : ∃ E, E = endG p.globals := ⟨_, rfl⟩
            rw [← hE9]
            clear hrun hb hP hS hpd hE9
            have m1 := HBPq.out.2.1
            have ml := World.block_lt_of_cell? _ _ m1
            go_wp2_with fail
            clear m1 ml
            go_loopw [8, 9, 116] (fun pu se i wr => ∃ k : Nat, k ≤ p.globals.length ∧ i = .int .i64 k ∧ pu = .int .i64 (P - kindG 2 (p.globals.take k)) ∧ se = .int .i64 (S - kindG 3 (p.globals.take k)) ∧ Below wo2.heap.size wo2 wr) (fun _ _ i _ => p.globals.length - (intOf i).toNat)
            case atStart => exact ⟨0, by omega, rfl, by simp [kindG], by simp [kindG], Below.refl _ _⟩
            case round =>
              obtain ⟨k, hk, rfl, rfl, rfl, hb⟩ := hrel
              rename World => w8
              have HB8 := Lib.hid hb
              have hk2 := HKB.out 2 k (Or.inl rfl)
              have hk3 := HKB.out 3 k (Or.inr rfl)
              by_cases hlt : k < p.globals.length
              · obtain ⟨g, hg⟩ : ∃ g, p.globals[k]? = some g := ⟨_, List.getElem?_eq_getElem hlt⟩
                have hmem := List.mem_of_getElem? hg
                obtain ⟨hpl, _⟩ := HQ.out g hmem
                have HYB := Lib.hid (HPB.out g hmem)
                obtain ⟨A4, c4, e1, _, _, e4⟩ := HIN.out.globs.later (by decide) (HBq.out.bt hb)
                simp only [Value.slice.injEq] at e1
                obtain ⟨rfl, _, rfl⟩ := e1
                obtain ⟨b, o, cs, rfl, g2, g3, vp, rfl, r1, r2, r3, r4, r5⟩ := e4 k g hg
                obtain ⟨Ap, cp, rfl, _, hcp, _⟩ := id r4
                have HPT := Lib.hid r4
                have z0 : w8.cell? ⟨b, o + k * 4, none⟩ = some (.string g.name) := g3 0 (by decide)
                have z1 : w8.cell? ⟨b, o + k * 4 + 1, none⟩ = some (.int .i64 g.at_) := g3 1 (by decide)
                have z2 : w8.cell? ⟨b, o + k * 4 + 2, none⟩ = some (.int .i64 g.size) := g3 2 (by decide)
                have z3 : w8.cell? ⟨b, o + k * 4 + 3, none⟩ = some (.slice Ap g.parts.length cp) := g3 3 (by decide)
                have zl := World.block_lt_of_cell? _ _ z0
                obtain ⟨w9, hw9⟩ : ∃ w9, w9 = w8.alloc (.cells #[.string g.name, .int .i64 g.at_, .int .i64 g.size, .slice Ap g.parts.length cp] 30) := ⟨_, rfl⟩
                have HB9 := Lib.hid (show Below wo2.heap.size wo2 w9 by rw [hw9]; exact below_alloc _ HB8.out)
                have HLT := Lib.hid hlt
                have HGK := Lib.hid hg
                obtain ⟨p0, hp0⟩ : ∃ z, z = P - kindG 2 (p.globals.take k) := ⟨_, rfl⟩
                obtain ⟨s0, hs0⟩ : ∃ z, z = S - kindG 3 (p.globals.take k) := ⟨_, rfl⟩
                have hpb : -20000000 ≤ p0 ∧ p0 ≤ 20000000 := by omega
                have hsb : -20000000 ≤ s0 ∧ s0 ≤ 20000000 := by omega
                rw [← hp0, ← hs0]
                have HP0 := Lib.hid hp0
                have HS0 := Lib.hid hs0
                clear hb hk2 hk3 hg hmem g3 e4 r1 r2 r3 r4 hp0 hs0
                go_wp2_with fail
                rw [← hw9]
                clear hw9 z0 z1 z2 z3 zl
                go_loopw [8, 9, 123] (fun pu se i wr => ∃ q : Nat, q ≤ g.parts.length ∧ i = .int .i64 q ∧ pu = .int .i64 (p0 - kindP 2 (g.parts.take q)) ∧ se = .int .i64 (s0 - kindP 3 (g.parts.take q)) ∧ Below wo2.heap.size wo2 wr) (fun _ _ i _ => g.parts.length - (intOf i).toNat)
                case atStart => exact ⟨0, by omega, rfl, by simp [kindP], by simp [kindP], HB9.out⟩
                case round =>
                  obtain ⟨q, hq, rfl, rfl, rfl, hb⟩ := hrel
                  rename World => wa
                  have HBa := Lib.hid hb
                  by_cases hql : q < g.parts.length
                  · obtain ⟨y, hy⟩ : ∃ y, g.parts[q]? = some y := ⟨_, List.getElem?_eq_getElem hql⟩
                    obtain ⟨A5, c5, e1, _, _, e5⟩ := HPT.out.later (by decide) (HBq.out.bt hb)
                    simp only [Value.slice.injEq] at e1
                    obtain ⟨rfl, _, rfl⟩ := e1
                    obtain ⟨bp, op, cs7, rfl, g2, g3, vd, rfl, y1, y2, y3, y4⟩ := e5 q y hy
                    obtain ⟨Ad, cd, rfl, _⟩ := y2
                    have z0 : wa.cell? ⟨bp, op + q * 3, none⟩ = some (.int .i64 y.kind) := g3 0 (by decide)
                    have z1 : wa.cell? ⟨bp, op + q * 3 + 1, none⟩ = some (.slice Ad y.data.length cd) := g3 1 (by decide)
                    have z2 : wa.cell? ⟨bp, op + q * 3 + 2, none⟩ = some (.int .i64 y.n) := g3 2 (by decide)
                    have zl := World.block_lt_of_cell? _ _ z0
                    have hb2 := kindP_bd (k := 2) (g.parts.take q) (fun z hz hk => HYB.out z (List.mem_of_mem_take hz) (Or.inl hk))
                    have hb3 := kindP_bd (k := 3) (g.parts.take q) (fun z hz hk => HYB.out z (List.mem_of_mem_take hz) (Or.inr hk))
                    have hlq : (g.parts.take q).length ≤ 50 := by rw [List.length_take]; omega
                    have HT2 := Lib.hid (kindP_take (k := 2) hy)
                    have HT3 := Lib.hid (kindP_take (k := 3) hy)
                    have hyb := HYB.out y (List.mem_of_getElem? hy)
                    obtain ⟨d2, hd2⟩ : ∃ z, z = kindP 2 (g.parts.take q) := ⟨_, rfl⟩
                    obtain ⟨d3, hd3⟩ : ∃ z, z = kindP 3 (g.parts.take q) := ⟨_, rfl⟩
                    rw [← hd2] at hb2 ⊢
                    rw [← hd3] at hb3 ⊢
                    rw [← hd2] at HT2
                    rw [← hd3] at HT3
                    have hd2b : 0 ≤ d2 ∧ d2 ≤ 300000 := by omega
                    have hd3b : 0 ≤ d3 ∧ d3 ≤ 300000 := by omega
                    have HQL := Lib.hid hql
                    have HB10 := Lib.hid (fun o => below_alloc o HBa.out)
                    obtain ⟨κ, hκ⟩ : ∃ κ, κ = y.kind := ⟨_, rfl⟩
                    have HK := Lib.hid hκ
                    rw [← hκ] at z0 hyb
                    clear hb hκ hb2 hb3 hlq hd2 hd3 g3 e5 y1 y3 y4 hy
                    by_cases k2 : κ = 2
                    · obtain ⟨n0, n1⟩ := hyb (Or.inl k2)
                      have e2 : kindP 2 (g.parts.take (q + 1)) = d2 + y.n := by rw [HT2.out, if_pos (by rw [← HK.out]; exact k2)]
                      have e3 : kindP 3 (g.parts.take (q + 1)) = d3 := by rw [HT3.out, if_neg (by rw [← HK.out]; omega), Int.add_zero]
                      have E2 := Lib.hid e2
                      have E3 := Lib.hid e3
                      subst k2
                      clear e2 e3 hyb
                      go_wp2_with fail
                      have hql := HQL.out
                      go_roundw
                      case rel => exact ⟨q + 1, by omega, by go_num, by rw [E2.out]; congr 1; omega, by rw [E3.out], HB10.out _⟩
                      case measure => simp [intOf]; omega
                    · by_cases k3 : κ = 3
                      · obtain ⟨n0, n1⟩ := hyb (Or.inr k3)
                        have e2 : kindP 2 (g.parts.take (q + 1)) = d2 := by rw [HT2.out, if_neg (by rw [← HK.out]; omega), Int.add_zero]
                        have e3 : kindP 3 (g.parts.take (q + 1)) = d3 + y.n := by rw [HT3.out, if_pos (by rw [← HK.out]; exact k3)]
                        have E2 := Lib.hid e2
                        have E3 := Lib.hid e3
                        subst k3
                        clear e2 e3 hyb
                        go_wp2_with fail
                        have hql := HQL.out
                        go_roundw
                        case rel => exact ⟨q + 1, by omega, by go_num, by rw [E2.out], by rw [E3.out]; congr 1; omega, HB10.out _⟩
                        case measure => simp [intOf]; omega
                      · have e2 : kindP 2 (g.parts.take (q + 1)) = d2 := by rw [HT2.out, if_neg (by rw [← HK.out]; omega), Int.add_zero]
                        have e3 : kindP 3 (g.parts.take (q + 1)) = d3 := by rw [HT3.out, if_neg (by rw [← HK.out]; omega), Int.add_zero]
                        have E2 := Lib.hid e2
                        have E3 := Lib.hid e3
                        have t2 : (κ == 2) = false := by simpa using k2
                        have t3 : (κ == 3) = false := by simpa using k3
                        clear e2 e3 hyb
                        go_wp2_with fail
                        have hql := HQL.out
                        go_roundw
                        case rel => exact ⟨q + 1, by omega, by go_num, by rw [E2.out], by rw [E3.out], HB10.out _⟩
                        case measure => simp [intOf]; omega
                  · have e : q = g.parts.length := by omega
                    subst e
                    clear hb
                    have HE2 := Lib.hid (show p0 - kindP 2 (g.parts.take g.parts.length) = P - kindG 2 (p.globals.take (k + 1)) by rw [List.take_length, kindG_take HGK.out, HP0.out]; omega)
                    have HE3 := Lib.hid (show s0 - kindP 3 (g.parts.take g.parts.length) = S - kindG 3 (p.globals.take (k + 1)) by rw [List.take_length, kindG_take HGK.out, HS0.out]; omega)
                    go_wp2_with fail
                    have hlt := HLT.out
                    go_roundw
                    case rel => exact ⟨k + 1, by omega, by go_num, by rw [HE2.out], by rw [HE3.out], HBa.out⟩
                    case measure => simp [intOf]; omega
              · have e : k = p.globals.length := by omega
                subst e
                have hz2 : P - kindG 2 (p.globals.take p.globals.length) = 0 := by rw [List.take_length, HPE.out]; omega
                have hz3 : S - kindG 3 (p.globals.take p.globals.length) = 0 := by rw [List.take_length, HSE.out]; omega
                rw [hz2, hz3]
                have m1 := (HBPq.out.later hb).2.1
                have ml := World.block_lt_of_cell? _ _ m1
                clear hb hz2 hz3
                go_wp2_with fail
                go_returns
                exact ⟨rfl, HBq.out.bt HB8.out⟩
end Go.Proofs.YthpcnmjpjglmbaaDoor
