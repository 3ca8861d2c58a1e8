/- ObjsLabels: the law walked. No condition. -/
import Derived.Test.YtpcfibnnboenhaaOlB
import Derived.Test.YtpcfibnnboenhaaOlD
import Derived.Test.YtpcfibnnboenhaaFit06
namespace Go.Proofs.Ytpcfibnnboenhaa
open Go.RowKit
set_option linter.unusedVariables false
set_option maxHeartbeats 4000000
set_option maxRecDepth 100000
def TrueV (w : World) (e : Ending) (w' : World) : Prop := e = .returned (.bool true) ∧ Below w.heap.size w w'
theorem slR_form {α : Type} {w : World} {C : Nat} {R : List Value → α → Prop} {v : Value} {xs : List α} (h : SlR w C R v xs) : ∃ A cap, v = .slice A xs.length cap ∧ xs.length ≤ maxLen := by
  obtain ⟨A, cap, e, h1, h2, _⟩ := h
  exact ⟨A, cap, e, by omega⟩
theorem RecR.later {w w' : World} {cs : List Value} {x : RecD} (h : RecR w cs x) (hb : Below w.heap.size w w') : RecR w' cs x := by
  obtain ⟨vn, vs, e, h1, h2, h3, h4, h5⟩ := h
  refine ⟨vn, vs, e, h1, h2.later (by decide) hb, h3, (h4.later (by decide) hb).weaken (fun cs x hx => ?_), h5⟩
  obtain ⟨vst, e, k1, k2, k3⟩ := hx
  exact ⟨vst, e, k1, k2.later (by decide) hb, k3⟩
theorem wfT_nil : WfT [] := fun k => by
  have : recT [] k = recNone := by unfold recT; split <;> rfl
  rw [this]
  exact ⟨by decide, by decide, by decide, by decide, fun f hf => by cases hf⟩
theorem slR_old {α : Type} {w : World} {C : Nat} {R : List Value → α → Prop} {A : Option Addr} {n c i : Nat} {xs : List α} (h : SlR w (C + 1) R (.slice A n c) xs) (hi : i < xs.length) : ∀ b o, A = some ⟨b, o, none⟩ → b < w.heap.size := by
  obtain ⟨A2, cap, e, h1, h2, h3⟩ := h
  simp only [Value.slice.injEq] at e
  obtain ⟨rfl, _, _⟩ := e
  rintro b o rfl
  obtain ⟨b2, o2, cs, e, k2, k3, _⟩ := h3 i _ (List.getElem?_eq_getElem hi)
  simp only [Option.some.injEq, Addr.mk.injEq, and_true] at e
  obtain ⟨rfl, rfl⟩ := e
  have h0 := k3 0 (by omega)
  rw [List.getElem?_eq_getElem (by omega)] at h0
  exact World.block_lt_of_cell? _ _ h0
theorem sizeT_sec (tab : List RecP) : ∀ t, sizeT tab (secT t) = sizeT tab t
  | .int _ _ _ => rfl
  | .ptr _ => rfl
  | .arr e n => by
    have ih := sizeT_sec tab e
    show sizeT tab (.arr (secT e) n) = sizeT tab (.arr e n)
    unfold sizeT
    rw [ih]
  | .str _ => rfl
  | .fn _ _ _ => rfl
theorem under_some : ∀ t, OkT t → ∃ d, Under d t
  | .int _ _ _, _ => ⟨0, trivial⟩
  | .ptr _, _ => ⟨0, trivial⟩
  | .arr e n, h => under_some e h.2.2
  | .str k, _ => ⟨(k + 1).toNat, by show k < (((k + 1).toNat : Nat) : Int); omega⟩
  | .fn _ _ _, h => h.elim
theorem labelslaw (w : World) (l : List RecD) (vl : Value) (hl : SlR w 3 (RecR w) vl l) (s : ShapeD) (vs : Value) (hs : SlR w 2 PairR vs s.steps) (sec : Bool) :
    Calls Try.prog 3 #[vl, .agg #[.int .i64 s.int, vs], .bool sec] w (TrueV w) := by
  have HL := Lib.hid hl
  have HS := Lib.hid hs
  obtain ⟨AL, cl, rfl, hlm⟩ := slR_form hl
  obtain ⟨AS, cs, rfl, hsm⟩ := slR_form hs
  unfold maxLen at hlm hsm
  obtain ⟨wa, hwa⟩ : ∃ wa, wa = w.alloc (.cells #[.int .i64 s.int, .slice AS s.steps.length cs] 25) := ⟨_, rfl⟩
  have HBA := Lib.hid (show Below w.heap.size w wa by rw [hwa]; exact below_alloc _ (Below.refl _ _))
  have HX := Lib.hid (show wa.heap[w.heap.size]? = some (.cells #[.int .i64 s.int, .slice AS s.steps.length cs] 25 (0, 0)) by rw [hwa]; exact blk_new _ _)
  clear hl hs
  go_enter Try.func3, Try.ntmps3
  go_wp2_with fail
  rw [← hwa]
  clear hwa
  refine (fit_vm wa).mono ?_
  rintro e w1 ⟨rfl, kb⟩
  have HB1 := Lib.hid (HBA.out.bt kb)
  have HX1 := Lib.hid (blk_below HX.out kb)
  have HZ1 := Lib.hid HB1.out.size
  clear kb
  by_cases h20 : 20 < l.length
  · have d20 : decide ((l.length : Int) > 20) = true := decide_eq_true (by omega)
    have HB2 := Lib.hid (below_alloc (.cells #[.slice none 0 0] 30) HB1.out)
    go_wp2_with fail
    go_returns
    exact ⟨rfl, HB2.out⟩
  · have d20 : decide ((l.length : Int) > 20) = false := decide_eq_false (by omega)
    obtain ⟨w2, hw2⟩ : ∃ w2, w2 = w1.alloc (.cells #[.slice none 0 0] 30) := ⟨_, rfl⟩
    have HB2 := Lib.hid (show Below w.heap.size w w2 by rw [hw2]; exact below_alloc _ HB1.out)
    have HX2 := Lib.hid (show w2.heap[w.heap.size]? = some (.cells #[.int .i64 s.int, .slice AS s.steps.length cs] 25 (0, 0)) by rw [hw2]; exact blk_alloc HX1.out _)
    have HT2 := Lib.hid (show TabO w2 w.heap.size w1.heap.size [] (.slice none 0 0) [] from ⟨by rw [hw2]; exact blk_new _ _, World.ownsRow_nil _ _ _ _, El.nil _ _, by decide⟩)
    go_wp2_with fail
    rw [← hw2]
    clear hw2
    go_loopw [29] (fun i wr => ∃ (j : Nat) (tab : List RecP) (vt : Value) (css : List (List Value)), j ≤ l.length ∧ i = .int .i64 j ∧ TabO wr w.heap.size w1.heap.size tab vt css ∧ WfT tab ∧ wr.heap[w.heap.size]? = some (.cells #[.int .i64 s.int, .slice AS s.steps.length cs] 25 (0, 0)) ∧ Below w.heap.size w wr) (fun i _ => l.length - (intOf i).toNat)
    case atStart => exact ⟨0, [], _, [], by omega, rfl, HT2.out, wfT_nil, HX2.out, HB2.out⟩
    case round =>
      obtain ⟨j, tab, vt, css, hj, rfl, hT, hW, hX, hb⟩ := hrel
      rename World => wo
      have HT := Lib.hid hT
      have HW := Lib.hid hW
      have HXo := Lib.hid hX
      have HBo := Lib.hid hb
      by_cases hlt : j < l.length
      · obtain ⟨r, hr⟩ : ∃ r, l[j]? = some r := ⟨_, List.getElem?_eq_getElem hlt⟩
        obtain ⟨A4, c4, e1, _, _, e4⟩ := HL.out.later (by decide) HBo.out
        simp only [Value.slice.injEq] at e1
        obtain ⟨rfl, _, rfl⟩ := e1
        obtain ⟨b, o, cs3, rfl, g2, g3, vn, vsh, rfl, r1, r2, r3, r4, r5⟩ := e4 j r hr
        obtain ⟨An, cn, rfl, hnm⟩ := slR_form r2
        obtain ⟨Ah, ch, rfl, hhm⟩ := slR_form r4
        have HRN := Lib.hid r2
        have HBN0 := Lib.hid (fun (i : Nat) (h : i < r.names.length) => slR_old r2 h)
        have HRH := Lib.hid r4
        have z0 : wo.cell? ⟨b, o + j * 3, none⟩ = some (.string r.name) := g3 0 (by decide)
        have z1 : wo.cell? ⟨b, o + j * 3 + 1, none⟩ = some (.slice An r.names.length cn) := g3 1 (by decide)
        have z2 : wo.cell? ⟨b, o + j * 3 + 2, none⟩ = some (.slice Ah r.shapes.length ch) := g3 2 (by decide)
        have zl := World.block_lt_of_cell? _ _ z0
        have HLT := Lib.hid hlt
        obtain ⟨w4, hw4⟩ : ∃ w4, w4 = wo.alloc (.cells #[.string r.name, .slice An r.names.length cn, .slice Ah r.shapes.length ch] 34) := ⟨_, rfl⟩
        have hb4 : Below wo.heap.size wo w4 := by rw [hw4]; exact below_alloc _ (Below.refl _ _)
        have HB4 := Lib.hid (HBo.out.bt hb4)
        have HBo4 := Lib.hid hb4
        have HK4 := Lib.hid (show w4.heap[wo.heap.size]? = some (.cells #[.string r.name, .slice An r.names.length cn, .slice Ah r.shapes.length ch] 34 (0, 0)) by rw [hw4]; exact blk_new _ _)
        unfold maxLen at hnm hhm
        clear hT hW hX hb g3 e4 r2 r4 hb4 hr
        by_cases hs20 : 20 < r.shapes.length
        · have ds20 : decide ((r.shapes.length : Int) > 20) = true := decide_eq_true (by omega)
          go_wp2_with fail
          rw [← hw4]
          go_returns
          exact ⟨rfl, HB4.out⟩
        · have ds20 : decide ((r.shapes.length : Int) > 20) = false := decide_eq_false (by omega)
          go_wp2_with fail
          rw [← hw4]
          clear hw4 z0 z1 z2 zl
          go_loopw [10, 40] (fun vf i wr => ∃ (k : Nat) (gs : List FldP) (fss : List (List Value)), k ≤ r.shapes.length ∧ i = .int .i64 k ∧ wr.ownsRow w4.heap.size 43 11 vf gs.length fss.flatten ∧ El 11 (FldR wr) gs fss ∧ gs.length = k ∧ (∀ g ∈ gs, OkT g.ty) ∧ Below w4.heap.size w4 wr) (fun _ i _ => r.shapes.length - (intOf i).toNat)
          case atStart => exact ⟨0, [], [], by omega, rfl, World.ownsRow_nil _ _ _ _, El.nil _ _, rfl, (fun g h => by cases h), Below.refl _ _⟩
          case round =>
            obtain ⟨k, gs, fss, hk, rfl, hO, hE, hgl, hok, hb⟩ := hrel
            rename World => wi
            rename Value => vf
            have HO := Lib.hid hO
            have HE := Lib.hid hE
            have HGL := Lib.hid hgl
            have HOK := Lib.hid hok
            have HBi := Lib.hid hb
            obtain ⟨Af, cf, rfl, hfm⟩ := own_slice hO
            clear hgl
            by_cases hkl : k < r.shapes.length
            · obtain ⟨x, hx⟩ : ∃ x, r.shapes[k]? = some x := ⟨_, List.getElem?_eq_getElem hkl⟩
              obtain ⟨A5, c5, e1, _, _, e5⟩ := HRH.out.later (by decide) (HB4.out.bt HBi.out)
              simp only [Value.slice.injEq] at e1
              obtain ⟨rfl, _, rfl⟩ := e1
              obtain ⟨bh, oh, cs5, rfl, g2, g3, vst, rfl, x1, x2, x3⟩ := e5 k x hx
              obtain ⟨Ast, cst, rfl, hstm⟩ := slR_form x2
              have HST := Lib.hid (x2.later (w' := wi) (by decide) (HB4.out.bt HBi.out))
              have y0 : wi.cell? ⟨bh, oh + k * 2, none⟩ = some (.int .i64 x.int) := g3 0 (by decide)
              have y1 : wi.cell? ⟨bh, oh + k * 2 + 1, none⟩ = some (.slice Ast x.steps.length cst) := g3 1 (by decide)
              have yl := World.block_lt_of_cell? _ _ y0
              have HKL := Lib.hid hkl
              obtain ⟨w5, hw5⟩ : ∃ w5, w5 = wi.alloc (.cells #[.int .i64 x.int, .slice Ast x.steps.length cst] 25) := ⟨_, rfl⟩
              have hb5 : Below wi.heap.size wi w5 := by rw [hw5]; exact below_alloc _ (Below.refl _ _)
              have HB5 := Lib.hid hb5
              have HST5 := Lib.hid (HST.out.later (w' := w5) (by decide) hb5)
              clear hO hE hok hb g3 e5 x2 x3 hb5 hx hfm
              go_wp2_with fail
              rw [← hw5]
              clear hw5 y0 y1 yl
              refine (type_any w5 x _ HST5.out).mono ?_
              rintro e w6 ⟨t, ds, ok, rfl, htt, hto, kb6⟩
              obtain ⟨k', s', g', c', p', n', num', A', q1', q2', rt', rfl⟩ := htt.ten
              obtain ⟨w7, hw7⟩ : ∃ w7, w7 = w6.alloc (.cells #[.int .i64 k', .int .i64 s', .bool g', .bool c', .pointer p', .int .i64 n', .int .i64 num', .slice A' q1' q2', .pointer rt'] 39) := ⟨_, rfl⟩
              have hb67 : Below w6.heap.size w6 w7 := by rw [hw7]; exact below_alloc _ (Below.refl _ _)
              have HT7 := Lib.hid (show w7.heap[w6.heap.size]? = some (.cells #[.int .i64 k', .int .i64 s', .bool g', .bool c', .pointer p', .int .i64 n', .int .i64 num', .slice A' q1' q2', .pointer rt'] 39 (0, 0)) by rw [hw7]; exact blk_new _ _)
              have HTY := Lib.hid (htt.later hb67)
              have HTO := Lib.hid hto
              have HBi7 := Lib.hid (HB5.out.bt (kb6.bt hb67))
              have HB47 := Lib.hid (HBi.out.bt HBi7.out)
              have HB7 := Lib.hid (HB4.out.bt HB47.out)
              have hK7 := blk_below HK4.out HB47.out
              have hK6 := blk_below HK4.out (HBi.out.bt (HB5.out.bt kb6))
              have r1 := blk_cell (i := 1) hK6 rfl
              have rl := blk_lt hK6
              have HK7 := Lib.hid hK7
              clear htt hto kb6 hb67 hK7 hK6
              unfold tyCells at HTY ⊢
              cases ok with
              | false =>
                go_wp2_with fail
                rw [← hw7]
                go_returns
                exact ⟨rfl, HB7.out⟩
              | true =>
                by_cases hnk : r.names.length ≤ k
                · have dnk : decide ((k : Int) ≥ (r.names.length : Int)) = true := decide_eq_true (by omega)
                  go_wp2_with fail
                  rw [← hw7]
                  go_returns
                  exact ⟨rfl, HB7.out⟩
                · have dnk : decide ((k : Int) ≥ (r.names.length : Int)) = false := decide_eq_false (by omega)
                  go_upto_region 18 with (fail)
                  rw [← hw7]
                  clear hw7 r1 rl dnk
                  -- REGION18
                  obtain ⟨nm, hnm⟩ : ∃ nm, r.names[k]? = some nm := ⟨_, List.getElem?_eq_getElem (by omega)⟩
                  obtain ⟨A6, c6, e1, _, _, e6⟩ := HRN.out.later (by decide) HB7.out
                  simp only [Value.slice.injEq] at e1
                  obtain ⟨rfl, _, rfl⟩ := e1
                  obtain ⟨bn, on, cs6, rfl, _, g3, rfl, _⟩ := e6 k nm hnm
                  have f2 : w7.cell? ⟨bn, on + k, none⟩ = some (.string nm) := by have := g3 0 (by decide); simpa using this
                  have HBN := Lib.hid (HBN0.out k (by omega) bn on rfl)
                  have f1 := blk_cell (i := 1) HK7.out rfl
                  have fl1 := blk_lt HK7.out
                  have fl2 := World.block_lt_of_cell? _ _ f2
                  have hix : (k : Int) < (r.names.length : Int) := by omega
                  clear g3 e6
                  have t0 := blk_cell (i := 0) HT7.out rfl
                  have t1 := blk_cell (i := 1) HT7.out rfl
                  have t2 := blk_cell (i := 2) HT7.out rfl
                  have t3 := blk_cell (i := 3) HT7.out rfl
                  have t4 := blk_cell (i := 4) HT7.out rfl
                  have t5 := blk_cell (i := 5) HT7.out rfl
                  have t6 := blk_cell (i := 6) HT7.out rfl
                  have t7 := blk_cell (i := 7) HT7.out rfl
                  have t8 := blk_cell (i := 8) HT7.out rfl
                  have tl := blk_lt HT7.out
                  have HFL := Lib.hid (show FldR w7 (#[.string nm, .int .i64 k', .int .i64 s', .bool g', .bool c', .pointer p', .int .i64 n', .int .i64 num', .slice A' q1' q2', .pointer rt', .int .i64 0] : Array Value).toList ⟨nm, t, 0⟩ from ⟨_, rfl, rfl, HTY.out, by unfold In64; constructor <;> simp⟩)
                  obtain ⟨i0, zz, q1, q2, q3, q4, q5⟩ := info_partsC (C := 11) (B := 104) (show (Try.prog.info? 43).map (fun i => (i.zero.map (·.cells.size), i.size, i.bytes)) = some (some 11, 11, 104) by kernel_rfl)
                  have hdr : Below w7.heap.size w7 w7.drew := Below.drew (Below.refl _ _)
                  obtain ⟨v9, w9, m1, m2, m3, m4⟩ := append_oneC (P := Try.prog) (w := w7.drew) w4.heap.size 35 43 i0 zz 11 104 Try.underlying35 q1 q2 q4 q5 q3 (by decide) (.slice Af gs.length cf) gs.length fss.flatten (own_below (own_below HO.out HBi7.out) hdr) #[.string nm, .int .i64 k', .int .i64 s', .bool g', .bool c', .pointer p', .int .i64 n', .int .i64 num', .slice A' q1' q2', .pointer rt', .int .i64 0] rfl w7.heap.size rfl (fun u hu => HFL.out.one u hu) (by have := HGL.out; unfold maxLen; omega) (by have := HGL.out; omega) HB47.out.size
                  have HRr : (Builtin.append_ #[35, 35] 35 #[.slice Af gs.length cf, .slice (some ⟨w7.heap.size, 0, none⟩) 1 1]).run Try.prog ((w7.alloc (.cells #[.string nm, .int .i64 k', .int .i64 s', .bool g', .bool c', .pointer p', .int .i64 n', .int .i64 num', .slice A' q1' q2', .pointer rt', .int .i64 0] 43)).drew) = .ok v9 w9 := m1
                  have hgr : w7.grownBy w9 (Value.slice Af gs.length cf).ownBlock := ⟨m3.os, m3.tape, m3.output, m3.size, m3.block⟩
                  have hck : ∀ (b o : Nat) (v : Value), w7.cell? ⟨b, o, none⟩ = some v → (Value.slice Af gs.length cf).ownBlock ≠ some b → w9.cell? ⟨b, o, none⟩ = some v := fun b o v h hne => (World.cell?_of_block (w := w7) (a := ⟨b, o, none⟩) (hgr.block b (World.block_lt_of_cell? _ _ h) (fun e => hne e.symm))).trans h
                  have hn1 : (Value.slice Af gs.length cf).ownBlock ≠ some wo.heap.size := fun e => by have h1 := own_lo HO.out e; have h2 := blk_lt HK4.out; omega
                  have hn2 : (Value.slice Af gs.length cf).ownBlock ≠ some bn := fun e => by have h1 := own_lo HO.out e; have h2 := HBN.out; have h3 := HB4.out.size; omega
                  have hn3 : (Value.slice Af gs.length cf).ownBlock ≠ some w6.heap.size := by
                    rcases own_blk (own_below HO.out HBi7.out) HT7.out (by decide) with e | e
                    · rw [e]; simp
                    · exact e
                  have HN := Lib.hid (show w9.ownsRow w4.heap.size 43 11 v9 (gs ++ [(⟨nm, t, 0⟩ : FldP)]).length (fss ++ [(#[.string nm, .int .i64 k', .int .i64 s', .bool g', .bool c', .pointer p', .int .i64 n', .int .i64 num', .slice A' q1' q2', .pointer rt', .int .i64 0] : Array Value).toList]).flatten by simpa using m2)
                  have HYa := Lib.hid (own_typ (own_below HO.out HBi7.out) (by decide) hgr)
                  have HE9 := Lib.hid ((HE.out.weaken (fun cs x hx => hx.keptY ((KeptY.below HBi7.out).trans HYa.out))).snoc _ ⟨nm, t, 0⟩ (HFL.out.keptY HYa.out).cells (HFL.out.keptY HYa.out))
                  have HB9 := Lib.hid (below_of_grown HB47.out (Nat.le_refl _) hgr (fun k hk => own_lo HO.out hk))
                  obtain ⟨A9, c9, rfl, _⟩ := own_slice m2
                  clear m1 m2 m3 m4 q1 q2 q3 q4 q5 hdr hgr
                  refine upto_begin 10 (fun w' => w'.cell? ⟨wo.heap.size, 1, none⟩ = some (.slice (some ⟨bn, on, none⟩) r.names.length cn) ∧ w'.cell? ⟨bn, on + k, none⟩ = some (.string nm) ∧ w'.cell? ⟨w6.heap.size, 0, none⟩ = some (.int .i64 k') ∧ w'.cell? ⟨w6.heap.size, 1, none⟩ = some (.int .i64 s') ∧ w'.cell? ⟨w6.heap.size, 2, none⟩ = some (.bool g') ∧ w'.cell? ⟨w6.heap.size, 3, none⟩ = some (.bool c') ∧ w'.cell? ⟨w6.heap.size, 4, none⟩ = some (.pointer p') ∧ w'.cell? ⟨w6.heap.size, 5, none⟩ = some (.int .i64 n') ∧ w'.cell? ⟨w6.heap.size, 6, none⟩ = some (.int .i64 num') ∧ w'.cell? ⟨w6.heap.size, 7, none⟩ = some (.slice A' q1' q2') ∧ w'.cell? ⟨w6.heap.size, 8, none⟩ = some (.pointer rt')) (by kernel_rfl) ?_ (fun hU0 => ?_)
                  · exact ⟨f1, f2, t0, t1, t2, t3, t4, t5, t6, t7, t8⟩
                  first | refine upto_run 0 (v := ?_) hU0 (by kernel_rfl) rfl (by kernel_rfl) (by kernel_rfl) (by kernel_rfl) (by kernel_rfl) (fun _ _ _ h => h) (Or.inl ⟨by rfl, ?_⟩) ?_ | fail
                  rotate_left
                  · first | (intro w _; go_simp; with_reducible rfl) | (intro w _; go_simp; done) | fail
                  try simp only [Act.put, List.setIfInBounds_toArray, List.set_cons_zero, List.set_cons_succ]
                  first | refine upto_run 1 (v := ?_) hU0 (by kernel_rfl) rfl (by kernel_rfl) (by kernel_rfl) (by kernel_rfl) (by kernel_rfl) (fun _ _ _ h => h) (Or.inl ⟨by rfl, ?_⟩) ?_ | fail
                  rotate_left
                  · first | (intro w _; go_simp; with_reducible rfl) | (intro w _; go_simp; done) | fail
                  try simp only [Act.put, List.setIfInBounds_toArray, List.set_cons_zero, List.set_cons_succ]
                  first | refine upto_read 2 (v := ?_) hU0 (by kernel_rfl) rfl (by kernel_rfl) (by kernel_rfl) (by kernel_rfl) (by kernel_rfl) (by kernel_rfl) (fun _ _ _ h => h) (Or.inl ⟨by rfl, ?_⟩) ?_ | fail
                  rotate_left
                  · first | (intro w hSw; (try dsimp only at hSw); go_simp; with_reducible rfl) | (intro w hSw; (try dsimp only at hSw); go_simp; done) | fail
                  try simp only [Act.put, List.setIfInBounds_toArray, List.set_cons_zero, List.set_cons_succ]
                  first | refine upto_run 3 (v := ?_) hU0 (by kernel_rfl) rfl (by kernel_rfl) (by kernel_rfl) (by kernel_rfl) (by kernel_rfl) (fun _ _ _ h => h) (Or.inl ⟨by rfl, ?_⟩) ?_ | fail
                  rotate_left
                  · first | (intro w _; go_simp; with_reducible rfl) | (intro w _; go_simp; done) | fail
                  try simp only [Act.put, List.setIfInBounds_toArray, List.set_cons_zero, List.set_cons_succ]
                  first | refine upto_run 4 (v := ?_) hU0 (by kernel_rfl) rfl (by kernel_rfl) (by kernel_rfl) (by kernel_rfl) (by kernel_rfl) (fun _ _ _ h => h) (Or.inl ⟨by rfl, ?_⟩) ?_ | fail
                  rotate_left
                  · first | (intro w _; go_simp; with_reducible rfl) | (intro w _; go_simp; done) | fail
                  try simp only [Act.put, List.setIfInBounds_toArray, List.set_cons_zero, List.set_cons_succ]
                  first | refine upto_read 5 (v := ?_) hU0 (by kernel_rfl) rfl (by kernel_rfl) (by kernel_rfl) (by kernel_rfl) (by kernel_rfl) (by kernel_rfl) (fun _ _ _ h => h) (Or.inl ⟨by rfl, ?_⟩) ?_ | fail
                  rotate_left
                  · first | (intro w hSw; (try dsimp only at hSw); go_simp; with_reducible rfl) | (intro w hSw; (try dsimp only at hSw); go_simp; done) | fail
                  try simp only [Act.put, List.setIfInBounds_toArray, List.set_cons_zero, List.set_cons_succ]
                  first | refine upto_read 6 (v := ?_) hU0 (by kernel_rfl) rfl (by kernel_rfl) (by kernel_rfl) (by kernel_rfl) (by kernel_rfl) (by kernel_rfl) (fun _ _ _ h => h) (Or.inl ⟨by rfl, ?_⟩) ?_ | fail
                  rotate_left
                  · first | (intro w hSw; (try dsimp only at hSw); go_simp; with_reducible rfl) | (intro w hSw; (try dsimp only at hSw); go_simp; done) | fail
                  try simp only [Act.put, List.setIfInBounds_toArray, List.set_cons_zero, List.set_cons_succ]
                  first | refine upto_run 7 (v := ?_) hU0 (by kernel_rfl) rfl (by kernel_rfl) (by kernel_rfl) (by kernel_rfl) (by kernel_rfl) (fun _ _ _ h => h) (Or.inl ⟨by rfl, ?_⟩) ?_ | fail
                  rotate_left
                  · first | (intro w _; go_simp; with_reducible rfl) | (intro w _; go_simp; done) | fail
                  try simp only [Act.put, List.setIfInBounds_toArray, List.set_cons_zero, List.set_cons_succ]
                  first | refine upto_next 8 rfl (by kernel_rfl) (fun K hK => ?_) | fail
                  go_simp
                  first | refine hK.out _ _ ?_ (fun hU1 => ?_) | (go_wp2_with fail; refine hK.out _ _ ?_ (fun hU1 => ?_)) | fail
                  · exact Or.inr ⟨laterC f1 (Below.drew (below_alloc _ (Below.refl _ _))), laterC f2 (Below.drew (below_alloc _ (Below.refl _ _))), laterC t0 (Below.drew (below_alloc _ (Below.refl _ _))), laterC t1 (Below.drew (below_alloc _ (Below.refl _ _))), laterC t2 (Below.drew (below_alloc _ (Below.refl _ _))), laterC t3 (Below.drew (below_alloc _ (Below.refl _ _))), laterC t4 (Below.drew (below_alloc _ (Below.refl _ _))), laterC t5 (Below.drew (below_alloc _ (Below.refl _ _))), laterC t6 (Below.drew (below_alloc _ (Below.refl _ _))), laterC t7 (Below.drew (below_alloc _ (Below.refl _ _))), laterC t8 (Below.drew (below_alloc _ (Below.refl _ _)))⟩
                  clear hK K
                  clear hU0
                  try simp only [Act.put, List.setIfInBounds_toArray, List.set_cons_zero, List.set_cons_succ]
                  first | refine upto_next 9 rfl (by kernel_rfl) (fun K hK => ?_) | fail
                  refine step_append_run rfl (.tmp 59) (.tmp 67) 35 rfl _ _ _ _ rfl rfl HRr ?_
                  try go_simp
                  first | refine hK.out _ _ ?_ (fun hU2 => ?_) | (go_wp2_with fail; refine hK.out _ _ ?_ (fun hU2 => ?_)) | fail
                  · exact Or.inr ⟨hck _ _ _ f1 hn1, hck _ _ _ f2 hn2, hck _ _ _ t0 hn3, hck _ _ _ t1 hn3, hck _ _ _ t2 hn3, hck _ _ _ t3 hn3, hck _ _ _ t4 hn3, hck _ _ _ t5 hn3, hck _ _ _ t6 hn3, hck _ _ _ t7 hn3, hck _ _ _ t8 hn3⟩
                  clear hK K
                  clear hU1
                  try simp only [Act.put, List.setIfInBounds_toArray, List.set_cons_zero, List.set_cons_succ]
                  first | refine upto_next 10 rfl (by kernel_rfl) (fun K hK => ?_) | fail
                  go_simp
                  first | refine hK.out _ _ ?_ (fun hU3 => ?_) | (go_wp2_with fail; refine hK.out _ _ ?_ (fun hU3 => ?_)) | fail
                  · exact Or.inl (by kernel_rfl)
                  clear hK K
                  clear hU2
                  try simp only [Act.put, List.setIfInBounds_toArray, List.set_cons_zero, List.set_cons_succ]
                  refine upto_done (by kernel_rfl) ?_ _
                  clear hck hn1 hn2 hn3 f1 f2 t0 t1 t2 t3 t4 t5 t6 t7 t8
                  go_wp2_with fail
                  have hkl := HKL.out
                  have hgl := HGL.out
                  go_roundw
                  case rel => exact ⟨k + 1, gs ++ [⟨nm, t, 0⟩], _, by omega, by go_num, HN.out, HE9.out, by simp [hgl], fun g hg => by
                    rcases List.mem_append.1 hg with hg | hg
                    · exact HOK.out g hg
                    · rw [List.mem_singleton.1 hg]; exact HTO.out, HB9.out⟩
                  case measure => simp [intOf]; omega
                  -- END18
            · have e : k = r.shapes.length := by omega
              subst e
              have hKi := blk_below HK4.out HBi.out
              have r0 := blk_cell (i := 0) hKi rfl
              have rl := blk_lt hKi
              have HTi := Lib.hid (HT.out.later (HBo4.out.bt HBi.out))
              have HBwi := Lib.hid (HB4.out.bt HBi.out)
              have HXi := Lib.hid (blk_below HXo.out (HBo4.out.bt HBi.out))
              have HADD := Lib.hid (add_any wi w.heap.size w1.heap.size tab vt css r.name _ gs HTi.out HW.out HBwi.out.size HZ1.out (HE.out.slR HO.out) HOK.out (by have := HGL.out; omega))
              clear hO hE hok hb hKi
              go_wp2_with fail
              refine HADD.out.mono ?_
              rintro e w5 ⟨i5, er5, tab5, v5, css5, rfl, hW5, hT5, hb5, hk5⟩
              have HW5 := Lib.hid hW5
              have HT5 := Lib.hid hT5
              have HB5 := Lib.hid (HBwi.out.trans hb5)
              have HX5 := Lib.hid (hk5.2 _ _ _ _ HXi.out (by decide) (by decide))
              clear hW5 hT5 hb5 hk5 r0 rl
              go_wp2_with fail
              have hlt := HLT.out
              go_roundw
              case rel => exact ⟨j + 1, tab5, v5, css5, by omega, by go_num, HT5.out, HW5.out, HX5.out, HB5.out⟩
              case measure => simp [intOf]; omega
      · have e : j = l.length := by omega
        subst e
        have x0 := blk_cell (i := 0) hX rfl
        have x1 := blk_cell (i := 1) hX rfl
        have xl := blk_lt hX
        have HTY0 := Lib.hid (type_any wo s _ (HS.out.later (by decide) hb))
        clear hT hW hX hb
        go_wp2_with fail
        refine HTY0.out.mono ?_
        rintro e w6 ⟨t, ds, ok, rfl, htt, hto, kb6⟩
        obtain ⟨k', s', g', c', p', n', num', A', q1', q2', rt', rfl⟩ := htt.ten
        obtain ⟨w7, hw7⟩ : ∃ w7, w7 = w6.alloc (.cells (tyCells k' s' g' c' p' n' num' (.slice A' q1' q2') rt').toArray 39) := ⟨_, rfl⟩
        have hb67 : Below w6.heap.size w6 w7 := by rw [hw7]; exact below_alloc _ (Below.refl _ _)
        have HT7 := Lib.hid (show w7.heap[w6.heap.size]? = some (.cells (tyCells k' s' g' c' p' n' num' (.slice A' q1' q2') rt').toArray 39 (0, 0)) by rw [hw7]; exact blk_new _ _)
        have HTY := Lib.hid (htt.later hb67)
        have HTO := Lib.hid hto
        have HTYn := Lib.hid ((htt.low (lo' := fun b => b ≠ w6.heap.size) (fun b _ hlt => by omega)).later hb67)
        have HBo7 := Lib.hid (kb6.bt hb67)
        have HB7 := Lib.hid (HBo.out.bt HBo7.out)
        have HTC := Lib.hid (HT.out.tabC.later HBo7.out)
        have HZ6 := Lib.hid (show wo.heap.size ≤ w6.heap.size from kb6.size)
        obtain ⟨n0, n1⟩ := size_bound tab HW.out.huge t hto
        obtain ⟨n, hn⟩ : ∃ n : Nat, sizeT tab t = n := ⟨(sizeT tab t).toNat, by omega⟩
        have HNN := Lib.hid hn
        have HSZ := Lib.hid (fun W hb => size_any w1.heap.size tab HW.out.huge t W _ HTO.out (HTC.out.later (w' := W) hb) (HTY.out.later hb))
        rw [hn] at n0 n1 HSZ
        unfold hugeS at n1
        unfold tyCells at HT7 HTY HTYn HSZ hw7 ⊢
        clear htt hto kb6 hb67 x0 x1 xl hn
        cases ok with
        | false =>
          go_wp2_with fail
          rw [← hw7]
          go_returns
          exact ⟨rfl, HB7.out⟩
        | true =>
          go_wp2_with fail
          rw [← hw7]
          clear hw7
          refine (HSZ.out w7 (Below.refl _ _)).mono ?_
          rintro e w8 ⟨rfl, kb8⟩
          have HB8 := Lib.hid (HB7.out.bt kb8)
          have HBo8 := Lib.hid (HBo7.out.bt kb8)
          have HTYn8 := Lib.hid (HTYn.out.later kb8)
          have HT8 := Lib.hid (blk_below HT7.out kb8)
          have HTY8 := Lib.hid (HTY.out.later kb8)
          have HTC8 := Lib.hid (HTC.out.later kb8)
          clear kb8
          by_cases hbig : 100000 < n
          · have dbig : decide ((n : Int) > 100000) = true := decide_eq_true (by omega)
            go_wp2_with fail
            go_returns
            exact ⟨rfl, HB8.out⟩
          · have dbig : decide ((n : Int) > 100000) = false := decide_eq_false (by omega)
            have HSN := Lib.hid (show n ≤ 100000 by omega)
            go_upto_if 89 with (fail)
            clear dbig hbig n0 n1 HSZ HTC HTC8 HTY HTY8 HT7 HTYn
            go_cut [] (fun wx => ∃ (t' : Ty) (ds' : List Value), wx.heap[w6.heap.size]? = some (.cells ds'.toArray 39 (0, 0)) ∧ TyC wx (fun _ => True) t' ds' ∧ OkT t' ∧ sizeT tab t' = n ∧ Below wo.heap.size wo wx)
            case first =>
              cases sec with
              | false =>
                go_wp2_with fail
                go_meet
                exact ⟨t, _, HT8.out, HTYn8.out.low (fun _ _ _ => trivial), HTO.out, HNN.out, HBo8.out⟩
              | true =>
                have c0 := blk_cell (i := 0) HT8.out rfl
                have c1 := blk_cell (i := 1) HT8.out rfl
                have c2 := blk_cell (i := 2) HT8.out rfl
                have c3 := blk_cell (i := 3) HT8.out rfl
                have c4 := blk_cell (i := 4) HT8.out rfl
                have c5 := blk_cell (i := 5) HT8.out rfl
                have c6 := blk_cell (i := 6) HT8.out rfl
                have c7 := blk_cell (i := 7) HT8.out rfl
                have c8 := blk_cell (i := 8) HT8.out rfl
                have cl9 := blk_lt HT8.out
                go_wp2_with fail
                refine (secret_any t w8 _ _ HTYn8.out).mono ?_
                rintro e w9 ⟨ds, rfl, ht9, hb9⟩
                obtain ⟨n0, n1, n2, n3, n4, n5, n6, n7, n8, n9, n10, rfl⟩ := id ht9.ten
                have HK9 := Lib.hid (blk_below HT8.out hb9)
                have HT9 := Lib.hid ht9
                have HB9 := Lib.hid (HBo8.out.bt hb9)
                have HC9 := Lib.hid cl9
                clear c0 c1 c2 c3 c4 c5 c6 c7 c8 cl9 ht9 hb9
                unfold tyCells at HT9 ⊢
                go_wp2_with (refine wpList_store_blk (by rfl) 39 _ _ (by rfl) w6.heap.size (by rfl) (by rfl) HK9.out (by rfl) (by kernel_rfl) (by kernel_rfl) ?_; intro x7 k7 hb7 hz7 ho7)
                go_meet
                have hc9 := HC9.out
                exact ⟨secT t, _, k7, (HT9.out.kept (w' := x7) (fun b h hl => ho7 b (by omega))).low (fun _ _ _ => trivial), okT_sec HTO.out, by rw [sizeT_sec]; exact HNN.out, hb7 _ _ HZ6.out HB9.out⟩
            case rest =>
              obtain ⟨t', ds', hK, hC, hO, hS, hb⟩ := hcut
              rename World => wx
              have HC := Lib.hid hC
              have HK := Lib.hid hK
              have HO := Lib.hid hO
              have HBx := Lib.hid (HBo.out.bt hb)
              have HTx := Lib.hid (HT.out.tabC.later hb)
              obtain ⟨d, hd⟩ := under_some t' hO
              have hsn := HSN.out
              have HLA := Lib.hid (labels_any wx w1.heap.size tab t' ds' HTx.out HW.out hO hC d hd n hS (by omega))
              have HSZ := Lib.hid (fun W hb => size_any w1.heap.size tab HW.out.huge t' W ds' hO (HTx.out.later (w' := W) hb) (hC.later hb))
              rw [hS] at HSZ
              have HS2 := Lib.hid hS
              have HD := Lib.hid hd
              obtain ⟨k', s', g', c', p', n', num', A', q1', q2', rt', rfl⟩ := hC.ten
              unfold tyCells at hK HLA HSZ
              have c0 := blk_cell (i := 0) hK rfl
              have c1 := blk_cell (i := 1) hK rfl
              have c2 := blk_cell (i := 2) hK rfl
              have c3 := blk_cell (i := 3) hK rfl
              have c4 := blk_cell (i := 4) hK rfl
              have c5 := blk_cell (i := 5) hK rfl
              have c6 := blk_cell (i := 6) hK rfl
              have c7 := blk_cell (i := 7) hK rfl
              have c8 := blk_cell (i := 8) hK rfl
              have cl9 := blk_lt hK
              have HKx := Lib.hid hK
              clear hC hK hO hS hb hd
              go_wp2_with fail
              refine HLA.out.mono ?_
              rintro e wy ⟨g1, rfl, hL1, hg1, kb⟩
              have HL1 := Lib.hid hL1
              have HBy := Lib.hid kb
              have hKy := blk_below HKx.out kb
              clear c0 c1 c2 c3 c4 c5 c6 c7 c8 cl9 hL1 hg1 kb
              have c0 := blk_cell (i := 0) hKy rfl
              have c1 := blk_cell (i := 1) hKy rfl
              have c2 := blk_cell (i := 2) hKy rfl
              have c3 := blk_cell (i := 3) hKy rfl
              have c4 := blk_cell (i := 4) hKy rfl
              have c5 := blk_cell (i := 5) hKy rfl
              have c6 := blk_cell (i := 6) hKy rfl
              have c7 := blk_cell (i := 7) hKy rfl
              have c8 := blk_cell (i := 8) hKy rfl
              have cl9 := blk_lt hKy
              have HKy := Lib.hid hKy
              clear hKy
              go_wp2_with fail
              refine (HSZ.out wy HBy.out).mono ?_
              rintro e wz ⟨rfl, kb⟩
              obtain ⟨w3, hr3, hL3, kb3⟩ := make_lab wz n (by omega)
              have HL3 := Lib.hid hL3
              have HL13 := Lib.hid (show LabB w3 g1 _ from blk_below HL1.out (kb.bt kb3))
              have HB3 := Lib.hid (HBy.out.bt (kb.bt kb3))
              have HG := Lib.hid (show wx.heap.size ≤ wz.heap.size by have h1 := HBy.out.size; have h2 := kb.size; omega)
              have HNE := Lib.hid (show g1 ≠ wz.heap.size by have h1 := blk_lt HL1.out; have h2 := kb.size; omega)
              have hK3 := blk_below HKy.out (kb.bt kb3)
              clear c0 c1 c2 c3 c4 c5 c6 c7 c8 cl9 hL3 kb kb3
              have c0 := blk_cell (i := 0) hK3 rfl
              have c1 := blk_cell (i := 1) hK3 rfl
              have c2 := blk_cell (i := 2) hK3 rfl
              have c3 := blk_cell (i := 3) hK3 rfl
              have c4 := blk_cell (i := 4) hK3 rfl
              have c5 := blk_cell (i := 5) hK3 rfl
              have c6 := blk_cell (i := 6) hK3 rfl
              have c7 := blk_cell (i := 7) hK3 rfl
              have c8 := blk_cell (i := 8) hK3 rfl
              have cl9 := blk_lt hK3
              clear hK3
              have hlen : (List.replicate n false).length = n := List.length_replicate
              have hpa := paint_any wx w1.heap.size wz.heap.size n tab HTx.out HW.out HG.out d t' w3 _ 0 (List.replicate n false) HO.out HD.out (HC.out.later HB3.out) HB3.out HL3.out (by rw [hlen, HS2.out]; simp) (by rw [hlen]; omega)
              rw [hlen, show (((0 : Nat) : Nat) : Int) = 0 from rfl] at hpa
              unfold tyCells at hpa
              have HPA := Lib.hid hpa
              clear hpa hlen
              go_wp2_with fail
              refine HPA.out.mono ?_
              rintro e w4 ⟨rfl, hL4, hG4⟩
              obtain ⟨M, hM⟩ : ∃ M, M = markL tab d t' 0 (List.replicate n false) := ⟨_, rfl⟩
              have hMl : M.length = n := by rw [hM, markL_length, List.length_replicate]
              rw [← hM] at hL4 HL13
              have HLA4 := Lib.hid hL4
              have HLB4 := Lib.hid (show LabB w4 g1 M from (hG4.block g1 (blk_lt HL13.out) (by simp; exact HNE.out)).trans HL13.out)
              have HB4 := Lib.hid (below_grown (HBx.out.bt HB3.out) hG4 (by have h1 := HBx.out.size; have h2 := HG.out; omega))
              have HML := Lib.hid hMl
              clear hL4 hG4 hM hMl c0 c1 c2 c3 c4 c5 c6 c7 c8 cl9
              go_wp2_with fail
              go_loopw [105] (fun i wr => ∃ j : Nat, j ≤ n ∧ i = .int .i64 j ∧ LabB wr g1 M ∧ LabB wr wz.heap.size M ∧ Below w.heap.size w wr) (fun i _ => n - (intOf i).toNat)
              case atStart => exact ⟨0, by omega, rfl, HLB4.out, HLA4.out, HB4.out⟩
              case round =>
                obtain ⟨j, hj, rfl, h1, h2, h3⟩ := hrel
                rename World => wq
                have HQ1 := Lib.hid h1
                have HQ2 := Lib.hid h2
                have HQ3 := Lib.hid h3
                by_cases hlt : j < n
                · have dlt : decide ((j : Int) < n) = true := decide_eq_true (by omega)
                  have y1 := h1.at (i := j) (by rw [HML.out]; exact hlt)
                  have y2 := h2.at (i := j) (by rw [HML.out]; exact hlt)
                  have l1 := blk_lt h1
                  have l2 := blk_lt h2
                  have HLT := Lib.hid hlt
                  clear h1 h2 h3
                  go_wp2_with fail
                  refine wp_region_over (by kernel_rfl) (by kernel_rfl) ?_
                  repeat (go_big_quiet_step (fail))
                  refine wpQuiet_nil ?_
                  intro wu kbu
                  have HU1 := Lib.hid (show LabB wu g1 M from blk_below HQ1.out kbu)
                  have HU2 := Lib.hid (show LabB wu wz.heap.size M from blk_below HQ2.out kbu)
                  have HU3 := Lib.hid (HQ3.out.bt kbu)
                  clear kbu y1 y2 l1 l2
                  go_wp2_with fail
                  have hlt := HLT.out
                  go_roundw
                  case rel => exact ⟨j + 1, by omega, by go_num, HU1.out, HU2.out, HU3.out⟩
                  case measure => simp [intOf]; omega
                · have e : j = n := by omega
                  subst e
                  clear h1 h2 h3
                  go_wp2_with fail
                  go_returns
                  exact ⟨rfl, HQ3.out⟩
end Go.Proofs.Ytpcfibnnboenhaa
