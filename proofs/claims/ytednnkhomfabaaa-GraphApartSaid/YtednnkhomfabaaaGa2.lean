/- Walks: the statements' apart. No condition. -/
import Derived.Test.YtednnkhomfabaaaGa1
namespace Go.Proofs.Ytednnkhomfabaaa
open Go.RowKit
set_option linter.unusedVariables false
set_option maxHeartbeats 4000000
noncomputable def gE (f : FuncD) (R P : Nat) : Nat → Nat → Bool := parE (iB f 0) (blE R (blkF f) (oB f) f.blocks.length) P 0
noncomputable def gM (f : FuncD) : Nat → Bool := blM (blkF f) (oB f) f.blocks.length
/-- j rows so far -/
structure ApS (w0 w : World) (gl R j : Nat) (gs : Nat → Nat) : Prop where
  bl : ∃ cs : Array Value, w.heap[gl]? = some (.cells cs 28 (0, 0)) ∧ cs.size = R ∧ ∀ i, i < j → cs[i]? = some (.slice (some ⟨gs i, 0, none⟩) R R)
  lB : w0.heap.size ≤ gl
  rows : ∀ i, i < j → BoolK w (gs i) R (fun _ => false)
  rB : ∀ i, i < j → w0.heap.size ≤ gs i
  inj : ∀ i k, i < j → k < j → i ≠ k → gs i ≠ gs k
  bel : Below w0.heap.size w0 w
theorem ApS.one {w0 w w2 : World} {gl R j : Nat} {gs : Nat → Nat} (h : ApS w0 w gl R j gs) (hj : j < R) (hb : BoolK w2 w.heap.size R (fun _ => false)) (hbel : Below w.heap.size w w2) :
    w2.cell? ⟨gl, j, none⟩ ≠ none ∧ w2.frozen? ⟨gl, j, none⟩ = false ∧ gl < w2.heap.size ∧ ApS w0 (w2.setCell ⟨gl, j, none⟩ (.slice (some ⟨w.heap.size, 0, none⟩) R R)) gl R (j + 1) (fun i => if i = j then w.heap.size else gs i) := by
  obtain ⟨cs, h1, h2, h3⟩ := h.bl
  have h1' : w2.heap[gl]? = some (.cells cs 28 (0, 0)) := (hbel.block gl (blk_lt h1)).trans h1
  have hne : gl ≠ w.heap.size := by have := blk_lt h1; omega
  have old : ∀ i, i < j → gs i < w.heap.size := fun i hi => by obtain ⟨c, e, _⟩ := h.rows i hi; exact blk_lt e
  have kp : ∀ {g : Nat} {S : Nat → Bool}, BoolK w2 g R S → BoolK (w2.setCell ⟨gl, j, none⟩ (.slice (some ⟨w.heap.size, 0, none⟩) R R)) g R S := fun {g} {S} hk => by
    refine hk.keep (Below.heap_setCell w2 ⟨gl, j, none⟩ _ g (fun e => ?_))
    obtain ⟨c, e1, _⟩ := hk
    have e' : g = gl := e
    rw [e', h1'] at e1
    simp only [Option.some.injEq, Obj.cells.injEq] at e1
    exact absurd e1.2.1 (by decide)
  refine ⟨by rw [blk_cell h1' (Array.getElem?_eq_getElem (show j < cs.size by omega))]; simp, blk_free h1', blk_lt h1', ⟨cs.setIfInBounds j (.slice (some ⟨w.heap.size, 0, none⟩) R R), by rw [blk_setCell h1' _], by simp [h2], fun i hi => ?_⟩, h.lB, fun i hi => ?_, fun i hi => ?_, fun i k hi hk hne => ?_, ?_⟩
  · by_cases e : i = j
    · subst e
      rw [if_pos rfl, Array.getElem?_setIfInBounds_self_of_lt (by omega)]
    · rw [if_neg e, Array.getElem?_setIfInBounds_ne (Ne.symm e)]
      exact h3 i (by omega)
  · by_cases e : i = j
    · rw [if_pos e]; exact kp hb
    · rw [if_neg e]
      exact kp ((h.rows i (by omega)).keep (hbel.block _ (old i (by omega))))
  · by_cases e : i = j
    · rw [if_pos e]; exact h.bel.size
    · rw [if_neg e]; exact h.rB i (by omega)
  · by_cases e : i = j
    · rw [if_pos e, if_neg (by omega)]
      have := old k (by omega); omega
    · rw [if_neg e]
      by_cases e2 : k = j
      · rw [if_pos e2]; have := old i (by omega); omega
      · rw [if_neg e2]; exact h.inj i k (by omega) (by omega) hne
  · have hbb := h.bel.trans (hbel.mono h.bel.size)
    refine ⟨hbb.os, hbb.tape, hbb.output, by simpa [World.setCell] using hbb.size, fun k hk => (Below.heap_setCell w2 ⟨gl, j, none⟩ _ k (fun e => ?_)).trans (hbb.block k hk)⟩
    have e' : k = gl := e
    have := h.lB
    omega
theorem ApS.done {w0 w w2 : World} {gl R : Nat} {gs : Nat → Nat} (h : ApS w0 w gl R R gs) (hb : BoolK w2 w.heap.size R (fun _ => false)) (hbel : Below w.heap.size w w2) : ApR w2 w0.heap.size gl w.heap.size R gs (fun _ _ => false) (fun _ => false) := by
  obtain ⟨cs, h1, h2, h3⟩ := h.bl
  have old : ∀ i, i < R → gs i < w.heap.size := fun i hi => by obtain ⟨c, e, _⟩ := h.rows i hi; exact blk_lt e
  exact ⟨⟨cs, (hbel.block gl (blk_lt h1)).trans h1, h2, h3⟩, h.lB, fun i hi => (h.rows i hi).keep (hbel.block _ (old i hi)), h.rB, h.inj, hb, h.bel.size, fun i hi e => by have := old i hi; omega⟩
def ApartR (w : World) (f : FuncD) (R P : Nat) (e : Ending) (w' : World) : Prop :=
  ∃ (B gl gm : Nat) (gs : Nat → Nat), w.heap.size ≤ B ∧ e = .returned (.tuple #[.slice (some ⟨gl, 0, none⟩) R R, .slice (some ⟨gm, 0, none⟩) R R]) ∧ ApR w' B gl gm R gs (gE f R P) (gM f) ∧ Below w.heap.size w w'
set_option maxRecDepth 100000 in
theorem apart_any (W0 w : World) (h0 : Below W0.heap.size W0 w) (f : FuncD) (R P : Nat) (hF : FnOk f R P) (A6 A7 A8 : Option Addr) (n6 n7 c6 c7 c8 : Nat) (hb : SlR W0 9 (BlockR W0) (.slice A8 f.blocks.length c8) f.blocks) (hin : ∀ b ∈ f.blocks, ∀ x ∈ b.ins, In64 x.dst) :
    Calls Try.prog 9 #[.agg #[.string f.name, .int .i64 (P : Nat), .slice A7 n7 c7, .int .i64 (R : Nat), .slice A6 n6 c6, .slice A8 f.blocks.length c8]] w (ApartR w f R P) := by
  obtain ⟨A8', c8', e8, m2, m3, hi⟩ := id hb
  cases e8
  have HI := Lib.hid hi
  have H0 := Lib.hid h0
  have HF := Lib.hid hF
  have HSB := Lib.hid hb
  have hR6 : R ≤ 1000000 := by have := hF.hR; omega
  have h0n := hF.h0n
  have hn6 := hF.hn
  have HBX := Lib.hid (below_alloc (.cells #[.string f.name, .int .i64 (P : Nat), .slice A7 n7 c7, .int .i64 (R : Nat), .slice A6 n6 c6, .slice A8 f.blocks.length c8] 32) (Below.refl w.heap.size w))
  have HFB := Lib.hid (blk_new w (.cells #[.string f.name, .int .i64 (P : Nat), .slice A7 n7 c7, .int .i64 (R : Nat), .slice A6 n6 c6, .slice A8 f.blocks.length c8] 32))
  obtain ⟨wm, hrm, hom, hbm⟩ := make_boolsK (w.alloc (.cells #[.string f.name, .int .i64 (P : Nat), .slice A7 n7 c7, .int .i64 (R : Nat), .slice A6 n6 c6, .slice A8 f.blocks.length c8] 32)) R hR6
  clear hi h0 hF m2 m3 hb
  go_enter Try.func9, Try.ntmps9
  have q3 : (w.alloc (.cells #[.string f.name, .int .i64 (P : Nat), .slice A7 n7 c7, .int .i64 (R : Nat), .slice A6 n6 c6, .slice A8 f.blocks.length c8] 32)).cell? ⟨w.heap.size, 3, none⟩ = some (.int .i64 (R : Nat)) := blk_cell HFB.out rfl
  have HFM := Lib.hid ((hbm.block _ (blk_lt HFB.out)).trans HFB.out)
  have HS0 := Lib.hid (show ApS (w.alloc (.cells #[.string f.name, .int .i64 (P : Nat), .slice A7 n7 c7, .int .i64 (R : Nat), .slice A6 n6 c6, .slice A8 f.blocks.length c8] 32)) wm (w.alloc (.cells #[.string f.name, .int .i64 (P : Nat), .slice A7 n7 c7, .int .i64 (R : Nat), .slice A6 n6 c6, .slice A8 f.blocks.length c8] 32)).heap.size R 0 (fun _ => 0) from ⟨by obtain ⟨cs, e1, e2⟩ := hom; exact ⟨cs, e1, e2, fun i hi => by omega⟩, Nat.le_refl _, fun i hi => by omega, fun i hi => by omega, fun i k hi => by omega, hbm⟩)
  obtain ⟨wa, hwa⟩ : ∃ z, z = w.alloc (.cells #[.string f.name, .int .i64 (P : Nat), .slice A7 n7 c7, .int .i64 (R : Nat), .slice A6 n6 c6, .slice A8 f.blocks.length c8] 32) := ⟨_, rfl⟩
  go_wp2_with fail
  rw [← hwa] at HBX HFB HS0
  have hgl : w.heap.size + 1 = wa.heap.size := by rw [hwa]; simp
  rw [hgl]
  obtain ⟨gf, hgf⟩ : ∃ z, z = w.heap.size := ⟨_, rfl⟩
  rw [← hgf] at HFB HFM hgl ⊢
  have HGF := Lib.hid (And.intro hgf hgl)
  clear hwa hgf hgl hrm hom hbm q3
  obtain ⟨gl, hgl⟩ : ∃ z, z = wa.heap.size := ⟨_, rfl⟩
  rw [← hgl]
  have HS0 := Lib.hid (show ApS wa wm gl R 0 (fun _ => 0) by rw [hgl]; exact HS0.out)
  have HGL := Lib.hid hgl
  clear hgl
  go_loopw [24] (fun i wr => ∃ (j : Nat) (gs : Nat → Nat), j ≤ R ∧ i = .int .i64 j ∧ ApS wa wr gl R j gs) (fun i _ => R - (intOf i).toNat)
  case atStart => exact ⟨0, _, by omega, rfl, HS0.out⟩
  case round =>
    obtain ⟨j, gs, hj, rfl, h⟩ := hrel
    have H := Lib.hid h
    have kf3 : wr.cell? ⟨gf, 3, none⟩ = some (.int .i64 (R : Nat)) := blk_cell ((h.bel.block gf (blk_lt HFB.out)).trans HFB.out) rfl
    have lf3 := World.block_lt_of_cell? _ _ kf3
    clear h HS0
    obtain ⟨wm2, hrm2, hom2, hbm2⟩ := make_boolK wr R hR6
    by_cases hlt : j < R
    · obtain ⟨cs, b1, b2, _⟩ := H.out.bl
      obtain ⟨o1, o2, o3, o4⟩ := H.out.one hlt hom2 hbm2
      have kc : wm2.cell? ⟨gl, j, none⟩ = some cs[j] := blk_cell ((hbm2.block gl (blk_lt b1)).trans b1) (Array.getElem?_eq_getElem (show j < cs.size by omega))
      have HO4 := Lib.hid o4
      clear o1 o4 b1 hom2 hbm2
      obtain ⟨cv, hcv⟩ : ∃ z, z = cs[j] := ⟨_, rfl⟩
      rw [← hcv] at kc
      clear hcv
      go_wp2_with fail
      go_roundw
      case rel => exact ⟨j + 1, _, by omega, by go_num, HO4.out⟩
      case measure => first | omega | (simp [intOf]; done) | (simp [intOf]; omega)
    · have e : R = j := by omega
      subst e
      have HA := Lib.hid (H.out.done hom2 hbm2)
      have hB3 := H.out.bel.trans (hbm2.mono H.out.bel.size)
      have HB3 := Lib.hid hB3
      have kg3 : wm2.cell? ⟨gf, 3, none⟩ = some (.int .i64 (R : Nat)) := blk_cell ((hB3.block gf (blk_lt HFB.out)).trans HFB.out) rfl
      have kg5 : wm2.cell? ⟨gf, 5, none⟩ = some (.slice A8 f.blocks.length c8) := blk_cell ((hB3.block gf (blk_lt HFB.out)).trans HFB.out) rfl
      have lg3 := World.block_lt_of_cell? _ _ kg3
      obtain ⟨gm, hgm⟩ : ∃ z, z = wr.heap.size := ⟨_, rfl⟩
      rw [← hgm] at HA hrm2
      have HGM := Lib.hid hgm
      clear hgm hom2 hbm2 hB3
      have HLc := Lib.hid (live_sets W0 wm2 (H0.out.trans ((HBX.out.trans (HB3.out.mono HBX.out.size)).mono H0.out.size)) gf 0 f _ (by rw [Nat.zero_add]; exact kg5) R (by rw [Nat.zero_add]; exact kg3) HSB.out _ rfl h0n (by omega) hR6 HF.out.hnx (fun b hb x hx => by have := HF.out.hslim b hb x hx; omega))
      go_wp2_with fail
      refine HLc.out.mono ?_
      rintro e w4 ⟨iv, ov, vs2, I, O, rfl, hLS, hLI, hLD⟩
      have HAP := Lib.hid (HA.out.more hLS.below)
      have HLI := Lib.hid (fun i hi => live_i hLS hLI hLD (i := i) hi)
      have HLO := Lib.hid (fun i hi => live_o hLS hLI hLD HF.out.hnx (i := i) hi)
      have HRO := Lib.hid (And.intro hLS.ri hLS.ro)
      have HB4 := Lib.hid (HB3.out.trans (hLS.below.mono HB3.out.size))
      obtain ⟨gi, ci, hiv, _⟩ := own_form hLS.ri h0n
      obtain ⟨go, co, hov, _⟩ := own_form hLS.ro h0n
      subst hiv hov
      have hL0a := hLS.below.size
      obtain ⟨L0, hL0⟩ : ∃ z, z = wm2.heap.size := ⟨_, rfl⟩
      obtain ⟨L1, hL1⟩ : ∃ z, z = w4.heap.size := ⟨_, rfl⟩
      rw [← hL0] at HLI HLO HRO hL0a
      have HL := Lib.hid (And.intro hL1 (And.intro (show wa.heap.size ≤ L0 by rw [hL0]; exact HB3.out.size) (show L0 ≤ L1 by rw [hL1]; exact hL0a)))
      have kh5 : w4.cell? ⟨gf, 5, none⟩ = some (.slice A8 f.blocks.length c8) := blk_cell ((HB4.out.block gf (blk_lt HFB.out)).trans HFB.out) rfl
      have lh5 := World.block_lt_of_cell? _ _ kh5
      have HAl := Lib.hid (show ∀ i, i < R → gs i < L0 from fun i hi => by rw [hL0]; exact ((HA.out.rows i hi).cell (show 0 < R by omega)).2.2)
      have HAm := Lib.hid (show 0 < R → gm < L0 from fun hi => by rw [hL0]; exact (HA.out.mem.cell hi).2.2)
      obtain ⟨wb4, hwb4⟩ : ∃ z, z = wa.heap.size := ⟨_, rfl⟩
      rw [← hwb4] at HAP HB4 HL
      have HWB := Lib.hid hwb4
      clear hLS hLI hLD HLc hL0 hL1 H HA HB3 kf3 lf3 kg3 kg5 lg3 hL0a hwb4
      obtain ⟨n, hn⟩ : ∃ n, n = f.blocks.length := ⟨_, rfl⟩
      rw [← hn] at HLI HLO HRO kh5 h0n hn6 ⊢
      have HN := Lib.hid hn
      clear hn
      have HAP0 := Lib.hid (show ApR w4 wb4 gl gm R gs (blE R (blkF f) (oB f) 0) (blM (blkF f) (oB f) 0) from HAP.out)
      have HW := Lib.hid (fun (wz : World) (hg : Gap wb4 L0 L1 w4 wz) => show Below W0.heap.size W0 wz from H0.out.trans ((HBX.out.trans ((HB4.out.trans (hg.below (by rw [HWB.out]; exact HB4.out.size))).mono (by rw [HWB.out]; exact HBX.out.size))).mono H0.out.size))
      go_wp2_with fail
      clear kh5 lh5
      go_loopw [44] (fun i wr => ∃ m : Nat, m ≤ n ∧ i = .int .i64 m ∧ ApR wr wb4 gl gm R gs (blE R (blkF f) (oB f) m) (blM (blkF f) (oB f) m) ∧ Gap wb4 L0 L1 w4 wr) (fun i _ => n - (intOf i).toNat)
      case atStart => exact ⟨0, by omega, rfl, HAP0.out, Gap.refl _ _ _ _⟩
      case round =>
        obtain ⟨m, hm, rfl, hg, hmid⟩ := hrel
        have HG1 := Lib.hid hg
        have HM1 := Lib.hid hmid
        have hw1 := HW.out _ hmid
        have HW1 := Lib.hid hw1
        clear hg hmid HAP HAP0
        by_cases hltm : m < n
        · obtain ⟨blk, hblk⟩ : ∃ b', f.blocks[m]? = some b' := ⟨_, List.getElem?_eq_getElem (by rw [← HN.out]; exact hltm)⟩
          obtain ⟨bb, bo, cs, rfl, e1, e2, vi, e3, y1, y2, t1, t2, t3, t4, t5, t6, t7, t8⟩ := HI.out m blk hblk
          subst e3
          obtain ⟨A9, cap9, rfl, _, _, h9⟩ := y1
          have H9 := Lib.hid h9
          have HT4 := Lib.hid (And.intro t3 t4)
          have HT5 := Lib.hid (And.intro t5 t6)
          have r0 := later (e2 0 (by omega)) hw1
          have r1 := later (e2 1 (by omega)) hw1
          have r2 := later (e2 2 (by omega)) hw1
          have r3 := later (e2 3 (by omega)) hw1
          have r4 := later (e2 4 (by omega)) hw1
          have r5 := later (e2 5 (by omega)) hw1
          have r6 := later (e2 6 (by omega)) hw1
          have r7 := later (e2 7 (by omega)) hw1
          have r8 := later (e2 8 (by omega)) hw1
          rw [Nat.add_zero] at r0
          have HBk := Lib.hid (blkF_of hblk)
          have hmem := List.mem_of_getElem? hblk
          have HSb := Lib.hid (And.intro (HF.out.hslim blk hmem) (And.intro (HF.out.hil blk hmem) (And.intro (HF.out.hdst blk hmem) (HF.out.htr blk hmem))))
          have hil := HSb.out.2.1
          obtain ⟨ovv, hov, hos⟩ := HLO.out m hltm
          have HOS := Lib.hid (HM1.out.set_ hos (Nat.le_refl _) (fun g hg => by rw [HL.out.1]; exact (hos.lt_ hg).2))
          have hro := HM1.out.row HRO.out.2 (Nat.le_refl _) (fun g hg => by rw [HL.out.1]; exact (HRO.out.2.lt g hg).2)
          obtain ⟨co1, _, co3⟩ := row_cell hro hltm (v := ovv) (by rw [List.getElem?_drop]; exact hov)
          obtain ⟨A3, cap3, hv3⟩ := HOS.out.slice_
          subst hv3
          have HBX' := Lib.hid (below_alloc (.cells #[.slice A9 blk.ins.length cap9, .int .i64 blk.term.kind, .int .i64 blk.term.op, .int .i64 blk.term.a.reg, .int .i64 blk.term.a.num, .int .i64 blk.term.b.reg, .int .i64 blk.term.b.num, .int .i64 blk.term.to_, .int .i64 blk.term.els] 55) (Below.refl wr.heap.size wr))
          have HBO := Lib.hid (blk_new wr (.cells #[.slice A9 blk.ins.length cap9, .int .i64 blk.term.kind, .int .i64 blk.term.op, .int .i64 blk.term.a.reg, .int .i64 blk.term.a.num, .int .i64 blk.term.b.reg, .int .i64 blk.term.b.num, .int .i64 blk.term.to_, .int .i64 blk.term.els] 55))
          have hLt : L1 ≤ wr.heap.size := by rw [HL.out.1]; exact HM1.out.size
          have HLt := Lib.hid hLt
          clear e1 e2 y2 t1 t2 t3 t4 t5 t6 t7 t8 hblk h9 hmem hov hos hro hw1 hLt
          go_wp2_with fail
          obtain ⟨wb, hwb⟩ : ∃ z, z = wr.alloc (.cells #[.slice A9 blk.ins.length cap9, .int .i64 blk.term.kind, .int .i64 blk.term.op, .int .i64 blk.term.a.reg, .int .i64 blk.term.a.num, .int .i64 blk.term.b.reg, .int .i64 blk.term.b.num, .int .i64 blk.term.to_, .int .i64 blk.term.els] 55) := ⟨_, rfl⟩
          rw [← hwb] at HBX' HBO ⊢
          obtain ⟨gk, hgk⟩ : ∃ z, z = wr.heap.size := ⟨_, rfl⟩
          rw [← hgk] at HBO ⊢
          obtain ⟨BV, hBV⟩ : ∃ z : Array Value, z = #[.slice A9 blk.ins.length cap9, .int .i64 blk.term.kind, .int .i64 blk.term.op, .int .i64 blk.term.a.reg, .int .i64 blk.term.a.num, .int .i64 blk.term.b.reg, .int .i64 blk.term.b.num, .int .i64 blk.term.to_, .int .i64 blk.term.els] := ⟨_, rfl⟩
          rw [← hBV] at HBO
          have HBV := Lib.hid hBV
          clear hwb hgk hBV
          refine (copy_b wb (HOS.out.more HBX'.out) hR6).mono ?_
          rintro e w5 ⟨sv, rfl, hs5, hb5⟩
          have HS5 := Lib.hid (hs5.base_ (Nat.le_trans HLt.out HBX'.out.size))
          have HG5 := Lib.hid ((HG1.out.more HBX'.out).more hb5)
          have HM5 := Lib.hid ((HM1.out.trans (Gap.of_below HBX'.out)).trans (Gap.of_below hb5))
          have HO5 := Lib.hid (blk_kept HBO.out (grown_of_below (r := none) hb5) (Or.inl rfl))
          have hbv := HO5.out
          rw [HBV.out] at hbv
          have k1 : w5.cell? ⟨gk, 1, none⟩ = some (.int .i64 blk.term.kind) := blk_cell hbv rfl
          have k2 : w5.cell? ⟨gk, 2, none⟩ = some (.int .i64 blk.term.op) := blk_cell hbv rfl
          have k3 : w5.cell? ⟨gk, 3, none⟩ = some (.int .i64 blk.term.a.reg) := blk_cell hbv rfl
          have k4 : w5.cell? ⟨gk, 4, none⟩ = some (.int .i64 blk.term.a.num) := blk_cell hbv rfl
          have k5 : w5.cell? ⟨gk, 5, none⟩ = some (.int .i64 blk.term.b.reg) := blk_cell hbv rfl
          have k6 : w5.cell? ⟨gk, 6, none⟩ = some (.int .i64 blk.term.b.num) := blk_cell hbv rfl
          have k7 : w5.cell? ⟨gk, 7, none⟩ = some (.int .i64 blk.term.to_) := blk_cell hbv rfl
          have k8 : w5.cell? ⟨gk, 8, none⟩ = some (.int .i64 blk.term.els) := blk_cell hbv rfl
          have hgk5 := blk_lt hbv
          clear hs5 hb5 r0 r1 r2 r3 r4 r5 r6 r7 r8 co1 co3 HBO HBX' hbv
          go_wp2_with fail
          refine (treads_new _ blk.term HT4.out HT5.out).mono ?_
          rintro e w6 ⟨v6, rfl, hv6, hb6, how⟩
          have HS6 := Lib.hid (HS5.out.more hb6)
          have HG6 := Lib.hid (HG5.out.more hb6)
          have HM6 := Lib.hid (HM5.out.trans (Gap.of_below hb6))
          have HO6 := Lib.hid (blk_kept HO5.out (grown_of_below (r := none) hb6) (Or.inl rfl))
          have HV6 := Lib.hid (And.intro hv6 (show readsT blk.term = [] ∨ v6.ownBlock ≠ sv.ownBlock by
            rcases how with rfl | ⟨b9, n9, xs9, ho9⟩
            · exact Or.inl (hv6.nil_of rfl)
            · obtain ⟨n0, xs0, o0⟩ := HS6.out.own_
              rcases own_ne ho9 o0 (by decide) with h | h
              · exact Or.inl (hv6.nil_of h)
              · exact Or.inr h))
          have hlen2 : (readsT blk.term).length ≤ 2 := by
            unfold readsT
            split
            · simp
            · split <;> simp
          obtain ⟨A4, cap4, hv5, _⟩ := id hv6
          subst hv5
          clear k1 k2 k3 k4 k5 k6 k7 k8 hgk5 hv6 hb6 how HS5 HG5 HM5 HO5 HG1 HM1
          obtain ⟨al, hal2⟩ : ∃ z, z = readsT blk.term := ⟨_, rfl⟩
          have HRD := Lib.hid HSb.out.2.2.2
          rw [← hal2] at HV6 HRD hlen2 ⊢
          have HAL := Lib.hid hal2
          obtain ⟨q, hq⟩ : ∃ q, q = al.length := ⟨_, rfl⟩
          rw [← hq] at HV6 hlen2 ⊢
          have HQ := Lib.hid hq
          clear hal2 hq
          go_wp2_with fail
          go_loopw [58] (fun i wr => ∃ k : Nat, k ≤ q ∧ i = .int .i64 k ∧ ApR wr wb4 gl gm R gs (blE R (blkF f) (oB f) m) (blM (blkF f) (oB f) m) ∧ SetB wr L1 sv R (useF (oB f m) (al.take k)) ∧ Gap wb4 L0 L1 w4 wr ∧ w6.grownBy wr sv.ownBlock) (fun i _ => q - (intOf i).toNat)
          case atStart => exact ⟨0, by omega, rfl, HG6.out, HS6.out.congr (fun r _ => by simp [useF, useB]), HM6.out, grownBy_refl _ _⟩
          case round =>
            obtain ⟨k, hk, rfl, h5, hs5, hm5, hgr5⟩ := hrel
            have HG7 := Lib.hid h5
            have HS7 := Lib.hid hs5
            have HM7 := Lib.hid hm5
            have HR7 := Lib.hid hgr5
            have hv6 := HV6.out.1.grown hgr5 HV6.out.2
            clear h5 hs5 hm5 hgr5
            by_cases hltk : k < q
            · have hlk : k < al.length := by rw [← HQ.out]; exact hltk
              obtain ⟨a, ha⟩ : ∃ a, al[k]? = some a := ⟨_, List.getElem?_eq_getElem hlk⟩
              obtain ⟨A6, cap6, e6, _, _, hv7⟩ := hv6
              cases e6
              obtain ⟨lb, lo, cs, rfl, e1, e2, e3, e4, e5⟩ := hv7 k a ha
              subst e3
              have q0 := e2 0 (by omega)
              have q1 := e2 1 (by omega)
              rw [Nat.add_zero] at q0
              have hb0 := World.block_lt_of_cell? _ _ q0
              have HR := Lib.hid (HRD.out a (List.mem_of_getElem? ha))
              have HT2 := Lib.hid (useF_take (oB f m) ha)
              have HAB := Lib.hid (below_alloc (.cells #[.int .i64 a.reg, .int .i64 a.num] 51) (Below.refl wr.heap.size wr))
              have HSa := Lib.hid (HS7.out.more HAB.out)
              have HPut := Lib.hid (put_b _ a.reg HSa.out hR6 HR.out.2)
              obtain ⟨rg, hrg⟩ : ∃ z, z = a.reg := ⟨_, rfl⟩
              obtain ⟨num, hnum⟩ : ∃ z, z = a.num := ⟨_, rfl⟩
              rw [← hrg, ← hnum] at HPut HAB HSa
              rw [← hrg] at q0 HT2
              rw [← hnum] at q1
              clear e1 e2 e4 e5 hlk ha hv7 hrg hnum
              go_wp2_with fail
              refine HPut.out.mono ?_
              rintro e w9 ⟨rfl, hs9, hg9⟩
              obtain ⟨n0, xs0, o0⟩ := HSa.out.own_
              have H9' := Lib.hid ((HG7.out.more HAB.out).kept hg9 o0 (by decide) (by decide))
              have HS9 := Lib.hid hs9
              have HM9 := Lib.hid (HM7.out.trans ((Gap.of_below HAB.out).trans (Gap.of_grown hg9 (fun j hj => by
                have := (HSa.out.lt_ hj).1
                have := HL.out.2.1
                have := HL.out.2.2
                exact ⟨by omega, Or.inr (by assumption)⟩))))
              have HR9 := Lib.hid (grown_trans HR7.out (grown_trans (grown_of_below (r := sv.ownBlock) HAB.out) hg9))
              clear hs9 hg9 q0 q1 hb0 o0 HPut
              go_wp2_with fail
              go_roundw
              case rel => exact ⟨k + 1, by omega, by go_num, H9'.out, by rw [HT2.out]; exact HS9.out, HM9.out, HR9.out⟩
              case measure => first | omega | (simp [intOf]; done) | (simp [intOf]; omega)
            · have e : q = k := by omega
              subst e
              have hbx := blk_kept HO6.out HR7.out (by
                obtain ⟨n0, xs0, o0⟩ := HS6.out.own_
                exact own_blk o0 HO6.out (by decide))
              have HO8 := Lib.hid hbx
              have hbv := hbx
              rw [HBV.out] at hbv
              have k0 : wr.cell? ⟨gk, 0, none⟩ = some (.slice A9 blk.ins.length cap9) := blk_cell hbv rfl
              have hgk7 := blk_lt hbv
              have HS0 := Lib.hid (show endS (blkF f) (oB f) m = useF (oB f m) al by unfold endS; rw [HBk.out, HAL.out])
              have HS8 := Lib.hid (show SetB wr L1 sv R (endS (blkF f) (oB f) m) by
                have := HS7.out
                rw [HQ.out, List.take_length] at this
                rw [HS0.out]; exact this)
              have HG8 := Lib.hid HG7.out
              have HM8 := Lib.hid HM7.out
              clear hbx hbv hv6 HG7 HS7 HG6 HS6 HV6 HM6 HR7 HO6 hlen2 HRD HM7
              obtain ⟨S0, hS0⟩ : ∃ z, z = endS (blkF f) (oB f) m := ⟨_, rfl⟩
              obtain ⟨E0, hE0⟩ : ∃ z, z = blE R (blkF f) (oB f) m := ⟨_, rfl⟩
              obtain ⟨M0, hM0⟩ : ∃ z, z = blM (blkF f) (oB f) m := ⟨_, rfl⟩
              rw [← hS0] at HS8
              rw [← hE0, ← hM0] at HG8
              have HEQ := Lib.hid (And.intro hS0 (And.intro hE0 hM0))
              clear hS0 hE0 hM0
              go_wp2_with fail
              go_loopw [14] (fun s wr => ∃ j : Nat, j ≤ blk.ins.length ∧ s = .int .i64 ((j : Int) - 1) ∧ ApR wr wb4 gl gm R gs (bsE R S0 E0 (blk.ins.drop j)) (bsM S0 M0 (blk.ins.drop j)) ∧ SetB wr L1 sv R (bsS S0 (blk.ins.drop j)) ∧ Gap wb4 L0 L1 w4 wr ∧ wr.heap[gk]? = some (.cells BV 55 (0, 0))) (fun s _ => (intOf s + 1).toNat)
              case atStart => exact ⟨blk.ins.length, Nat.le_refl _, rfl, by rw [List.drop_length]; exact HG8.out, by rw [List.drop_length]; exact HS8.out, HM8.out, HO8.out⟩
              case round =>
                obtain ⟨j, hj, rfl, h5, hs5, hm5, hbx⟩ := hrel
                have HG9 := Lib.hid h5
                have HS9 := Lib.hid hs5
                have HM9 := Lib.hid hm5
                have HO9 := Lib.hid hbx
                rw [HBV.out] at hbx
                have k0 : wr.cell? ⟨gk, 0, none⟩ = some (.slice A9 blk.ins.length cap9) := blk_cell hbx rfl
                have hgk9 := blk_lt hbx
                clear h5 hs5 hm5 hbx HG8 HS8 HM8 HO8
                rcases Nat.eq_zero_or_pos j with e | e
                · subst e
                  have HF1 := Lib.hid (show ApR wr wb4 gl gm R gs (blE R (blkF f) (oB f) (m + 1)) (blM (blkF f) (oB f) (m + 1)) by
                    have := HG9.out
                    rw [List.drop_zero, HEQ.out.1, HEQ.out.2.1, HEQ.out.2.2] at this
                    show ApR wr wb4 gl gm R gs (bsE R (endS (blkF f) (oB f) m) (blE R (blkF f) (oB f) m) (blkF f m).ins) (bsM (endS (blkF f) (oB f) m) (blM (blkF f) (oB f) m) (blkF f m).ins)
                    rw [HBk.out]
                    exact this)
                  go_wp2_with fail
                  go_roundw
                  case rel => exact ⟨m + 1, by omega, by go_num, HF1.out, HM9.out⟩
                  case measure => first | omega | (simp [intOf]; done) | (simp [intOf]; omega)
                · obtain ⟨j, rfl⟩ : ∃ j', j = j' + 1 := ⟨j - 1, by omega⟩
                  clear e
                  have hjq : (((j + 1 : Nat) : Int) - 1) = (j : Nat) := by omega
                  rw [hjq]
                  clear hjq
                  have hqi : j < blk.ins.length := by omega
                  obtain ⟨x, hx⟩ : ∃ x, blk.ins[j]? = some x := ⟨_, List.getElem?_eq_getElem hqi⟩
                  obtain ⟨ib, io, cs, hA9, e1, e2, va, e3, u1, u2, u3, u4, u5, u6, u7, u8, u9, u10, u11⟩ := H9.out j x hx
                  subst e3
                  have h08 := HW.out _ HM9.out
                  have r0 := later (e2 0 (by omega)) h08
                  have r1 := later (e2 1 (by omega)) h08
                  have r2 := later (e2 2 (by omega)) h08
                  have r3 := later (e2 3 (by omega)) h08
                  have r4 := later (e2 4 (by omega)) h08
                  have r5 := later (e2 5 (by omega)) h08
                  have r6 := later (e2 6 (by omega)) h08
                  have r7 := later (e2 7 (by omega)) h08
                  have r8 := later (e2 8 (by omega)) h08
                  have r9 := later (e2 9 (by omega)) h08
                  have r10 := later (e2 10 (by omega)) h08
                  have r11 := later (e2 11 (by omega)) h08
                  rw [Nat.add_zero] at r0
                  have HVA := Lib.hid (And.intro u10 (u10.blk (by decide)))
                  have hxm := List.mem_of_getElem? hx
                  have HXf := Lib.hid (And.intro (HSb.out.2.2.1 x hxm) (HSb.out.1 x hxm))
                  have HIn := Lib.hid (And.intro u1 (And.intro u2 (And.intro (And.intro u3 u4) (And.intro u5 u6))))
                  have HDr := Lib.hid (drop_cons hx)
                  subst hA9
                  obtain ⟨A5, cap5, rfl, _, _, _⟩ := u10
                  have HXX := Lib.hid (below_alloc (.cells #[.int .i64 x.op, .int .i64 x.dst, .int .i64 x.a.reg, .int .i64 x.a.num, .int .i64 x.b.reg, .int .i64 x.b.num, .int .i64 x.size, .bool x.signed, .bool x.secret, .int .i64 x.ref, .int .i64 x.off, .slice A5 x.args.length cap5] 58) (Below.refl wr.heap.size wr))
                  have HXO := Lib.hid (blk_new wr (.cells #[.int .i64 x.op, .int .i64 x.dst, .int .i64 x.a.reg, .int .i64 x.a.num, .int .i64 x.b.reg, .int .i64 x.b.num, .int .i64 x.size, .bool x.signed, .bool x.secret, .int .i64 x.ref, .int .i64 x.off, .slice A5 x.args.length cap5] 58))
                  have kf3 : wr.cell? ⟨gf, 3, none⟩ = some (.int .i64 (R : Nat)) := blk_cell ((((HB4.out.trans (HM9.out.below (by rw [HWB.out]; exact HB4.out.size))).block gf (by rw [HWB.out]; exact blk_lt HFB.out))).trans HFB.out) rfl
                  have lf3 := World.block_lt_of_cell? _ _ kf3
                  clear e1 e2 hx hxm u1 u2 u3 u4 u5 u6 u7 u8 u9 u11 h08
                  go_wp2_with fail
                  clear r0 r1 r2 r3 r4 r5 r6 r7 r8 r9 r10 r11 k0 hgk9 kf3 lf3
                  obtain ⟨wx, hwx⟩ : ∃ z, z = wr.alloc (.cells #[.int .i64 x.op, .int .i64 x.dst, .int .i64 x.a.reg, .int .i64 x.a.num, .int .i64 x.b.reg, .int .i64 x.b.num, .int .i64 x.size, .bool x.signed, .bool x.secret, .int .i64 x.ref, .int .i64 x.off, .slice A5 x.args.length cap5] 58) := ⟨_, rfl⟩
                  rw [← hwx] at HXX HXO ⊢
                  obtain ⟨gx, hgx⟩ : ∃ z, z = wr.heap.size := ⟨_, rfl⟩
                  rw [← hgx] at HXO ⊢
                  obtain ⟨XV, hXV⟩ : ∃ z : Array Value, z = #[.int .i64 x.op, .int .i64 x.dst, .int .i64 x.a.reg, .int .i64 x.a.num, .int .i64 x.b.reg, .int .i64 x.b.num, .int .i64 x.size, .bool x.signed, .bool x.secret, .int .i64 x.ref, .int .i64 x.off, .slice A5 x.args.length cap5] := ⟨_, rfl⟩
                  rw [← hXV] at HXO
                  have HXV := Lib.hid hXV
                  have HG10 := Lib.hid (HG9.out.more HXX.out)
                  have HS10 := Lib.hid (HS9.out.more HXX.out)
                  have HM10 := Lib.hid (HM9.out.trans (Gap.of_below HXX.out))
                  have HO10 := Lib.hid (blk_kept HO9.out (grown_of_below (r := none) HXX.out) (Or.inl rfl))
                  obtain ⟨S1, hS1⟩ : ∃ z, z = bsS S0 (blk.ins.drop (j + 1)) := ⟨_, rfl⟩
                  obtain ⟨E1, hE1⟩ : ∃ z, z = bsE R S0 E0 (blk.ins.drop (j + 1)) := ⟨_, rfl⟩
                  obtain ⟨M1, hM1⟩ : ∃ z, z = bsM S0 M0 (blk.ins.drop (j + 1)) := ⟨_, rfl⟩
                  rw [← hS1] at HS10
                  rw [← hE1, ← hM1] at HG10
                  have HEQ1 := Lib.hid (And.intro hS1 (And.intro hE1 hM1))
                  clear hwx hgx hXV hS1 hE1 hM1 HG9 HS9 HM9 HO9
                  go_loopw [82] (fun i wr => ∃ k : Nat, k ≤ R ∧ i = .int .i64 k ∧ ApR wr wb4 gl gm R gs (insEk k S1 x E1) (insMk k S1 x M1) ∧ SetB wr L1 sv R S1 ∧ Gap wb4 L0 L1 w4 wr ∧ wr.heap[gk]? = some (.cells BV 55 (0, 0)) ∧ wr.heap[gx]? = some (.cells XV 58 (0, 0))) (fun i _ => R - (intOf i).toNat)
                  case atStart => exact ⟨0, by omega, rfl, HG10.out.congr (fun a b _ _ => (insEk_zero S1 x E1 a b).symm) (fun r _ => (insMk_zero S1 x M1 r).symm), HS10.out, HM10.out, HO10.out, HXO.out⟩
                  case round =>
                    obtain ⟨k, hk, rfl, h5, hs5, hm5, hb5, hx5⟩ := hrel
                    have HG11 := Lib.hid h5
                    have HS11 := Lib.hid hs5
                    have HM11 := Lib.hid hm5
                    have HO11 := Lib.hid hb5
                    have HX11 := Lib.hid hx5
                    rw [HXV.out] at hx5
                    clear h5 hs5 hm5 hb5 HG10 HS10 HM10 HO10
                    by_cases hltk : k < R
                    · have HH := Lib.hid (has_b wr k HS11.out hR6 hltk)
                      have kx0 : wr.cell? ⟨gx, 0, none⟩ = some (.int .i64 x.op) := blk_cell hx5 rfl
                      have kx1 : wr.cell? ⟨gx, 1, none⟩ = some (.int .i64 x.dst) := blk_cell hx5 rfl
                      have kx2 : wr.cell? ⟨gx, 2, none⟩ = some (.int .i64 x.a.reg) := blk_cell hx5 rfl
                      have lx := blk_lt hx5
                      obtain ⟨op, hop⟩ : ∃ z, z = x.op := ⟨_, rfl⟩
                      obtain ⟨ds, hds⟩ : ∃ z, z = x.dst := ⟨_, rfl⟩
                      obtain ⟨rg, hrg⟩ : ∃ z, z = x.a.reg := ⟨_, rfl⟩
                      rw [← hop] at kx0
                      rw [← hds] at kx1
                      rw [← hrg] at kx2
                      have HOP := Lib.hid (And.intro hop (And.intro hds hrg))
                      obtain ⟨sk, hsk⟩ : ∃ z, z = S1 k := ⟨_, rfl⟩
                      have HH2 := HH.out
                      rw [← hsk] at HH2
                      have HH := Lib.hid HH2
                      have HSK := Lib.hid hsk
                      clear hsk HH2 hx5 hop hds hrg
                      cases sk
                      · have HN1 := Lib.hid (insEk_no k S1 x E1 (by rw [evB_cpd, ← HSK.out]; simp))
                        have HN2 := Lib.hid (insMk_no k S1 x M1 (by rw [← HSK.out]; simp))
                        go_wp2_with fail
                        refine HH.out.mono ?_
                        rintro e w7 ⟨rfl, rfl⟩
                        go_wp2_with fail
                        go_roundw
                        case rel => exact ⟨k + 1, by omega, by go_num, HG11.out.congr (fun a b _ _ => (HN1.out a b).symm) (fun r _ => (HN2.out r).symm), HS11.out, HM11.out, HO11.out, HX11.out⟩
                        case measure => first | omega | (simp [intOf]; done) | (simp [intOf]; omega)
                      · by_cases hd : (k : Int) = ds
                        · have b1 : ((k : Int) == ds) = true := by simpa using hd
                          have HN1 := Lib.hid (insEk_no k S1 x E1 (by rw [evB_cpd, ← HOP.out.2.1, decide_eq_true hd.symm]; simp))
                          have HN2 := Lib.hid (insMk_no k S1 x M1 (by rw [← HOP.out.2.1, decide_eq_true hd.symm]; simp))
                          clear hd
                          go_wp2_with fail
                          refine HH.out.mono ?_
                          rintro e w7 ⟨rfl, rfl⟩
                          go_wp2_with fail
                          go_roundw
                          case rel => exact ⟨k + 1, by omega, by go_num, HG11.out.congr (fun a b _ _ => (HN1.out a b).symm) (fun r _ => (HN2.out r).symm), HS11.out, HM11.out, HO11.out, HX11.out⟩
                          case measure => first | omega | (simp [intOf]; done) | (simp [intOf]; omega)
                        · have b1 : ((k : Int) == ds) = false := by simpa using hd
                          have HKD := Lib.hid (show x.dst ≠ (k : Int) by rw [← HOP.out.2.1]; exact fun e => hd e.symm)
                          clear hd
                          go_wp2_with fail
                          refine HH.out.mono ?_
                          rintro e w7 ⟨rfl, rfl⟩
                          go_upto_region 26 with (fail)
                          go_cut [102] (fun z wy => z = .bool (callB x) ∧ wy = wr)
                          case first =>
                            by_cases h1 : op = 28
                            · have b28 : (op == 28) = true := by simpa using h1
                              have HC := Lib.hid (show callB x = true by unfold callB; rw [← HOP.out.1, decide_eq_true h1]; rfl)
                              clear h1
                              go_wp2_with fail
                              go_meet
                              exact ⟨by rw [HC.out], rfl⟩
                            · have b28 : (op == 28) = false := by simpa using h1
                              by_cases h2 : op = 29
                              · have b29 : (op == 29) = true := by simpa using h2
                                have HC := Lib.hid (show callB x = true by unfold callB; rw [← HOP.out.1, decide_eq_true h2]; simp)
                                clear h1 h2
                                go_wp2_with fail
                                go_meet
                                exact ⟨by rw [HC.out], rfl⟩
                              · have b29 : (op == 29) = false := by simpa using h2
                                have HC := Lib.hid (show callB x = false by unfold callB; rw [← HOP.out.1, decide_eq_false h1, decide_eq_false h2]; rfl)
                                clear h1 h2
                                go_wp2_with fail
                                go_meet
                                exact ⟨by rw [HC.out], rfl⟩
                          case rest =>
                            obtain ⟨rfl, rfl⟩ := hcut
                            go_upto_if 102 with (fail)
                            go_cut [] (fun wy => ApR wy wb4 gl gm R gs (insEk k S1 x E1) (insMk (k + 1) S1 x M1) ∧ SetB wy L1 sv R S1 ∧ Gap wb4 L0 L1 w4 wy ∧ wy.heap[gk]? = some (.cells BV 55 (0, 0)) ∧ wy.heap[gx]? = some (.cells XV 58 (0, 0)))
                            case first =>
                              obtain ⟨cb, hcb⟩ : ∃ z, z = callB x := ⟨_, rfl⟩
                              rw [← hcb]
                              have HCB := Lib.hid hcb
                              clear hcb
                              cases cb
                              · have HN2 := Lib.hid (insMk_no k S1 x M1 (by rw [← HCB.out]; simp))
                                go_wp2_with fail
                                go_meet
                                exact ⟨HG11.out.congr (fun _ _ _ _ => rfl) (fun r _ => (HN2.out r).symm), HS11.out, HM11.out, HO11.out, HX11.out⟩
                              · obtain ⟨km, kmf, kml⟩ := HG11.out.mem.cell hltk
                                have V := HG11.out.setM hltk true
                                have HV1 := Lib.hid (V.1.congr (fun _ _ _ _ => rfl) (fun r _ => show (if r = k then true else insMk k S1 x M1 r) = insMk (k + 1) S1 x M1 r by rw [insMk_yes k S1 x M1 HCB.out.symm HSK.out.symm HKD.out]; by_cases e : r = k <;> simp [e]))
                                obtain ⟨csm, hm1, _, _⟩ := HG11.out.mem
                                obtain ⟨n0, xs0, o0⟩ := HS11.out.own_
                                have HV2 := Lib.hid (HS11.out.kept V.2 (own_blk o0 hm1 (by decide)))
                                have HV3 := Lib.hid (HM11.out.trans (Gap.of_grown V.2 (fun j hj => by cases hj; exact ⟨HG11.out.mB, Or.inl (HAm.out (by omega))⟩)))
                                have HV4 := Lib.hid (blk_kept HO11.out V.2 (Or.inr (fun e => by
                                  simp only [Option.some.injEq] at e
                                  have := HO11.out
                                  rw [← e, hm1] at this
                                  simp only [Option.some.injEq, Obj.cells.injEq] at this
                                  exact absurd this.2.1 (by decide))))
                                have HV5 := Lib.hid (blk_kept HX11.out V.2 (Or.inr (fun e => by
                                  simp only [Option.some.injEq] at e
                                  have := HX11.out
                                  rw [← e, hm1] at this
                                  simp only [Option.some.injEq, Obj.cells.injEq] at this
                                  exact absurd this.2.1 (by decide))))
                                clear V hm1 o0
                                go_wp2_with fail
                                go_meet
                                exact ⟨HV1.out, HV2.out, HV3.out, HV4.out, HV5.out⟩
                            case rest =>
                              rename_i wold
                              obtain ⟨h6, hs6, hm6, hb6, hx6⟩ := hcut
                              have HG12 := Lib.hid h6
                              have HS12 := Lib.hid hs6
                              have HM12 := Lib.hid hm6
                              have HO12 := Lib.hid hb6
                              have HX12 := Lib.hid hx6
                              rw [HXV.out] at hx6
                              have ky0 := blk_cell (i := 0) (v := .int .i64 x.op) hx6 rfl
                              have ky1 := blk_cell (i := 1) (v := .int .i64 x.dst) hx6 rfl
                              have ky2 := blk_cell (i := 2) (v := .int .i64 x.a.reg) hx6 rfl
                              have ly := blk_lt hx6
                              rw [← HOP.out.1] at ky0
                              rw [← HOP.out.2.1] at ky1
                              rw [← HOP.out.2.2] at ky2
                              clear h6 hs6 hm6 hb6 hx6 HG11 HS11 HM11 HO11 HX11 HH kx0 kx1 kx2 lx
                              by_cases hd0 : 0 ≤ ds
                              · obtain ⟨d, hdd⟩ : ∃ d : Nat, ds = d := ⟨ds.toNat, by omega⟩
                                subst hdd
                                have hdR : d < R := by have := HXf.out.1.1.2; rw [← HOP.out.2.1] at this; omega
                                have d0 : decide ((0 : Int) ≤ (d : Int)) = true := decide_eq_true (by omega)
                                have hdk : d ≠ k := fun e => HKD.out (by rw [← HOP.out.2.1, e])
                                clear hd0
                                by_cases hcp : op = 2 ∧ rg = (k : Int)
                                · have b2 : (op == 2) = true := by simpa using hcp.1
                                  have b3 : (rg == (k : Int)) = true := by simpa using hcp.2
                                  have HN1 := Lib.hid (insEk_no k S1 x E1 (by unfold evB; rw [← HOP.out.1, ← HOP.out.2.2, decide_eq_true hcp.1, decide_eq_true hcp.2]; simp))
                                  clear hcp
                                  go_wp2_with fail
                                  go_roundw
                                  case rel => exact ⟨k + 1, by omega, by go_num, HG12.out.congr (fun a b _ _ => (HN1.out a b).symm) (fun r _ => rfl), HS12.out, HM12.out, HO12.out, HX12.out⟩
                                  case measure => first | omega | (simp [intOf]; done) | (simp [intOf]; omega)
                                · have HCP := Lib.hid (show cpd x ≠ (k : Int) by
                                    unfold cpd
                                    rw [← HOP.out.1, ← HOP.out.2.2]
                                    by_cases e : op = 2
                                    · rw [if_pos e]; exact fun h => hcp ⟨e, h⟩
                                    · rw [if_neg e]; omega)
                                  have V := HG12.out.edge hdR hltk hdk
                                  have HV1 := Lib.hid (V.congr (fun a b _ _ => insEk_yes k d S1 x E1 HOP.out.2.1.symm HSK.out.symm HCP.out a b) (fun _ _ => rfl))
                                  have V1 := (HG12.out.setE hdR hltk true)
                                  have V2 := (V1.1.setE hltk hdR true)
                                  obtain ⟨cs1, hd1, _, _⟩ := HG12.out.rows d hdR
                                  obtain ⟨cs2, hd2, _, _⟩ := V1.1.rows k hltk
                                  obtain ⟨n0, xs0, o0⟩ := HS12.out.own_
                                  have hs1 := HS12.out.kept V1.2 (own_blk o0 hd1 (by decide))
                                  obtain ⟨n1, xs1, o1⟩ := hs1.own_
                                  have HV2 := Lib.hid (hs1.kept V2.2 (own_blk o1 hd2 (by decide)))
                                  have HV3 := Lib.hid (HM12.out.trans ((Gap.of_grown V1.2 (fun j hj => by cases hj; exact ⟨HG12.out.rB d hdR, Or.inl (HAl.out d hdR)⟩)).trans (Gap.of_grown V2.2 (fun j hj => by cases hj; exact ⟨HG12.out.rB k hltk, Or.inl (HAl.out k hltk)⟩))))
                                  have ho1 := blk_kept HO12.out V1.2 (nb_ HO12.out (by decide) hd1)
                                  have HV4 := Lib.hid (blk_kept ho1 V2.2 (nb_ ho1 (by decide) hd2))
                                  have hx1 := blk_kept HX12.out V1.2 (nb_ HX12.out (by decide) hd1)
                                  have HV5 := Lib.hid (blk_kept hx1 V2.2 (nb_ hx1 (by decide) hd2))
                                  have hne1 : gs d ≠ gs k := HG12.out.inj d k hdR hltk hdk
                                  have hne2 : gs k ≠ gs d := fun e => hne1 e.symm
                                  obtain ⟨kl1, kl2⟩ := HG12.out.cellL hdR
                                  obtain ⟨km1, _⟩ := HG12.out.cellL hltk
                                  obtain ⟨kr1, kr2, kr3⟩ := (HG12.out.rows d hdR).cell hltk
                                  obtain ⟨kr4, kr5, kr6⟩ := (HG12.out.rows k hltk).cell hdR
                                  have hgx1 : gx ≠ gs d := fun e => by rcases nb_ HX12.out (by decide) hd1 with h | h; cases h; exact h (by rw [e])
                                  have hgl1 : gl ≠ gs d := fun e => HG12.out.nl hdR e.symm
                                  have hgl2 : gl ≠ gs k := fun e => HG12.out.nl hltk e.symm
                                  obtain ⟨g1, hg1⟩ : ∃ z, z = gs d := ⟨_, rfl⟩
                                  obtain ⟨g2, hg2⟩ : ∃ z, z = gs k := ⟨_, rfl⟩
                                  rw [← hg1] at hne1 hne2 kl1 kr1 kr2 kr3 hgx1 hgl1 HV1 HV2 HV3 HV4 HV5
                                  rw [← hg2] at hne1 hne2 km1 kr4 kr5 kr6 hgl2 HV1 HV2 HV3 HV4 HV5
                                  clear V V1 V2 hd1 hd2 o0 o1 hs1 ho1 hx1 hdk hg1 hg2
                                  by_cases ho : op = 2
                                  · have b2 : (op == 2) = true := by simpa using ho
                                    have b3 : (rg == (k : Int)) = false := by simpa using fun h => hcp ⟨ho, h⟩
                                    clear hcp ho
                                    go_wp2_with fail
                                    go_region
                                    all_goals go_wp2_with fail
                                    all_goals go_roundw
                                    all_goals first | exact ⟨k + 1, by omega, by go_num, HV1.out.more (drew_below' _), HV2.out.more (drew_below' _), HV3.out.trans (Gap.of_below (drew_below' _)), HV4.out, HV5.out⟩ | (simp [intOf]; omega)
                                  · have b2 : (op == 2) = false := by simpa using ho
                                    clear hcp ho
                                    go_wp2_with fail
                                    go_region
                                    all_goals go_wp2_with fail
                                    all_goals go_roundw
                                    all_goals first | exact ⟨k + 1, by omega, by go_num, HV1.out.more (drew_below' _), HV2.out.more (drew_below' _), HV3.out.trans (Gap.of_below (drew_below' _)), HV4.out, HV5.out⟩ | (simp [intOf]; omega)
                              · have d0 : decide ((0 : Int) ≤ ds) = false := decide_eq_false hd0
                                have HN1 := Lib.hid (fun a b => (insEk_neg (k + 1) S1 x E1 (by rw [← HOP.out.2.1]; omega) a b).trans (insEk_neg k S1 x E1 (by rw [← HOP.out.2.1]; omega) a b).symm)
                                clear hd0
                                go_wp2_with fail
                                go_roundw
                                case rel => exact ⟨k + 1, by omega, by go_num, HG12.out.congr (fun a b _ _ => (HN1.out a b).symm) (fun r _ => rfl), HS12.out, HM12.out, HO12.out, HX12.out⟩
                                case measure => first | omega | (simp [intOf]; done) | (simp [intOf]; omega)
                    · have e : R = k := by omega
                      subst e
                      have c0 : wr.cell? ⟨gx, 0, none⟩ = some (.int .i64 x.op) := blk_cell hx5 rfl
                      have c1 : wr.cell? ⟨gx, 1, none⟩ = some (.int .i64 x.dst) := blk_cell hx5 rfl
                      have c2 : wr.cell? ⟨gx, 2, none⟩ = some (.int .i64 x.a.reg) := blk_cell hx5 rfl
                      have c3 : wr.cell? ⟨gx, 3, none⟩ = some (.int .i64 x.a.num) := blk_cell hx5 rfl
                      have c4 : wr.cell? ⟨gx, 4, none⟩ = some (.int .i64 x.b.reg) := blk_cell hx5 rfl
                      have c5 : wr.cell? ⟨gx, 5, none⟩ = some (.int .i64 x.b.num) := blk_cell hx5 rfl
                      have c6 : wr.cell? ⟨gx, 6, none⟩ = some (.int .i64 x.size) := blk_cell hx5 rfl
                      have c7 : wr.cell? ⟨gx, 7, none⟩ = some (.bool x.signed) := blk_cell hx5 rfl
                      have c8 : wr.cell? ⟨gx, 8, none⟩ = some (.bool x.secret) := blk_cell hx5 rfl
                      have c9 : wr.cell? ⟨gx, 9, none⟩ = some (.int .i64 x.ref) := blk_cell hx5 rfl
                      have c10 : wr.cell? ⟨gx, 10, none⟩ = some (.int .i64 x.off) := blk_cell hx5 rfl
                      have c11 : wr.cell? ⟨gx, 11, none⟩ = some (.slice A5 x.args.length cap5) := blk_cell hx5 rfl
                      have lx := blk_lt hx5
                      have HBa := Lib.hid (back_b wr x HS11.out HIn.out.1 HIn.out.2.1 HIn.out.2.2.1 HIn.out.2.2.2 (HVA.out.1.later (by decide) (HW.out _ HM11.out)) (by have := HXf.out.2; omega) (by
                        rcases HVA.out.2 with h | ⟨b', h1, h2⟩
                        · exact Or.inl h
                        · refine Or.inr (fun e => ?_)
                          have h3 := (HS11.out.lt_ (e.symm.trans h1)).1
                          have := H0.out.size
                          have := HBX.out.size
                          have := HL.out.2.1
                          have := HL.out.2.2
                          have := HWB.out
                          omega))
                      clear hx5
                      go_wp2_with fail
                      refine HBa.out.mono ?_
                      rintro e w9 ⟨rfl, hs9, hg9⟩
                      obtain ⟨n0, xs0, o0⟩ := HS11.out.own_
                      have HF1 := Lib.hid (show ApR w9 wb4 gl gm R gs (bsE R S0 E0 (blk.ins.drop j)) (bsM S0 M0 (blk.ins.drop j)) by
                        have := HG11.out.kept hg9 o0 (by decide) (by decide)
                        rw [HEQ1.out.1, HEQ1.out.2.1, HEQ1.out.2.2] at this
                        rw [HDr.out]
                        exact this.congr (fun _ _ _ _ => rfl) (fun r hr => insMk_all _ _ _ r hr))
                      have HF2 := Lib.hid (show SetB w9 L1 sv R (bsS S0 (blk.ins.drop j)) by
                        rw [HEQ1.out.1] at hs9
                        rw [HDr.out]; exact hs9)
                      have HF3 := Lib.hid (HM11.out.trans (Gap.of_grown hg9 (fun j hj => by
                        have := (HS11.out.lt_ hj).1
                        have := HL.out.2.1
                        have := HL.out.2.2
                        exact ⟨by omega, Or.inr (by assumption)⟩)))
                      have HF4 := Lib.hid (blk_kept HO11.out hg9 (own_blk o0 HO11.out (by decide)))
                      clear hs9 hg9 o0 c0 c1 c2 c3 c4 c5 c6 c7 c8 c9 c10 c11 lx HBa
                      go_wp2_with fail
                      go_roundw
                      case rel => exact ⟨j, by omega, by go_num, HF1.out, HF2.out, HF3.out, HF4.out⟩
                      case measure => first | omega | (simp [intOf]; done) | (simp [intOf]; omega)
        · have e : n = m := by omega
          subst e
          have hb5 := HB4.out.trans (HM1.out.below (by rw [HWB.out]; exact HB4.out.size))
          have c11 : wr.cell? ⟨gf, 1, none⟩ = some (.int .i64 (P : Nat)) := blk_cell ((hb5.block gf (by rw [HWB.out]; exact blk_lt HFB.out)).trans HFB.out) rfl
          have l11 := World.block_lt_of_cell? _ _ c11
          obtain ⟨v0, hv0, hs0⟩ := HLI.out 0 h0n
          have HS0 := Lib.hid (And.intro hv0 hs0)
          have hPR := HF.out.hPR
          have HPr := Lib.hid (show ApR wr wb4 gl gm R gs (parE (iB f 0) (blE R (blkF f) (oB f) n) 0 0) (blM (blkF f) (oB f) n) from HG1.out.congr (fun x y _ _ => (parE_zero _ _ x y).symm) (fun _ _ => rfl))
          obtain ⟨En, hEn⟩ : ∃ z, z = blE R (blkF f) (oB f) n := ⟨_, rfl⟩
          obtain ⟨Mn, hMn⟩ : ∃ z, z = blM (blkF f) (oB f) n := ⟨_, rfl⟩
          obtain ⟨In, hIn⟩ : ∃ z, z = iB f 0 := ⟨_, rfl⟩
          rw [← hEn, ← hMn, ← hIn] at HPr
          rw [← hIn] at HS0
          have HEQ := Lib.hid (And.intro hEn (And.intro hMn hIn))
          obtain ⟨A0, cap0, hv00⟩ := hs0.slice_
          subst hv00
          clear hv0 hs0 hEn hMn hIn HLI HLO HG1 HW1 hw1 hb5
          go_wp2_with fail
          clear c11 l11
          go_loopw [143] (fun i wr => ∃ a : Nat, a ≤ P ∧ i = .int .i64 a ∧ ApR wr wb4 gl gm R gs (parE In En a 0) Mn ∧ Gap wb4 L0 L1 w4 wr) (fun i _ => P - (intOf i).toNat)
          case atStart => exact ⟨0, by omega, rfl, HPr.out, HM1.out⟩
          case round =>
            obtain ⟨a, ha, rfl, hg, hmid⟩ := hrel
            have HG2 := Lib.hid hg
            have HM2 := Lib.hid hmid
            clear hg hmid HPr HM1
            by_cases hlta : a < P
            · go_wp2_with fail
              go_loopw [147] (fun i wr => ∃ b : Nat, b ≤ a ∧ i = .int .i64 b ∧ ApR wr wb4 gl gm R gs (parE In En a b) Mn ∧ Gap wb4 L0 L1 w4 wr) (fun i _ => a - (intOf i).toNat)
              case atStart => exact ⟨0, by omega, rfl, HG2.out, HM2.out⟩
              case round =>
                obtain ⟨b, hb, rfl, hg, hmid⟩ := hrel
                have HG3 := Lib.hid hg
                have HM3 := Lib.hid hmid
                clear hg hmid HG2 HM2
                by_cases hltb : b < a
                · have HS3 := Lib.hid (HM3.out.set_ HS0.out.2 (Nat.le_refl _) (fun g hg => by rw [HL.out.1]; exact (HS0.out.2.lt_ hg).2))
                  have hri := HM3.out.row HRO.out.1 (Nat.le_refl _) (fun g hg => by rw [HL.out.1]; exact (HRO.out.1.lt g hg).2)
                  obtain ⟨ci1, _, ci3⟩ := row_cell hri h0n (v := .slice A0 ((R + 63) / 64) cap0) (by rw [List.getElem?_take, if_pos h0n]; exact HS0.out.1)
                  have HA := Lib.hid (has_b wr a HS3.out hR6 (by omega))
                  have HBb := Lib.hid (has_b wr b HS3.out hR6 (by omega))
                  have HNo := Lib.hid (fun x y => parE_no In En a b x y)
                  have HYes := Lib.hid (fun x y => parE_yes In En a b x y hltb)
                  have haR : a < R := by omega
                  have hbR : b < R := by omega
                  have hdk : a ≠ b := by omega
                  have V := HG3.out.edge haR hbR hdk
                  have V1 := (HG3.out.setE haR hbR true)
                  have V2 := (V1.1.setE hbR haR true)
                  have HV3 := Lib.hid (HM3.out.trans ((Gap.of_grown V1.2 (fun j hj => by cases hj; exact ⟨HG3.out.rB a haR, Or.inl (HAl.out a haR)⟩)).trans (Gap.of_grown V2.2 (fun j hj => by cases hj; exact ⟨HG3.out.rB b hbR, Or.inl (HAl.out b hbR)⟩))))
                  have HV1 := Lib.hid V
                  have hne1 : gs a ≠ gs b := HG3.out.inj a b haR hbR hdk
                  have hne2 : gs b ≠ gs a := fun e => hne1 e.symm
                  obtain ⟨kl1, kl2⟩ := HG3.out.cellL haR
                  obtain ⟨km1, _⟩ := HG3.out.cellL hbR
                  obtain ⟨kr1, kr2, kr3⟩ := (HG3.out.rows a haR).cell hbR
                  obtain ⟨kr4, kr5, kr6⟩ := (HG3.out.rows b hbR).cell haR
                  have hgl1 : gl ≠ gs a := fun e => HG3.out.nl haR e.symm
                  have hgl2 : gl ≠ gs b := fun e => HG3.out.nl hbR e.symm
                  clear hri V V1 V2 hdk
                  obtain ⟨g1, hg1⟩ : ∃ z, z = gs a := ⟨_, rfl⟩
                  obtain ⟨g2, hg2⟩ : ∃ z, z = gs b := ⟨_, rfl⟩
                  rw [← hg1] at hne1 hne2 kl1 kr1 kr2 kr3 hgl1 HV1 HV3
                  rw [← hg2] at hne1 hne2 km1 kr4 kr5 kr6 hgl2 HV1 HV3
                  clear hg1 hg2
                  obtain ⟨ia, hia⟩ : ∃ z, z = In a := ⟨_, rfl⟩
                  obtain ⟨ib, hib⟩ : ∃ z, z = In b := ⟨_, rfl⟩
                  rw [← hia] at HA
                  rw [← hib] at HBb
                  rw [← hia, ← hib] at HNo HYes
                  clear hia hib
                  cases ia <;> cases ib
                  · go_wp2_with fail
                    refine HA.out.mono ?_
                    rintro e w7 ⟨rfl, rfl⟩
                    go_wp2_with fail
                    refine HBb.out.mono ?_
                    rintro e w7 ⟨rfl, rfl⟩
                    go_wp2_with fail
                    go_roundw
                    case rel => exact ⟨b + 1, by omega, by go_num, HG3.out.congr (fun x y _ _ => HNo.out x y rfl) (fun _ _ => rfl), HM3.out⟩
                    case measure => first | omega | (simp [intOf]; done) | (simp [intOf]; omega)
                  · have HV1' := Lib.hid (HV1.out.congr (fun x y _ _ => HYes.out x y rfl) (fun _ _ => rfl))
                    go_wp2_with fail
                    refine HA.out.mono ?_
                    rintro e w7 ⟨rfl, rfl⟩
                    go_wp2_with fail
                    refine HBb.out.mono ?_
                    rintro e w7 ⟨rfl, rfl⟩
                    go_wp2_with fail
                    go_region
                    all_goals go_wp2_with fail
                    all_goals go_roundw
                    all_goals first | exact ⟨b + 1, by omega, by go_num, HV1'.out.more (drew_below' _), HV3.out.trans (Gap.of_below (drew_below' _))⟩ | (simp [intOf]; omega)
                  all_goals
                    have HV1' := Lib.hid (HV1.out.congr (fun x y _ _ => HYes.out x y rfl) (fun _ _ => rfl))
                    go_wp2_with fail
                    refine HA.out.mono ?_
                    rintro e w7 ⟨rfl, rfl⟩
                    go_wp2_with fail
                    go_region
                    all_goals go_wp2_with fail
                    all_goals go_roundw
                    all_goals first | exact ⟨b + 1, by omega, by go_num, HV1'.out.more (drew_below' _), HV3.out.trans (Gap.of_below (drew_below' _))⟩ | (simp [intOf]; omega)
                · have e : a = b := by omega
                  subst e
                  go_wp2_with fail
                  go_roundw
                  case rel => exact ⟨a + 1, by omega, by go_num, HG3.out.congr (fun x y _ _ => parE_next _ _ a x y) (fun _ _ => rfl), HM3.out⟩
                  case measure => first | omega | (simp [intOf]; done) | (simp [intOf]; omega)
            · have e : P = a := by omega
              subst e
              go_wp2_with fail
              go_returns
              refine ⟨wb4, gl, gm, gs, by rw [HWB.out]; exact HBX.out.size, rfl, ?_, HBX.out.trans ((HB4.out.trans (HM2.out.below (by rw [HWB.out]; exact HB4.out.size))).mono (by rw [HWB.out]; exact HBX.out.size))⟩
              have := HG2.out
              rw [HEQ.out.1, HEQ.out.2.1, HEQ.out.2.2] at this
              unfold gE gM
              rw [← HN.out]
              exact this
end Go.Proofs.Ytednnkhomfabaaa
