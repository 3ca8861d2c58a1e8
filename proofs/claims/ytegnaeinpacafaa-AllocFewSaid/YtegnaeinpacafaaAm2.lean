/- Walks: alloc.Of. No condition. -/
import Derived.Test.YtegnaeinpacafaaAm1
namespace Go.Proofs.Ytegnaeinpacafaa
open Go.RowKit
set_option linter.unusedVariables false
set_option maxHeartbeats 4000000
theorem of_fn2 (W0 w : World) (h0 : Below W0.heap.size W0 w) (fb fo : Nat) (f : FuncD) (R P : Nat) (hF : FnOk f R P) (vb : Value) (c5 : w.cell? ⟨fb, fo + 5, none⟩ = some vb) (c3 : w.cell? ⟨fb, fo + 3, none⟩ = some (.int .i64 (R : Nat))) (c1 : w.cell? ⟨fb, fo + 1, none⟩ = some (.int .i64 (P : Nat))) (hb : SlR W0 9 (BlockR W0) vb f.blocks) :
    Calls Try.prog 21 #[.pointer (some ⟨fb, fo, none⟩)] w (OfR w f R P) :=
  of_any W0 w h0 fb fo f vb c5 R P c3 c1 hF.hPR hb hF.h0n (by have := hF.hn; omega) (by have := hF.hR; omega) hF.hnx (fun b hb x hx => by have := hF.hslim b hb x hx; omega) (fun b hb => by have := hF.hil b hb; omega) hF.hdst hF.htr
/-- what alloc.Of answers -/
def AllocR (w : World) (f : FuncD) (R P : Nat) (e : Ending) (w' : World) : Prop :=
  ∃ (gp : Nat) (pl : List Int) (cells : Nat), e = .returned (.agg #[.slice (some ⟨gp, 0, none⟩) R R, .int .i64 (cells : Nat)]) ∧ OwnI w' w.heap.size (.slice (some ⟨gp, 0, none⟩) R R) pl ∧ AllocOk f R P pl (cells : Nat) ∧ Below w.heap.size w w'
set_option maxRecDepth 100000 in
theorem alloc_of (W0 w : World) (h0 : Below W0.heap.size W0 w) (fb fo : Nat) (f : FuncD) (R P : Nat) (hF : FnOk f R P) (vb : Value) (c5 : w.cell? ⟨fb, fo + 5, none⟩ = some vb) (c3 : w.cell? ⟨fb, fo + 3, none⟩ = some (.int .i64 (R : Nat))) (c1 : w.cell? ⟨fb, fo + 1, none⟩ = some (.int .i64 (P : Nat))) (hb : SlR W0 9 (BlockR W0) vb f.blocks) :
    Calls Try.prog 10 #[.pointer (some ⟨fb, fo, none⟩)] w (AllocR w f R P) := by
  have HB0 := Lib.hid (below_alloc (.cells #[.slice none 0 0, .int .i64 0] 45) (Below.refl w.heap.size w))
  have HR0 := Lib.hid (blk_new w (.cells #[.slice none 0 0, .int .i64 0] 45))
  have HOf := Lib.hid (fun w1 (h1 : Below w.heap.size w w1) => of_fn2 W0 w1 (h0.trans (h1.mono h0.size)) fb fo f R P hF vb (later c5 h1) (later c3 h1) (later c1 h1) hb)
  have HF := Lib.hid hF
  have hR3 := hF.hR
  clear h0 c5 c3 c1 hb hF
  go_enter Try.func10, Try.ntmps10
  go_wp2_with fail
  obtain ⟨wa, hwa⟩ : ∃ z, z = w.alloc (.cells #[.slice none 0 0, .int .i64 0] 45) := ⟨_, rfl⟩
  rw [← hwa] at HB0 HR0 ⊢
  obtain ⟨gr, hgr⟩ : ∃ z, z = w.heap.size := ⟨_, rfl⟩
  rw [← hgr] at HR0 ⊢
  have HGR := Lib.hid hgr
  clear hwa hgr
  refine (HOf.out wa HB0.out).mono ?_
  rintro e wo ⟨L0, L1, gb, av, cv, mv, uv, vs, rfl, hG, hbo⟩
  have HG := Lib.hid (show GrR wo wa.heap.size L0 L1 gb R av cv mv uv vs (gEF f R P) (gMF f) (blU R (blkF f) f.blocks.length) (blC (blkF f) f.blocks.length) from hG)
  have HB1 := Lib.hid (HB0.out.bt hbo)
  have HR1 := Lib.hid ((hbo.block gr (blk_lt HR0.out)).trans HR0.out)
  have HSym := Lib.hid (show ∀ a b, gEF f R P a b = gEF f R P b a from fun a b => parE_sym _ _ P a b (blE_sym R _ _ a b _))
  clear hG hbo HB0 HR0
  go_wp2_with fail
  refine (colour_any HG.out (by omega) 5 (by omega) (fun a b _ _ => HSym.out a b) HF.out.cps.1 HF.out.cps.2).mono ?_
  rintro e wc ⟨gp, pl, rfl, hpl, hft, _, hbc⟩
  have HP := Lib.hid hpl
  have HFt := Lib.hid hft
  have HB2 := Lib.hid (HB1.out.trans (hbc.mono HB1.out.size))
  have HR2 := Lib.hid ((hbc.block gr (blk_lt HR1.out)).trans HR1.out)
  have HWo := Lib.hid HB1.out.size
  have HA0 := Lib.hid (blk_new wc (.cells #[.slice (some ⟨gp, 0, none⟩) R R, .int .i64 0] 45))
  have HBA := Lib.hid (below_alloc (.cells #[.slice (some ⟨gp, 0, none⟩) R R, .int .i64 0] 45) (Below.refl wc.heap.size wc))
  clear hpl hft hbc HG HB1 HR1
  go_wp2_with fail
  obtain ⟨wd, hwd⟩ : ∃ z, z = wc.alloc (.cells #[.slice (some ⟨gp, 0, none⟩) R R, .int .i64 0] 45) := ⟨_, rfl⟩
  rw [← hwd] at HA0 HBA ⊢
  obtain ⟨ga, hga⟩ : ∃ z, z = wc.heap.size := ⟨_, rfl⟩
  rw [← hga] at HA0 ⊢
  have HP0 := Lib.hid (show OwnI wd w.heap.size (.slice (some ⟨gp, 0, none⟩) R R) pl from own_base (own_below HP.out HBA.out) HWo.out)
  have HR3 := Lib.hid ((HBA.out.block gr (blk_lt HR2.out)).trans HR2.out)
  have HB3 := Lib.hid (HB2.out.trans (HBA.out.mono HB2.out.size))
  have HGA := Lib.hid (show w.heap.size ≤ ga ∧ gr < ga from ⟨by rw [hga]; exact HB2.out.size, by rw [hga]; exact blk_lt HR2.out⟩)
  clear hwd hga HP HB2 HR2 HBA
  go_loopw [14] (fun i wr => ∃ (j c : Nat) (pl2 : List Int), j ≤ R ∧ i = .int .i64 j ∧ OwnI wr w.heap.size (.slice (some ⟨gp, 0, none⟩) R R) pl2 ∧ Rep pl pl2 R j c ∧ wr.heap[ga]? = some (.cells #[.slice (some ⟨gp, 0, none⟩) R R, .int .i64 (c : Nat)] 45 (0, 0)) ∧ wr.heap[gr]? = some (.cells #[.slice none 0 0, .int .i64 0] 45 (0, 0)) ∧ Below w.heap.size w wr) (fun i _ => R - (intOf i).toNat)
  case atStart => exact ⟨0, 0, pl, by omega, rfl, HP0.out, Rep.zero HFt.out.len, HA0.out, HR3.out, HB3.out⟩
  case round =>
    obtain ⟨j, c, pl2, hj, rfl, hp, hrep, ha, hr, hb⟩ := hrel
    have HP1 := Lib.hid hp
    have HRp := Lib.hid hrep
    have HA1 := Lib.hid ha
    have HR1 := Lib.hid hr
    have HB1 := Lib.hid hb
    clear hp hrep ha hr hb HP0 HA0 HR3 HB3
    by_cases hlt : j < R
    · obtain ⟨x, hx⟩ : ∃ x, pl2[j]? = some x := ⟨_, List.getElem?_eq_getElem (by rw [HRp.out.len]; exact hlt)⟩
      obtain ⟨kx, kf, kl⟩ := OwnI.at_ HP1.out HRp.out.len.symm hx
      have hcj := HRp.out.cj
      by_cases h0 : x < 0
      · have hxm : x = -1 := by
          rcases HRp.out.at_ j x hx with h1 | h1 | h1
          · rcases HFt.out.rng j x h1.2 with h2 | h2 <;> omega
          · omega
          · omega
        subst hxm
        have HRp2 := Lib.hid (HRp.out.cell hx)
        obtain ⟨z1, z2⟩ := OwnI.set (j := j) HP1.out HRp.out.len.symm (5 + (c : Int))
        have ha2 := blk_kept HA1.out z2 (own_blk HP1.out HA1.out (by decide))
        have hr2 := blk_kept HR1.out z2 (own_blk HP1.out HR1.out (by decide))
        have ka : wr.cell? ⟨ga, 1, none⟩ = some (.int .i64 (c : Nat)) := blk_cell HA1.out rfl
        have la := blk_lt HA1.out
        have hne : ga ≠ gp := fun e => by
          rcases own_blk HP1.out HA1.out (by decide) with h | h
          · cases h
          · exact h (by rw [e]; rfl)
        have ka2 : (wr.setCell ⟨gp, j, none⟩ (.int .i64 (5 + (c : Int)))).frozen? ⟨ga, 1, none⟩ = false := blk_free ha2
        have kaf : wr.frozen? ⟨ga, 1, none⟩ = false := blk_free HA1.out
        have v1 : ((wr.setCell ⟨gp, j, none⟩ (.int .i64 (5 + (c : Int)))).setCell ⟨ga, 1, none⟩ (.int .i64 ((c : Int) + 1))).heap[ga]? = some (.cells #[.slice (some ⟨gp, 0, none⟩) R R, .int .i64 ((c : Int) + 1)] 45 (0, 0)) := by rw [blk_setCell ha2 _]; rfl
        have v2 : (wr.setCell ⟨gp, j, none⟩ (.int .i64 (5 + (c : Int)))).grownBy ((wr.setCell ⟨gp, j, none⟩ (.int .i64 (5 + (c : Int)))).setCell ⟨ga, 1, none⟩ (.int .i64 ((c : Int) + 1))) (some ga) := ⟨rfl, rfl, rfl, by simp [World.setCell], fun k hk hne => Below.heap_setCell _ ⟨ga, 1, none⟩ _ k (fun e => hne (by rw [e]))⟩
        have HA3 := Lib.hid v1
        have HP3 := Lib.hid (World.ownsRow.kept z1 v2 (own_blk z1 ha2 (by decide)))
        have HR4 := Lib.hid ((v2.block gr (blk_lt hr2) (fun e => by have := HGA.out.2; simp only [Option.some.injEq] at e; omega)).trans hr2)
        have HB4 := Lib.hid (below_of_grown (below_of_grown HB1.out (Nat.le_refl _) z2 (fun k hk => by cases hk; exact (World.ownsRow.lt HP1.out gp rfl).1)) (Nat.le_refl _) v2 (fun k hk => by cases hk; exact HGA.out.1))
        clear hx z1 z2 ha2 hr2 v1 v2 h0
        go_wp2_with fail
        go_roundw
        case rel => exact ⟨j + 1, c + 1, _, by omega, by go_num, HP3.out, HRp2.out, HA3.out, HR4.out, HB4.out⟩
        case measure => first | omega | (simp [intOf]; done) | (simp [intOf]; omega)
      · have d0 : decide (x < 0) = false := decide_eq_false h0
        have HRp2 := Lib.hid (HRp.out.keep hx (by omega))
        clear hx h0
        go_wp2_with fail
        go_roundw
        case rel => exact ⟨j + 1, c, _, by omega, by go_num, HP1.out, HRp2.out, HA1.out, HR1.out, HB1.out⟩
        case measure => first | omega | (simp [intOf]; done) | (simp [intOf]; omega)
    · have e : R = j := by omega
      subst e
      have ka0 : wr.cell? ⟨ga, 0, none⟩ = some (.slice (some ⟨gp, 0, none⟩) R R) := blk_cell HA1.out rfl
      have ka1 : wr.cell? ⟨ga, 1, none⟩ = some (.int .i64 (c : Nat)) := blk_cell HA1.out rfl
      have kr0 : wr.cell? ⟨gr, 0, none⟩ = some (.slice none 0 0) := blk_cell HR1.out rfl
      have kr1 : wr.cell? ⟨gr, 1, none⟩ = some (.int .i64 0) := blk_cell HR1.out rfl
      have kf0 : wr.frozen? ⟨gr, 0, none⟩ = false := blk_free HR1.out
      have kf1 : wr.frozen? ⟨gr, 1, none⟩ = false := blk_free HR1.out
      have la := blk_lt HA1.out
      have lr := blk_lt HR1.out
      clear kr0 kr1 kf0 kf1
      go_wp2_with (refine wpList_store_blk (by rfl) 45 _ _ (by rfl) gr (by rfl) (by rfl) HR1.out (by rfl) (by kernel_rfl) (by kernel_rfl) ?_; intro x2 k3 hb3 hz3 ho3; have q0 : x2.cell? ⟨gr, 0, none⟩ = some (.slice (some ⟨gp, 0, none⟩) R R) := blk_cell k3 rfl; have q1 : x2.cell? ⟨gr, 1, none⟩ = some (.int .i64 (c : Nat)) := blk_cell k3 rfl; have lr2 : gr < x2.heap.size := blk_lt k3; have HX := Lib.hid (And.intro k3 (And.intro hb3 (And.intro hz3 ho3))); clear k3 hb3 hz3 ho3)
      refine bodyPost_ret (by simp [results, Try.results10, go_sem, q0, q1]; try rfl) rfl ?_
      obtain ⟨k3, hb3, hz3, ho3⟩ := HX.out
      have hb4 := hb3 gr wr (Nat.le_refl _) (Below.refl _ _)
      have g1 : wr.grownBy x2 (some gr) := ⟨hb4.os, hb4.tape, hb4.output, by omega, fun k hk hne => ho3 k (fun e => hne (by rw [e]))⟩
      exact ⟨gp, pl2, c, rfl, World.ownsRow.kept HP1.out g1 (own_blk HP1.out HR1.out (by decide)), HRp.out.done HFt.out, hb3 _ _ (Nat.le_of_eq HGR.out.symm) HB1.out⟩
end Go.Proofs.Ytegnaeinpacafaa
