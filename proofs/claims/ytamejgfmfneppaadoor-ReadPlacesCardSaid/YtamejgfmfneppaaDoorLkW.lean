/- ReadPlaces: the law walked. No condition. -/
import Derived.Test.YtamejgfmfneppaaDoorLkX
import Derived.Test.YtamejgfmfneppaaDoorRgF
import Derived.Deep.Cut
import Derived.Deep.CutRange
import Derived.Deep.DeepCutAuto
namespace Go.Proofs.YtamejgfmfneppaaDoor
open Go.RowKit
set_option linter.unusedVariables false
set_option maxHeartbeats 16000000
set_option maxRecDepth 100000
theorem mod50 (a : Int) : ∃ r : Nat, r < 50 ∧ (wrap64 (a.tmod 50 + 50)).tmod 50 = (r : Int) := by
  have h : -50 < a.tmod 50 ∧ a.tmod 50 < 50 := tmod_range a 50 (by decide)
  have hw : wrap64 (a.tmod 50 + 50) = a.tmod 50 + 50 := IntWalk.wrap64_in _ (by omega)
  rw [hw, Int.tmod_eq_emod_of_nonneg (by omega)]
  exact ⟨((a.tmod 50 + 50) % 50).toNat, by omega, by omega⟩
theorem len_codeB (back : Bool) (b : Nat) : (codeB back b).length = b + 7 := by
  cases back <;> simp [codeB, rowX] <;> omega
theorem kind_B (n : Nat) : ∀ d ∈ dataB n, d.kind = 0 ∨ (d.kind = 5 ∧ 0 ≤ d.n) := by
  intro d hd
  simp only [dataB, List.mem_cons, List.not_mem_nil, or_false] at hd
  rcases hd with e | e | e | e <;> subst e
  · exact Or.inr ⟨rfl, Int.natCast_nonneg _⟩
  · exact Or.inl rfl
  · exact Or.inr ⟨rfl, by decide⟩
  · exact Or.inl rfl
theorem places_law (w : World) (hN : NeedOk gs w ∧ gn ≤ w.heap.size) (a0 a1 : Int) (back : Bool) :
    Calls Tryd.prog 3 #[.int .i64 a0, .int .i64 a1, .bool back] w fun e w' => e = .returned (.bool true) ∧ Below w.heap.size w w' := by
  have HN := Lib.hid hN
  clear hN
  go_enter Tryd.func3, Tryd.ntmps3
  go_wp2_with fail
  refine (fit_vm w HN.out).mono ?_
  rintro e w1 ⟨rfl, hb1⟩
  have HB1 := Lib.hid hb1
  clear hb1
  go_upto_region 4 with (fail)
  obtain ⟨b, hb, eb⟩ := mod50 a0
  obtain ⟨n, hn, en⟩ := mod50 a1
  rw [eb, en]
  clear eb en
  go_upto_region 6 with (fail)
  change Code.wp _ _ _ _ ((((w1.alloc (.cells (datC n) 25)).alloc (.cells ⟨itemV (labI startB)⟩ 30)).alloc (.cells #[.slice (some ⟨w1.heap.size, 0, none⟩) 4 4, .slice (some ⟨w1.heap.size + 1, 0, none⟩) 1 1] 33)).alloc (.cells rowXC 30))
  have e1 := blk_below (blk_new w1 (.cells (datC n) 25)) (below_alloc (.cells rowXC 30) (below_alloc (.cells #[.slice (some ⟨w1.heap.size, 0, none⟩) 4 4, .slice (some ⟨w1.heap.size + 1, 0, none⟩) 1 1] 33) (below_alloc (.cells ⟨itemV (labI startB)⟩ 30) (Below.refl _ _))))
  have e2 := blk_below (blk_new (w1.alloc (.cells (datC n) 25)) (.cells ⟨itemV (labI startB)⟩ 30)) (below_alloc (.cells rowXC 30) (below_alloc (.cells #[.slice (some ⟨w1.heap.size, 0, none⟩) 4 4, .slice (some ⟨w1.heap.size + 1, 0, none⟩) 1 1] 33) (Below.refl _ _)))
  have e3 := blk_below (blk_new ((w1.alloc (.cells (datC n) 25)).alloc (.cells ⟨itemV (labI startB)⟩ 30)) (.cells #[.slice (some ⟨w1.heap.size, 0, none⟩) 4 4, .slice (some ⟨w1.heap.size + 1, 0, none⟩) 1 1] 33)) (below_alloc (.cells rowXC 30) (Below.refl _ _))
  have e4 := blk_new (((w1.alloc (.cells (datC n) 25)).alloc (.cells ⟨itemV (labI startB)⟩ 30)).alloc (.cells #[.slice (some ⟨w1.heap.size, 0, none⟩) 4 4, .slice (some ⟨w1.heap.size + 1, 0, none⟩) 1 1] 33)) (.cells rowXC 30)
  have hbb := below_alloc (.cells rowXC 30) (below_alloc (.cells #[.slice (some ⟨w1.heap.size, 0, none⟩) 4 4, .slice (some ⟨w1.heap.size + 1, 0, none⟩) 1 1] 33) (below_alloc (.cells ⟨itemV (labI startB)⟩ 30) (below_alloc (.cells (datC n) 25) (Below.refl w1.heap.size w1))))
  rw [show (w1.alloc (.cells (datC n) 25)).heap.size = w1.heap.size + 1 by simp] at e2
  rw [show ((w1.alloc (.cells (datC n) 25)).alloc (.cells ⟨itemV (labI startB)⟩ 30)).heap.size = w1.heap.size + 1 + 1 by simp] at e3
  rw [show (((w1.alloc (.cells (datC n) 25)).alloc (.cells ⟨itemV (labI startB)⟩ 30)).alloc (.cells #[.slice (some ⟨w1.heap.size, 0, none⟩) 4 4, .slice (some ⟨w1.heap.size + 1, 0, none⟩) 1 1] 33)).heap.size = w1.heap.size + 1 + 1 + 1 by simp] at e4
  obtain ⟨w2, hw2⟩ : ∃ z, z = (((w1.alloc (.cells (datC n) 25)).alloc (.cells ⟨itemV (labI startB)⟩ 30)).alloc (.cells #[.slice (some ⟨w1.heap.size, 0, none⟩) 4 4, .slice (some ⟨w1.heap.size + 1, 0, none⟩) 1 1] 33)).alloc (.cells rowXC 30) := ⟨_, rfl⟩
  rw [← hw2] at e1 e2 e3 e4 hbb ⊢
  have hs1 := HB1.out.size
  have HL := Lib.hid (show LawM w w2 (w1.heap.size + 1 + 1) w1.heap.size (w1.heap.size + 1 + 1 + 1) n (.slice (some ⟨w1.heap.size + 1, 0, none⟩) 1 1) [labI startB] from
    ⟨e3, e1, e4, ⟨rfl, Or.inr ⟨_, 1, _, rfl, by omega, e2, Nat.le_refl _, by unfold maxLen; omega, rfl, rfl⟩⟩, by simp [Value.ownBlock], HB1.out.trans (hbb.mono hs1), by omega⟩)
  obtain ⟨gX, hgX⟩ : ∃ z, z = w1.heap.size + 1 + 1 + 1 := ⟨_, rfl⟩
  obtain ⟨gP, hgP⟩ : ∃ z, z = w1.heap.size + 1 + 1 := ⟨_, rfl⟩
  obtain ⟨gI, hgI⟩ : ∃ z, z = w1.heap.size + 1 := ⟨_, rfl⟩
  obtain ⟨gD, hgD⟩ : ∃ z, z = w1.heap.size := ⟨_, rfl⟩
  rw [← hgX, ← hgP, ← hgI, ← hgD] at HL
  rw [← hgX, ← hgP, ← hgI, ← hgD]
  clear hgX hgP hgI hgD hw2 e1 e2 e3 e4 hbb hs1 HB1 HN
  cases back with
  | true =>
    obtain ⟨v2, w5, hr, hri, hg5, hm5, hb5, hk5⟩ := RowI.app HL.out.row HL.out.bel.size rowX HL.out.xx rfl rfl (by simp [rowX]; try omega)
    obtain ⟨Av2, cv2, hv2⟩ := hri.slice
    obtain ⟨n2, hn2⟩ : ∃ z, z = ([labI startB] ++ rowX).length := ⟨_, rfl⟩
    rw [← hn2] at hv2
    clear hn2
    subst hv2
    have HL2 := Lib.hid (HL.out.app hri hg5 hm5 hb5 hk5)
    have H5 := Lib.hid (hk5.cells HL.out.px (by decide))
    have p1 := blk_cell (i := 1) HL.out.px rfl
    have pl := blk_lt HL.out.px
    have n1 := blk_cell (i := 1) H5.out rfl
    have n1f : w5.frozen? ⟨gP, 1, none⟩ = false := blk_free H5.out
    have nl := blk_lt H5.out
    clear hri hg5 hm5 hb5 hk5
    go_upto_region 8 with (at_builtin; refine wpList_append_rn _ rfl _ _ _ rfl _ _ _ _ rfl rfl hr ?_)
    clear hr p1 pl n1 n1f nl H5 HL
    obtain ⟨w6, hw6⟩ : ∃ z, z = w5.setCell ⟨gP, 1, none⟩ (.slice Av2 n2 cv2) := ⟨_, rfl⟩
    rw [← hw6] at HL2 ⊢
    clear hw6
    go_wp2_with fail
    go_loopw [48] (fun i wr => ∃ (j : Nat) (v : Value), j ≤ b ∧ i = .int .i64 (j : Nat) ∧ LawM w wr gP gD gX n v ([labI startB] ++ rowX ++ List.replicate j fenI)) (fun i _ => b - (intOf i).toNat)
    case atStart => exact ⟨0, _, by omega, rfl, by simpa using HL2.out⟩
    case round =>
      rename World => wr
      obtain ⟨j, v, hj, rfl, hl⟩ := hrel
      clear HL2
      have HL := Lib.hid hl
      clear hl
      by_cases hlt : j < b
      · have HA := Lib.hid (HL.out.later (below_alloc (.cells #[.string bz, .int .i64 39, .int .i64 0, .int .i64 0, .int .i64 0, .int .i64 0, .bool false, .int .i64 0, .string bz] 30) (Below.refl wr.heap.size wr)))
        obtain ⟨Av, cv, hv⟩ := HL.out.row.slice
        obtain ⟨n1v, hn1⟩ : ∃ z, z = ([labI startB] ++ rowX ++ List.replicate j fenI).length := ⟨_, rfl⟩
        rw [← hn1] at hv
        clear hn1
        subst hv
        obtain ⟨v2, w5, hr, hri, hg5, hm5, hb5, hk5⟩ := RowI.app HA.out.row HA.out.bel.size [fenI] (blk_new wr (.cells #[.string bz, .int .i64 39, .int .i64 0, .int .i64 0, .int .i64 0, .int .i64 0, .bool false, .int .i64 0, .string bz] 30)) rfl rfl (by simp [rowX]; try omega)
        obtain ⟨Av2, cv2, hv2⟩ := hri.slice
        obtain ⟨n2, hn2⟩ : ∃ z, z = (([labI startB] ++ rowX ++ List.replicate j fenI) ++ [fenI]).length := ⟨_, rfl⟩
        rw [← hn2] at hv2
        clear hn2
        subst hv2
        have HL2 := Lib.hid (HA.out.app hri hg5 hm5 hb5 hk5)
        have H5 := Lib.hid (hk5.cells HA.out.px (by decide))
        have p1 := blk_cell (i := 1) HA.out.px rfl
        have pl := blk_lt HA.out.px
        have n1 := blk_cell (i := 1) H5.out rfl
        have n1f : w5.frozen? ⟨gP, 1, none⟩ = false := blk_free H5.out
        have nl := blk_lt H5.out
        clear hri hg5 hm5 hb5 hk5
        have r1 := blk_cell (i := 1) HL.out.px rfl
        have rl := blk_lt HL.out.px
        go_wp2_with (at_builtin; refine wpList_append_rn _ rfl _ _ _ rfl _ _ _ _ rfl rfl hr ?_)
        go_roundw
        case rel =>
          refine ⟨j + 1, .slice Av2 n2 cv2, by omega, by go_num, ?_⟩
          have h9 := HL2.out
          rw [List.append_assoc, ← List.replicate_succ'] at h9
          exact h9
        case measure => simp [intOf]; omega
      · have e : j = b := by omega
        subst e
        clear hlt hj
        have HA := Lib.hid (HL.out.later (below_alloc (.cells #[.string fB, .int .i64 0, .int .i64 0, .int .i64 0, .int .i64 0, .int .i64 0, .bool false, .int .i64 0, .string bz, .string bz, .int .i64 38, .int .i64 0, .int .i64 0, .int .i64 0, .int .i64 0, .bool false, .int .i64 0, .string bz] 30) (Below.refl wr.heap.size wr)))
        obtain ⟨Av, cv, hv⟩ := HL.out.row.slice
        obtain ⟨n1v, hn1⟩ : ∃ z, z = ([labI startB] ++ rowX ++ List.replicate j fenI).length := ⟨_, rfl⟩
        rw [← hn1] at hv
        clear hn1
        subst hv
        obtain ⟨v2, w5, hr, hri, hg5, hm5, hb5, hk5⟩ := RowI.app HA.out.row HA.out.bel.size [labI fB, opI 38 0 bz] (blk_new wr (.cells #[.string fB, .int .i64 0, .int .i64 0, .int .i64 0, .int .i64 0, .int .i64 0, .bool false, .int .i64 0, .string bz, .string bz, .int .i64 38, .int .i64 0, .int .i64 0, .int .i64 0, .int .i64 0, .bool false, .int .i64 0, .string bz] 30)) rfl rfl (by simp [rowX]; try omega)
        obtain ⟨Av2, cv2, hv2⟩ := hri.slice
        obtain ⟨n2, hn2⟩ : ∃ z, z = (([labI startB] ++ rowX ++ List.replicate j fenI) ++ [labI fB, opI 38 0 bz]).length := ⟨_, rfl⟩
        rw [← hn2] at hv2
        clear hn2
        subst hv2
        have HL2 := Lib.hid (HA.out.app hri hg5 hm5 hb5 hk5)
        have H5 := Lib.hid (hk5.cells HA.out.px (by decide))
        have p1 := blk_cell (i := 1) HA.out.px rfl
        have pl := blk_lt HA.out.px
        have n1 := blk_cell (i := 1) H5.out rfl
        have n1f : w5.frozen? ⟨gP, 1, none⟩ = false := blk_free H5.out
        have nl := blk_lt H5.out
        clear hri hg5 hm5 hb5 hk5
        have r1 := blk_cell (i := 1) HL.out.px rfl
        have rl := blk_lt HL.out.px
        go_upto_region 13 with (at_builtin; refine wpList_append_rn _ rfl _ _ _ rfl _ _ _ _ rfl rfl hr ?_)
        clear hr p1 pl n1 n1f nl H5 HL HA r1 rl
        obtain ⟨w6, hw6⟩ : ∃ z, z = w5.setCell ⟨gP, 1, none⟩ (.slice Av2 n2 cv2) := ⟨_, rfl⟩
        rw [← hw6] at HL2 ⊢
        clear hw6
        have HC := Lib.hid (show LawM w w6 gP gD gX n (.slice Av2 n2 cv2) (codeB true j) by have h := HL2.out; simpa [codeB] using h)
        have x0 := blk_cell (i := 0) HC.out.px rfl
        have x1 := blk_cell (i := 1) HC.out.px rfl
        have xl := blk_lt HC.out.px
        go_wp2_with fail
        refine (link_any w6 ⟨dataB n, codeB true j⟩ rt _ _ (dat_slR hn HC.out.dx) (HC.out.row.slR (fun x hx => itIn_B hx)) (by simp [dataB]) (by simp only; rw [len_codeB]; omega) (kind_B n) (fun x hx hl w9 => right_law x.ins (insIn_B hx hl) w9) none none 0 0 0 0).mono ?_
        rintro e w9 hout
        obtain ⟨gi, gd, N, vc, vs, ss, rfl, hI, hX, hS, hsl, hsa, hB⟩ := link_ok hn hout
        have HI := Lib.hid hI
        have HX := Lib.hid hX
        have HS := Lib.hid hS
        have HSL := Lib.hid hsl
        have HSA := Lib.hid hsa
        have HB := Lib.hid (HC.out.bel.trans (hB.mono HC.out.bel.size))
        clear hI hX hS hsl hsa hB hout x0 x1 xl HC
        obtain ⟨Ac, cc, hvc⟩ := HX.out.slice
        rw [len_codeY] at hvc
        subst hvc
        obtain ⟨As, cs, hvs⟩ := HS.out.slice
        rw [HSL.out] at hvs
        subst hvs
        obtain ⟨gc, rfl, c0⟩ := HX.out.imm (i := 0) (len_codeY _ _ _) rfl
        obtain ⟨_, e1, c1⟩ := HX.out.imm (i := 1) (len_codeY _ _ _) rfl
        cases e1
        obtain ⟨_, e1, c2⟩ := HX.out.imm (i := 2) (len_codeY _ _ _) rfl
        cases e1
        obtain ⟨_, e1, c3⟩ := HX.out.imm (i := 3) (len_codeY _ _ _) rfl
        cases e1
        obtain ⟨gs_, rfl, c4⟩ := HS.out.at_ (i := 4) HSL.out (HSA.out 4 (by omega))
        rw [show lastCall ((codeY true j n).take 4) = true from rfl] at c4
        have cl := World.block_lt_of_cell? _ _ c0
        have sl := World.block_lt_of_cell? _ _ c4
        simp only [fAt, if_true, insI] at c0 c1 c2 c3
        rw [show 0 * 8 + 3 = 3 from rfl] at c0
        rw [show 1 * 8 + 3 = 11 from rfl] at c1
        rw [show 2 * 8 + 3 = 19 from rfl] at c2
        rw [show 3 * 8 + 3 = 27 from rfl] at c3
        have y0 := blk_cell (i := 0) HI.out.box rfl
        have y1 := blk_cell (i := 1) HI.out.box rfl
        have y2 := blk_cell (i := 2) HI.out.box rfl
        have y3 := blk_cell (i := 3) HI.out.box rfl
        have yl := blk_lt HI.out.box
        go_upto_region 18 with (fail)
        go_wp2_with fail
        go_returns
        exact ⟨rfl, HB.out⟩
  | false =>
    have HL2 := HL
    clear HL
    go_wp2_with fail
    go_loopw [48] (fun i wr => ∃ (j : Nat) (v : Value), j ≤ b ∧ i = .int .i64 (j : Nat) ∧ LawM w wr gP gD gX n v ([labI startB] ++ List.replicate j fenI)) (fun i _ => b - (intOf i).toNat)
    case atStart => exact ⟨0, _, by omega, rfl, by simpa using HL2.out⟩
    case round =>
      rename World => wr
      obtain ⟨j, v, hj, rfl, hl⟩ := hrel
      clear HL2
      have HL := Lib.hid hl
      clear hl
      by_cases hlt : j < b
      · have HA := Lib.hid (HL.out.later (below_alloc (.cells #[.string bz, .int .i64 39, .int .i64 0, .int .i64 0, .int .i64 0, .int .i64 0, .bool false, .int .i64 0, .string bz] 30) (Below.refl wr.heap.size wr)))
        obtain ⟨Av, cv, hv⟩ := HL.out.row.slice
        obtain ⟨n1v, hn1⟩ : ∃ z, z = ([labI startB] ++ List.replicate j fenI).length := ⟨_, rfl⟩
        rw [← hn1] at hv
        clear hn1
        subst hv
        obtain ⟨v2, w5, hr, hri, hg5, hm5, hb5, hk5⟩ := RowI.app HA.out.row HA.out.bel.size [fenI] (blk_new wr (.cells #[.string bz, .int .i64 39, .int .i64 0, .int .i64 0, .int .i64 0, .int .i64 0, .bool false, .int .i64 0, .string bz] 30)) rfl rfl (by simp [rowX]; try omega)
        obtain ⟨Av2, cv2, hv2⟩ := hri.slice
        obtain ⟨n2, hn2⟩ : ∃ z, z = (([labI startB] ++ List.replicate j fenI) ++ [fenI]).length := ⟨_, rfl⟩
        rw [← hn2] at hv2
        clear hn2
        subst hv2
        have HL2 := Lib.hid (HA.out.app hri hg5 hm5 hb5 hk5)
        have H5 := Lib.hid (hk5.cells HA.out.px (by decide))
        have p1 := blk_cell (i := 1) HA.out.px rfl
        have pl := blk_lt HA.out.px
        have n1 := blk_cell (i := 1) H5.out rfl
        have n1f : w5.frozen? ⟨gP, 1, none⟩ = false := blk_free H5.out
        have nl := blk_lt H5.out
        clear hri hg5 hm5 hb5 hk5
        have r1 := blk_cell (i := 1) HL.out.px rfl
        have rl := blk_lt HL.out.px
        go_wp2_with (at_builtin; refine wpList_append_rn _ rfl _ _ _ rfl _ _ _ _ rfl rfl hr ?_)
        go_roundw
        case rel =>
          refine ⟨j + 1, .slice Av2 n2 cv2, by omega, by go_num, ?_⟩
          have h9 := HL2.out
          rw [List.append_assoc, ← List.replicate_succ'] at h9
          exact h9
        case measure => simp [intOf]; omega
      · have e : j = b := by omega
        subst e
        clear hlt hj
        have HA := Lib.hid (HL.out.later (below_alloc (.cells #[.string fB, .int .i64 0, .int .i64 0, .int .i64 0, .int .i64 0, .int .i64 0, .bool false, .int .i64 0, .string bz, .string bz, .int .i64 38, .int .i64 0, .int .i64 0, .int .i64 0, .int .i64 0, .bool false, .int .i64 0, .string bz] 30) (Below.refl wr.heap.size wr)))
        obtain ⟨Av, cv, hv⟩ := HL.out.row.slice
        obtain ⟨n1v, hn1⟩ : ∃ z, z = ([labI startB] ++ List.replicate j fenI).length := ⟨_, rfl⟩
        rw [← hn1] at hv
        clear hn1
        subst hv
        obtain ⟨v2, w5, hr, hri, hg5, hm5, hb5, hk5⟩ := RowI.app HA.out.row HA.out.bel.size [labI fB, opI 38 0 bz] (blk_new wr (.cells #[.string fB, .int .i64 0, .int .i64 0, .int .i64 0, .int .i64 0, .int .i64 0, .bool false, .int .i64 0, .string bz, .string bz, .int .i64 38, .int .i64 0, .int .i64 0, .int .i64 0, .int .i64 0, .bool false, .int .i64 0, .string bz] 30)) rfl rfl (by simp [rowX]; try omega)
        obtain ⟨Av2, cv2, hv2⟩ := hri.slice
        obtain ⟨n2, hn2⟩ : ∃ z, z = (([labI startB] ++ List.replicate j fenI) ++ [labI fB, opI 38 0 bz]).length := ⟨_, rfl⟩
        rw [← hn2] at hv2
        clear hn2
        subst hv2
        have HL2 := Lib.hid (HA.out.app hri hg5 hm5 hb5 hk5)
        have H5 := Lib.hid (hk5.cells HA.out.px (by decide))
        have p1 := blk_cell (i := 1) HA.out.px rfl
        have pl := blk_lt HA.out.px
        have n1 := blk_cell (i := 1) H5.out rfl
        have n1f : w5.frozen? ⟨gP, 1, none⟩ = false := blk_free H5.out
        have nl := blk_lt H5.out
        clear hri hg5 hm5 hb5 hk5
        have r1 := blk_cell (i := 1) HL.out.px rfl
        have rl := blk_lt HL.out.px
        go_upto_region 13 with (at_builtin; refine wpList_append_rn _ rfl _ _ _ rfl _ _ _ _ rfl rfl hr ?_)
        clear hr p1 pl n1 n1f nl H5 HL HA r1 rl
        obtain ⟨w6, hw6⟩ : ∃ z, z = w5.setCell ⟨gP, 1, none⟩ (.slice Av2 n2 cv2) := ⟨_, rfl⟩
        rw [← hw6] at HL2 ⊢
        clear hw6
        go_upto_region 15 with (fail)
        obtain ⟨v2, w5, hr, hri, hg5, hm5, hb5, hk5⟩ := RowI.app HL2.out.row HL2.out.bel.size rowX HL2.out.xx rfl rfl (by simp [rowX]; try omega)
        obtain ⟨Av2, cv2, hv2⟩ := hri.slice
        obtain ⟨n2, hn2⟩ : ∃ z, z = (([labI startB] ++ List.replicate j fenI ++ [labI fB, opI 38 0 bz]) ++ rowX).length := ⟨_, rfl⟩
        rw [← hn2] at hv2
        clear hn2
        subst hv2
        have HL3 := Lib.hid (HL2.out.app hri hg5 hm5 hb5 hk5)
        have H5 := Lib.hid (hk5.cells HL2.out.px (by decide))
        have p1 := blk_cell (i := 1) HL2.out.px rfl
        have pl := blk_lt HL2.out.px
        have n1 := blk_cell (i := 1) H5.out rfl
        have n1f : w5.frozen? ⟨gP, 1, none⟩ = false := blk_free H5.out
        have nl := blk_lt H5.out
        clear hri hg5 hm5 hb5 hk5
        go_upto_region 16 with (at_builtin; refine wpList_append_rn _ rfl _ _ _ rfl _ _ _ _ rfl rfl hr ?_)
        clear hr p1 pl n1 n1f nl H5 HL2
        obtain ⟨w6, hw6⟩ : ∃ z, z = w5.setCell ⟨gP, 1, none⟩ (.slice Av2 n2 cv2) := ⟨_, rfl⟩
        rw [← hw6] at HL3 ⊢
        clear hw6
        have HC := Lib.hid (show LawM w w6 gP gD gX n (.slice Av2 n2 cv2) (codeB false j) by have h := HL3.out; simpa [codeB] using h)
        have x0 := blk_cell (i := 0) HC.out.px rfl
        have x1 := blk_cell (i := 1) HC.out.px rfl
        have xl := blk_lt HC.out.px
        go_wp2_with fail
        refine (link_any w6 ⟨dataB n, codeB false j⟩ rt _ _ (dat_slR hn HC.out.dx) (HC.out.row.slR (fun x hx => itIn_B hx)) (by simp [dataB]) (by simp only; rw [len_codeB]; omega) (kind_B n) (fun x hx hl w9 => right_law x.ins (insIn_B hx hl) w9) none none 0 0 0 0).mono ?_
        rintro e w9 hout
        obtain ⟨gi, gd, N, vc, vs, ss, rfl, hI, hX, hS, hsl, hsa, hB⟩ := link_ok hn hout
        have HI := Lib.hid hI
        have HX := Lib.hid hX
        have HS := Lib.hid hS
        have HSL := Lib.hid hsl
        have HSA := Lib.hid hsa
        have HB := Lib.hid (HC.out.bel.trans (hB.mono HC.out.bel.size))
        clear hI hX hS hsl hsa hB hout x0 x1 xl HC
        obtain ⟨Ac, cc, hvc⟩ := HX.out.slice
        rw [len_codeY] at hvc
        subst hvc
        obtain ⟨As, cs, hvs⟩ := HS.out.slice
        rw [HSL.out] at hvs
        subst hvs
        obtain ⟨gc, rfl, c0⟩ := HX.out.imm (i := j + 1) (len_codeY _ _ _) (codeY_at j n 0 (by decide))
        obtain ⟨_, e1, c1⟩ := HX.out.imm (i := j + 1 + 1) (len_codeY _ _ _) (codeY_at j n 1 (by decide))
        cases e1
        obtain ⟨_, e1, c2⟩ := HX.out.imm (i := j + 1 + 2) (len_codeY _ _ _) (codeY_at j n 2 (by decide))
        cases e1
        obtain ⟨_, e1, c3⟩ := HX.out.imm (i := j + 1 + 3) (len_codeY _ _ _) (codeY_at j n 3 (by decide))
        cases e1
        have cl := World.block_lt_of_cell? _ _ c0
        replace c0 : w9.cell? ⟨gc, (j + 1) * 8 + 3, none⟩ = some (.int .i64 (j : Int)) := c0
        replace c1 : w9.cell? ⟨gc, (j + 1 + 1) * 8 + 3, none⟩ = some (.int .i64 (65536 + ((n : Int) + 3))) := c1
        replace c2 : w9.cell? ⟨gc, (j + 1 + 2) * 8 + 3, none⟩ = some (.int .i64 (4194304 + (j : Int))) := c2
        replace c3 : w9.cell? ⟨gc, (j + 1 + 3) * 8 + 3, none⟩ = some (.int .i64 0) := c3
        obtain ⟨q0, hq0⟩ : ∃ q : Nat, q = j + 1 := ⟨_, rfl⟩
        obtain ⟨q1, hq1⟩ : ∃ q : Nat, q = j + 1 + 1 := ⟨_, rfl⟩
        obtain ⟨q2, hq2⟩ : ∃ q : Nat, q = j + 1 + 2 := ⟨_, rfl⟩
        obtain ⟨q3, hq3⟩ : ∃ q : Nat, q = j + 1 + 3 := ⟨_, rfl⟩
        rw [← hq0] at c0
        rw [← hq1] at c1
        rw [← hq2] at c2
        rw [← hq3] at c3
        rw [show ((j : Int) + 1) = (q0 : Int) by omega]
        have k1 : (q0 : Int) + 1 = (q1 : Int) := by omega
        have k2 : (q0 : Int) + 2 = (q2 : Int) := by omega
        have k3 : (q0 : Int) + 3 = (q3 : Int) := by omega
        have k4 : (q0 : Int) + 4 = (j : Int) + 5 := by omega
        have l0 : q0 < j + 5 := by omega
        have l1 : q1 < j + 5 := by omega
        have l2 : q2 < j + 5 := by omega
        have l3 : q3 < j + 5 := by omega
        clear hq0 hq1 hq2 hq3
        have y0 := blk_cell (i := 0) HI.out.box rfl
        have y1 := blk_cell (i := 1) HI.out.box rfl
        have y2 := blk_cell (i := 2) HI.out.box rfl
        have y3 := blk_cell (i := 3) HI.out.box rfl
        have yl := blk_lt HI.out.box
        go_upto_region 18 with (fail)
        go_wp2_with fail
        go_returns
        exact ⟨rfl, HB.out⟩
end Go.Proofs.YtamejgfmfneppaaDoor
