/- The walk of AllocAll. No condition. -/
import Derived.Test.YtegnaeinpacafaaAl3
import Derived.Test.YtegnaeinpacafaaRn
import Derived.Test.YtegnaeinpacafaaFit17
namespace Go.Proofs.Ytegnaeinpacafaa
open Go.RowKit
set_option linter.unusedVariables false
set_option maxHeartbeats 4000000
theorem var2_set {w : World} {bw : Nat} {wv x v : Value} {T : TypeId} (hb : w.heap[bw]? = some (.cells #[wv, x] T (0, 0))) :
    (w.setCell ⟨bw, 0, none⟩ v).heap[bw]? = some (.cells #[v, x] T (0, 0)) ∧ w.grownBy (w.setCell ⟨bw, 0, none⟩ v) (some bw) := by
  refine ⟨by rw [blk_setCell hb v]; rfl, rfl, rfl, rfl, by simp [World.setCell], fun k hk hne => ?_⟩
  exact Below.heap_setCell w ⟨bw, 0, none⟩ v k (fun e => hne (by rw [e]))
theorem var2_set1 {w : World} {bw : Nat} {wv x v : Value} {T : TypeId} (hb : w.heap[bw]? = some (.cells #[wv, x] T (0, 0))) :
    (w.setCell ⟨bw, 1, none⟩ v).heap[bw]? = some (.cells #[wv, v] T (0, 0)) ∧ w.grownBy (w.setCell ⟨bw, 1, none⟩ v) (some bw) := by
  refine ⟨by rw [blk_setCell hb v]; rfl, rfl, rfl, rfl, by simp [World.setCell], fun k hk hne => ?_⟩
  exact Below.heap_setCell w ⟨bw, 1, none⟩ v k (fun e => hne (by rw [e]))
set_option maxRecDepth 100000 in
theorem alllaw (w : World) (p : ProgD) (vf vg : Value) (hin : In w p vf vg) :
    Calls Try.prog 4 #[.agg #[vf, vg, .int .i64 p.data, .int .i64 p.main]] w fun e w' => e = .returned (.bool true) ∧ Below w.heap.size w w' := by
  have HIN := Lib.hid hin
  obtain ⟨A, cap, rfl, _, m3, hi⟩ := hin.funcs
  obtain ⟨A2, cap2, rfl, _, m4, _⟩ := hin.globs
  have HM := Lib.hid (fun w1 h => maybe_any w w1 h p _ _ hin)
  have hfl := hin.flen
  have hgl := hin.glen
  have HF := Lib.hid hi
  clear hi hin m3 m4
  have HB1 := Lib.hid (below_alloc (.cells #[.slice A p.funcs.length cap, .slice A2 p.globals.length cap2, .int .i64 p.data, .int .i64 p.main] 51) (Below.refl w.heap.size w))
  have HBX := Lib.hid (block_box w #[.slice A p.funcs.length cap, .slice A2 p.globals.length cap2, .int .i64 p.data, .int .i64 p.main] 51)
  go_enter Try.func4, Try.ntmps4
  go_wp2_with fail
  refine (fit_vm _).mono ?_
  rintro e w2 ⟨rfl, hb2⟩
  have HB2 := Lib.hid (HB1.out.bt hb2)
  have c0 := later (HBX.out 0 _ rfl) hb2
  have c1 := later (HBX.out 1 _ rfl) hb2
  have c2 := later (HBX.out 2 _ rfl) hb2
  have c3 := later (HBX.out 3 _ rfl) hb2
  clear hb2 HB1
  go_wp2_with fail
  refine (HM.out _ HB2.out).mono ?_
  rintro e w3 ⟨b, rfl, hb, hb3⟩
  have HB3 := Lib.hid (HB2.out.bt hb3)
  have d0 := later c0 hb3
  have HOK := Lib.hid hb
  clear c0 c1 c2 c3 hb3 hb
  cases b
  · go_wp2_with fail
    go_returns
    exact ⟨rfl, HB3.out⟩
  have HLk := Lib.hid (HOK.out rfl).1
  have HPk := Lib.hid (HOK.out rfl).2
  clear HOK HBX HB2
  go_wp2_with fail
  clear d0
  go_loopw [15] (fun i wr => ∃ k : Nat, k ≤ p.funcs.length ∧ i = .int .i64 k ∧ Below w.heap.size w wr) (fun i _ => p.funcs.length - (intOf i).toNat)
  case atStart => exact ⟨0, by omega, rfl, HB3.out⟩
  case round =>
    obtain ⟨k, hk, rfl, hb⟩ := hrel
    have HB5 := Lib.hid hb
    clear hb
    by_cases hlt : k < p.funcs.length
    · obtain ⟨f, hfk⟩ : ∃ f, p.funcs[k]? = some f := ⟨_, List.getElem?_eq_getElem hlt⟩
      obtain ⟨fb, fo, cs, rfl, e1, e2, hfr⟩ := HF.out k f hfk
      have HFO := Lib.hid (HPk.out f (List.mem_of_getElem? hfk))
      have HSl := Lib.hid (HLk.out.slim f (List.mem_of_getElem? hfk))
      obtain ⟨vs, vl, vb, rfl, z1, z2, z3, z4, z5, z6, z7, z8, z9⟩ := hfr
      have HSB := Lib.hid z8
      obtain ⟨A7, cap7, rfl, _, m7, _⟩ := z3
      obtain ⟨A6, cap6, rfl, _, m6, _⟩ := z6
      obtain ⟨A8, cap8, rfl, _, m8, h8⟩ := z8
      have H8 := Lib.hid h8
      have r0 := later (e2 0 (by omega)) HB5.out
      have r1 := later (e2 1 (by omega)) HB5.out
      have r2 := later (e2 2 (by omega)) HB5.out
      have r3 := later (e2 3 (by omega)) HB5.out
      have r4 := later (e2 4 (by omega)) HB5.out
      have r5 := later (e2 5 (by omega)) HB5.out
      rw [Nat.add_zero] at r0
      obtain ⟨R, hR⟩ : ∃ R : Nat, f.regs = (R : Int) := ⟨f.regs.toNat, by have := HFO.out.1.1; have := HFO.out.1.2.1; omega⟩
      have r3' : wr.cell? ⟨fb, fo + k * 6 + 3, none⟩ = some (.int .i64 (R : Nat)) := by rw [← hR]; exact r3
      clear r3
      have hfk' := hfk
      clear e1 e2 h8 hfk m6 m7 m8 z1 z2 z4 z5 z7 z9
      obtain ⟨P, hP⟩ : ∃ P : Nat, f.params = (P : Int) := ⟨f.params.toNat, by have := HFO.out.1.1; omega⟩
      have r1' : wr.cell? ⟨fb, fo + k * 6 + 1, none⟩ = some (.int .i64 (P : Nat)) := by rw [← hP]; exact r1
      have HFL := Lib.hid (HLk.out.2.2 f (List.mem_of_getElem? hfk'))
      have hPR : P ≤ R := by have := HFO.out.1.2.1; omega
      have hR300 : R ≤ 300 := by have := HFL.out.2.1; omega
      have hn2000 : f.blocks.length ≤ 2000 := HFL.out.2.2.1
      have HPR := Lib.hid (And.intro hPR (And.intro hR300 hn2000))
      have HRR := Lib.hid (And.intro hR hP)
      clear r1 hR hP hPR
      have HB6 := Lib.hid (below_alloc (.cells #[.string f.name, .int .i64 (P : Nat), .slice A7 f.secret.length cap7, .int .i64 (R : Nat), .slice A6 f.slots.length cap6, .slice A8 f.blocks.length cap8] 38) HB5.out)
      have HFB := Lib.hid (block_box wr #[.string f.name, .int .i64 (P : Nat), .slice A7 f.secret.length cap7, .int .i64 (R : Nat), .slice A6 f.slots.length cap6, .slice A8 f.blocks.length cap8] 38)
      have HNX := Lib.hid (show ∀ i k, i < f.blocks.length → k ∈ nxF f i → 0 ≤ k ∧ k < f.blocks.length by
        intro i k hi hk
        rw [nxF_of (List.getElem?_eq_getElem hi)] at hk
        exact (HFO.out.2 _ (List.getElem_mem hi)).2.2.2.2.2 k hk)
      have H0n := Lib.hid (show 0 < f.blocks.length from Nat.pos_of_ne_zero HFO.out.1.2.2.2.2)
      have HDst := Lib.hid (show ∀ b ∈ f.blocks, ∀ x ∈ b.ins, -1 ≤ x.dst ∧ x.dst < (R : Int) by
        intro b hb x hx
        have := (HFO.out.2 b hb).1 x hx
        rw [← HRR.out.1]
        exact ⟨this.2.2.2.1, this.2.2.2.2.1⟩)
      go_wp2_with fail
      clear r0 r1' r2 r3' r4 r5 HB5 hn2000
      generalize hgfe : wr.heap.size = gf at *
      obtain ⟨wf, hwf⟩ : ∃ z, z = wr.alloc (.cells #[.string f.name, .int .i64 (P : Nat), .slice A7 f.secret.length cap7, .int .i64 (R : Nat), .slice A6 f.slots.length cap6, .slice A8 f.blocks.length cap8] 38) := ⟨_, rfl⟩
      have hsz : wf.heap.size = gf + 1 := by rw [hwf]; simp [hgfe]
      rw [← hwf] at HB6 HFB ⊢
      clear hwf hgfe
      have HA0 := Lib.hid (blk_new wf (.cells #[.slice none 0 0, .int .i64 0] 45))
      have HBA := Lib.hid (below_alloc (.cells #[.slice none 0 0, .int .i64 0] 45) (Below.refl wf.heap.size wf))
      have hf3 : (wf.alloc (.cells #[.slice none 0 0, .int .i64 0] 45)).cell? ⟨gf, 3, none⟩ = some (.int .i64 (R : Nat)) := later (HFB.out 3 (.int .i64 (R : Nat)) rfl) HBA.out
      have hgfl : gf < wf.heap.size := World.block_lt_of_cell? _ _ (HFB.out 3 (.int .i64 (R : Nat)) rfl)
      have HGL := Lib.hid hgfl
      obtain ⟨ga, hga0⟩ : ∃ z, z = gf + 1 := ⟨_, rfl⟩
      have hga : ga = wf.heap.size := by rw [hga0, hsz]
      rw [← hga] at HA0
      have HG0 := Lib.hid hga0
      clear hga0 hsz
      have HGA := Lib.hid hga
      clear hga
      go_wp2_with fail
      rw [← HG0.out]
      clear hf3 hgfl
      have HOn := Lib.hid (show OwnI (wf.alloc (.cells #[.slice none 0 0, .int .i64 0] 45)) wf.heap.size (.slice none 0 0) (ownP 0) from World.ownsRow_nil _ _ _ _)
      go_loopw [21] (fun s wr => ∃ (r : Nat) (pv : Value), r ≤ R ∧ s = .int .i64 r ∧ wr.heap[ga]? = some (.cells #[pv, .int .i64 0] 45 (0, 0)) ∧ OwnI wr wf.heap.size pv (ownP r) ∧ Below wf.heap.size wf wr) (fun s _ => R - (intOf s).toNat)
      case atStart => exact ⟨0, _, by omega, rfl, HA0.out, HOn.out, HBA.out⟩
      case round =>
        obtain ⟨r, pv, hr, rfl, hA, hO, hB⟩ := hrel
        have HA := Lib.hid hA
        have HO := Lib.hid hO
        have HB := Lib.hid hB
        obtain ⟨Ap, cp, hpv, hpm⟩ := own_slice hO
        rw [ownP_len] at hpv hpm
        subst hpv
        have ka0 : wr.cell? ⟨ga, 0, none⟩ = some (.slice Ap r cp) := blk_cell hA rfl
        have ka1 : wr.cell? ⟨ga, 1, none⟩ = some (.int .i64 0) := blk_cell hA rfl
        have kf0 : wr.frozen? ⟨ga, 0, none⟩ = false := blk_free hA
        have kf1 : wr.frozen? ⟨ga, 1, none⟩ = false := blk_free hA
        have hal := blk_lt hA
        have hf3 := later (HFB.out 3 (.int .i64 (R : Nat)) rfl) HB.out
        have hf5 := World.block_lt_of_cell? _ _ hf3
        clear hA hB
        by_cases hlt2 : r < R
        · obtain ⟨i0, hi, hz0, hz1, hz2⟩ := info_parts Try.infoInt
          obtain ⟨v7, w7, hr7, ho7, hg7, _⟩ := append_one (P := Try.prog) (w := wr) wf.heap.size 36 3 i0 _ 8 Try.underlying36 hi hz0 hz1 hz2 rfl _ _ _ hO (.int .i64 ((5 : Int) + (r : Int))) _ rfl rfl (by rw [ownP_len]; unfold maxLen; omega) (by rw [ownP_len]; omega) (HB.out.size)
          have ho7' : OwnI w7 wf.heap.size v7 (ownP (r + 1)) := by
            have e1 : ownP (r + 1) = ownP r ++ [(5 : Int) + (r : Int)] := by unfold ownP; rw [List.range_succ, List.map_append]; rfl
            unfold OwnI
            rw [e1, List.length_append, show iv (ownP r ++ [(5 : Int) + (r : Int)]) = iv (ownP r) ++ [.int .i64 ((5 : Int) + (r : Int))] by simp [iv]]
            exact ho7
          have hA7 := blk_kept HA.out hg7 (own_blk hO HA.out (by decide))
          obtain ⟨A9, c9, hv9, _⟩ := own_slice ho7'
          rw [ownP_len] at hv9
          subst hv9
          have kc0 : w7.cell? ⟨ga, 0, none⟩ = some (.slice Ap r cp) := blk_cell hA7 rfl
          have kd0 : w7.frozen? ⟨ga, 0, none⟩ = false := blk_free hA7
          have V := var2_set (v := .slice A9 (r + 1) c9) hA7
          have HV := Lib.hid V
          have HO9 := Lib.hid (World.ownsRow.kept ho7' V.2 (own_blk ho7' hA7 (by decide)))
          have HB9 := Lib.hid (below_of_grown (below_of_grown HB.out (Nat.le_refl _) hg7 (fun k hk => (World.ownsRow.lt hO k hk).1)) (Nat.le_refl _) V.2 (fun k hk => by cases hk; exact Nat.le_of_eq HGA.out.symm))
          clear hO ho7 hg7 ho7' hA7 V hi hz0 hz1 hz2
          go_wp2_with (at_builtin; refine wpList_append_run' _ rfl _ _ _ rfl _ _ _ _ rfl rfl hr7 ?_)
          go_roundw
          case rel => exact ⟨r + 1, _, by omega, by go_num, HV.out.1, HO9.out, HB9.out⟩
          case measure => first | omega | (simp [intOf]; done) | (simp [intOf]; omega)
        · have e : r = R := by omega
          subst e
          have V1 := var2_set1 (v := .int .i64 (r : Nat)) HA.out
          have HV1 := Lib.hid V1
          have HW1 := Lib.hid (below_of_grown HB.out (Nat.le_refl _) V1.2 (fun k hk => by cases hk; exact Nat.le_of_eq HGA.out.symm))
          have HO1 := Lib.hid (World.ownsRow.kept hO V1.2 (own_blk hO HA.out (by decide)))
          have HC1 := Lib.hid (check_ok w _ (HB6.out.bt HW1.out) gf 0 f _ (later (HFB.out 5 (.slice A8 f.blocks.length cap8) rfl) HW1.out) r P (later (HFB.out 3 (.int .i64 (r : Nat)) rfl) HW1.out) (later (HFB.out 1 (.int .i64 (P : Nat)) rfl) HW1.out) HPR.out.1 HSB.out H0n.out (by have := HPR.out.2.2; omega) (by have := HPR.out.2.1; omega) HNX.out HSl.out HDst.out wf.heap.size Ap cp HO1.out)
          clear V1 hO
          go_wp2_with fail
          refine HC1.out.mono ?_
          rintro e w8 ⟨rfl, hb8⟩
          have HB8 := Lib.hid (HW1.out.bt hb8)
          have hA8 := blk_kept HV1.out.1 (grown_of_below (r := none) hb8) (Or.inl rfl)
          have HA8 := Lib.hid hA8
          have HO8 := Lib.hid (own_below HO1.out hb8)
          have V2 := var2_set1 (v := .int .i64 ((r : Int) - 1)) hA8
          have HV2 := Lib.hid V2
          have HW2 := Lib.hid (below_of_grown HB8.out (Nat.le_refl _) V2.2 (fun k hk => by cases hk; exact Nat.le_of_eq HGA.out.symm))
          have HO2 := Lib.hid (World.ownsRow.kept HO8.out V2.2 (own_blk HO8.out hA8 (by decide)))
          have kb0 : w8.cell? ⟨ga, 0, none⟩ = some (.slice Ap r cp) := blk_cell hA8 rfl
          have kb1 : w8.cell? ⟨ga, 1, none⟩ = some (.int .i64 (r : Nat)) := blk_cell hA8 rfl
          have kg1 : w8.frozen? ⟨ga, 1, none⟩ = false := blk_free hA8
          have hal8 := blk_lt hA8
          have hg3 := later (HFB.out 3 (.int .i64 (r : Nat)) rfl) HB8.out
          have hg3' := later (HFB.out 3 (.int .i64 (r : Nat)) rfl) HW2.out
          have hg5 := World.block_lt_of_cell? _ _ hg3
          have hne : gf ≠ ga := by rw [HG0.out]; omega
          clear hb8 hA8 V2 HC1 ka0 ka1 kf0 kf1 hal hf3 hf5
          by_cases h0r : r = 0
          · subst h0r
            go_wp2_with fail
            go_roundw
            case rel => exact ⟨k + 1, by omega, by go_num, HB6.out.bt HW2.out⟩
            case measure => simp [intOf]; omega
          · have hrp : 0 < r := by omega
            have HC2 := Lib.hid (check_no _ gf 0 r (later (HFB.out 3 (.int .i64 (r : Nat)) rfl) HW2.out) hrp (by have := HPR.out.2.1; omega) wf.heap.size Ap cp HO2.out)
            clear h0r
            go_wp2_with fail
            refine HC2.out.mono ?_
            rintro e w9 ⟨rfl, hb9⟩
            have HB9 := Lib.hid (HB6.out.bt (HW2.out.bt hb9))
            clear hb9 kb0 kb1 kg1 hal8 hg3 hg3' hg5 HC2
            go_wp2_with fail
            go_roundw
            case rel => exact ⟨k + 1, by omega, by go_num, HB9.out⟩
            case measure => simp [intOf]; omega
    · have e : k = p.funcs.length := by omega
      subst e
      go_wp2_with fail
      go_returns
      exact ⟨rfl, HB5.out⟩
end Go.Proofs.Ytegnaeinpacafaa
