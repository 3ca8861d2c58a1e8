/- The walk of GraphApart. No condition. -/
import Derived.Test.YtednnkhomfabaaaGa3
import Derived.Test.YtednnkhomfabaaaFit16
namespace Go.Proofs.Ytednnkhomfabaaa
open Go.RowKit
set_option linter.unusedVariables false
set_option maxHeartbeats 4000000
set_option maxRecDepth 100000 in
theorem apartlaw (w : World) (p : ProgD) (vf vg : Value) (hin : In w p vf vg) :
    Calls Try.prog 3 #[.agg #[vf, vg, .int .i64 p.data, .int .i64 p.main]] w fun e w' => e = .returned (.bool true) ∧ Below w.heap.size w w' := by
  have HIN := Lib.hid hin
  obtain ⟨A, cap, rfl, _, m3, hi⟩ := hin.funcs
  obtain ⟨A2, cap2, rfl, _, m4, _⟩ := hin.globs
  have HM := Lib.hid (fun w1 h => maybe_any w w1 h p _ _ hin)
  have hfl := hin.flen
  have hgl := hin.glen
  have HF := Lib.hid hi
  clear hi hin m3 m4
  have HB1 := Lib.hid (below_alloc (.cells #[.slice A p.funcs.length cap, .slice A2 p.globals.length cap2, .int .i64 p.data, .int .i64 p.main] 25) (Below.refl w.heap.size w))
  have HBX := Lib.hid (block_box w #[.slice A p.funcs.length cap, .slice A2 p.globals.length cap2, .int .i64 p.data, .int .i64 p.main] 25)
  go_enter Try.func3, Try.ntmps3
  go_wp2_with fail
  refine (fit_vm _).mono ?_
  rintro e w2 ⟨rfl, hb2⟩
  have HB2 := Lib.hid (HB1.out.bt hb2)
  have c0 := later (HBX.out 0 _ rfl) hb2
  have c1 := later (HBX.out 1 _ rfl) hb2
  have c2 := later (HBX.out 2 _ rfl) hb2
  have c3 := later (HBX.out 3 _ rfl) hb2
  clear hb2 HB1
  go_wp2_with fail
  refine (HM.out _ HB2.out).mono ?_
  rintro e w3 ⟨b, rfl, hb, hb3⟩
  have HB3 := Lib.hid (HB2.out.bt hb3)
  have d0 := later c0 hb3
  have HOK := Lib.hid hb
  clear c0 c1 c2 c3 hb3 hb
  cases b
  · go_wp2_with fail
    go_returns
    exact ⟨rfl, HB3.out⟩
  have HLk := Lib.hid (HOK.out rfl).1
  have HPk := Lib.hid (HOK.out rfl).2
  clear HOK HBX HB2
  go_wp2_with fail
  clear d0
  go_loopw [19] (fun i wr => ∃ k : Nat, k ≤ p.funcs.length ∧ i = .int .i64 k ∧ Below w.heap.size w wr) (fun i _ => p.funcs.length - (intOf i).toNat)
  case atStart => exact ⟨0, by omega, rfl, HB3.out⟩
  case round =>
    obtain ⟨k, hk, rfl, hb⟩ := hrel
    have HB5 := Lib.hid hb
    clear hb
    by_cases hlt : k < p.funcs.length
    · obtain ⟨f, hfk⟩ : ∃ f, p.funcs[k]? = some f := ⟨_, List.getElem?_eq_getElem hlt⟩
      obtain ⟨fb, fo, cs, rfl, e1, e2, hfr⟩ := HF.out k f hfk
      obtain ⟨R, P, hFN⟩ := FnOk.of (HPk.out f (List.mem_of_getElem? hfk)) (HLk.out.2.2 f (List.mem_of_getElem? hfk))
      have HFN := Lib.hid hFN
      obtain ⟨vs, vl, vb, rfl, z1, z2, z3, z4, z5, z6, z7, z8, z9⟩ := hfr
      have HSB := Lib.hid z8
      obtain ⟨A7, cap7, rfl, _, m7, _⟩ := z3
      obtain ⟨A6, cap6, rfl, _, m6, _⟩ := z6
      obtain ⟨A8, cap8, rfl, _, m8, h8⟩ := z8
      have H8 := Lib.hid h8
      have r0 := later (e2 0 (by omega)) HB5.out
      have r1 : wr.cell? ⟨fb, fo + k * 6 + 1, none⟩ = some (.int .i64 (P : Nat)) := by rw [← hFN.par]; exact later (e2 1 (by omega)) HB5.out
      have r2 := later (e2 2 (by omega)) HB5.out
      have r3 : wr.cell? ⟨fb, fo + k * 6 + 3, none⟩ = some (.int .i64 (R : Nat)) := by rw [← hFN.regs]; exact later (e2 3 (by omega)) HB5.out
      have r4 := later (e2 4 (by omega)) HB5.out
      have r5 := later (e2 5 (by omega)) HB5.out
      rw [Nat.add_zero] at r0
      clear e1 e2 h8 hfk m6 m7 m8 z1 z2 z4 z5 z7 z9 hFN
      have hR300 := HFN.out.hR
      have hn2000 := HFN.out.hn
      have hPR := HFN.out.hPR
      by_cases hbig : 100 < R
      · go_wp2_with fail
        go_roundw
        case rel => exact ⟨k + 1, by omega, by go_num, below_alloc _ HB5.out⟩
        case measure => first | omega | (simp [intOf]; done) | (simp [intOf]; omega)
      have HB6 := Lib.hid (below_alloc (.cells #[.string f.name, .int .i64 (P : Nat), .slice A7 f.secret.length cap7, .int .i64 (R : Nat), .slice A6 f.slots.length cap6, .slice A8 f.blocks.length cap8] 32) HB5.out)
      have HFB := Lib.hid (blk_new wr (.cells #[.string f.name, .int .i64 (P : Nat), .slice A7 f.secret.length cap7, .int .i64 (R : Nat), .slice A6 f.slots.length cap6, .slice A8 f.blocks.length cap8] 32))
      go_wp2_with fail
      clear r0 r1 r2 r3 r4 r5
      generalize hgfe : wr.heap.size = gf at *
      obtain ⟨wf, hwf⟩ : ∃ z, z = wr.alloc (.cells #[.string f.name, .int .i64 (P : Nat), .slice A7 f.secret.length cap7, .int .i64 (R : Nat), .slice A6 f.slots.length cap6, .slice A8 f.blocks.length cap8] 32) := ⟨_, rfl⟩
      rw [← hwf] at HB6 HFB ⊢
      clear hwf hgfe
      refine (of_fn w wf HB6.out gf f R P HFN.out _ (blk_cell HFB.out rfl) (blk_cell HFB.out rfl) (blk_cell HFB.out rfl) HSB.out).mono ?_
      rintro e wo ⟨L0, L1, gb, av, cv, mv, uv, vs, rfl, hG, hbo⟩
      have HG := Lib.hid hG
      have HBO := Lib.hid hbo
      have HB7 := Lib.hid (HB6.out.trans (hbo.mono HB6.out.size))
      have HF7 := Lib.hid ((hbo.block gf (blk_lt HFB.out)).trans HFB.out)
      clear hG hbo
      have q0 : wo.cell? ⟨gf, 0, none⟩ = some (.string f.name) := blk_cell HF7.out rfl
      have q1 : wo.cell? ⟨gf, 1, none⟩ = some (.int .i64 (P : Nat)) := blk_cell HF7.out rfl
      have q2 : wo.cell? ⟨gf, 2, none⟩ = some (.slice A7 f.secret.length cap7) := blk_cell HF7.out rfl
      have q3 : wo.cell? ⟨gf, 3, none⟩ = some (.int .i64 (R : Nat)) := blk_cell HF7.out rfl
      have q4 : wo.cell? ⟨gf, 4, none⟩ = some (.slice A6 f.slots.length cap6) := blk_cell HF7.out rfl
      have q5 : wo.cell? ⟨gf, 5, none⟩ = some (.slice A8 f.blocks.length cap8) := blk_cell HF7.out rfl
      have lq := blk_lt HF7.out
      have HIN2 := Lib.hid (show ∀ b ∈ f.blocks, ∀ x ∈ b.ins, In64 x.dst by
        intro b hb x hx
        have h1 := (HFN.out.hdst b hb x hx).1
        exact ⟨by omega, by omega⟩)
      go_wp2_with fail
      refine (apart_any w wo HB7.out f R P HFN.out A6 A7 A8 _ _ _ _ _ HSB.out HIN2.out).mono ?_
      rintro e wp ⟨Bp, gl, gm, gs, hBp, rfl, hA, hbp⟩
      have HA := Lib.hid hA
      have HG2 := Lib.hid (HG.out.more hbp)
      have HB8 := Lib.hid (HB7.out.trans (hbp.mono HB7.out.size))
      have HF8 := Lib.hid ((hbp.block gf (blk_lt HF7.out)).trans HF7.out)
      have p3 : wp.cell? ⟨gf, 3, none⟩ = some (.int .i64 (R : Nat)) := blk_cell HF8.out rfl
      have lp := blk_lt HF8.out
      clear hA hbp q0 q1 q2 q3 q4 q5 lq HG HB7 hBp
      obtain ⟨EE, hEE⟩ : ∃ z, z = gE f R P := ⟨_, rfl⟩
      obtain ⟨MM, hMM⟩ : ∃ z, z = gM f := ⟨_, rfl⟩
      obtain ⟨UU, hUU⟩ : ∃ z, z = blU R (blkF f) f.blocks.length := ⟨_, rfl⟩
      obtain ⟨CC, hCC⟩ : ∃ z, z = blC (blkF f) f.blocks.length := ⟨_, rfl⟩
      have HG3 := Lib.hid (show GrR wp wf.heap.size L0 L1 gb R av cv mv uv vs EE MM UU CC by rw [hEE, hMM, hUU, hCC]; exact HG2.out)
      rw [← hEE, ← hMM] at HA
      have HIr := Lib.hid (show ∀ a, EE a a = false by rw [hEE]; exact gE_self f R P)
      clear hEE hMM hUU hCC HG2
      go_wp2_with fail
      go_loopw [34] (fun i wr => ∃ a : Nat, a ≤ R ∧ i = .int .i64 a ∧ GrR wr wf.heap.size L0 L1 gb R av cv mv uv vs EE MM UU CC ∧ ApR wr Bp gl gm R gs EE MM ∧ wr.heap[gf]? = some (.cells #[.string f.name, .int .i64 (P : Nat), .slice A7 f.secret.length cap7, .int .i64 (R : Nat), .slice A6 f.slots.length cap6, .slice A8 f.blocks.length cap8] 32 (0, 0)) ∧ Below w.heap.size w wr) (fun i _ => R - (intOf i).toNat)
      case atStart => exact ⟨0, by omega, rfl, HG3.out, HA.out, HF8.out, HB8.out⟩
      case round =>
        obtain ⟨a, ha, rfl, hg, hap, hf, hb⟩ := hrel
        have HG4 := Lib.hid hg
        have HA4 := Lib.hid hap
        have HF4 := Lib.hid hf
        have HB4 := Lib.hid hb
        have p3 : wr.cell? ⟨gf, 3, none⟩ = some (.int .i64 (R : Nat)) := blk_cell hf rfl
        have lp := blk_lt hf
        clear hg hap hf hb HG3 HA HF8 HB8
        by_cases hlta : a < R
        · go_wp2_with fail
          clear p3 lp
          go_loopw [39, 9] (fun i n wr => ∃ b : Nat, b ≤ R ∧ i = .int .i64 b ∧ n = .int .i64 (cnt (fun b => EE a b && MM b) b : Nat) ∧ GrR wr wf.heap.size L0 L1 gb R av cv mv uv vs EE MM UU CC ∧ ApR wr Bp gl gm R gs EE MM ∧ wr.heap[gf]? = some (.cells #[.string f.name, .int .i64 (P : Nat), .slice A7 f.secret.length cap7, .int .i64 (R : Nat), .slice A6 f.slots.length cap6, .slice A8 f.blocks.length cap8] 32 (0, 0)) ∧ Below w.heap.size w wr) (fun i _ _ => R - (intOf i).toNat)
          case atStart => exact ⟨0, by omega, rfl, rfl, HG4.out, HA4.out, HF4.out, HB4.out⟩
          case round =>
            obtain ⟨b, hb, rfl, rfl, hg, hap, hf, hbb⟩ := hrel
            have HG5 := Lib.hid hg
            have HA5 := Lib.hid hap
            have HF5 := Lib.hid hf
            have HB5' := Lib.hid hbb
            have hcl := cnt_le (fun b => EE a b && MM b) b
            clear hg hap hf hbb HG4 HA4 HF4 HB4
            obtain ⟨g8, cap8', hav⟩ := HG5.out.formA (by omega)
            have kg0 : wr.cell? ⟨gb, 0, none⟩ = some av := blk_cell HG5.out.blk rfl
            have lg0 := blk_lt HG5.out.blk
            obtain ⟨va, e1, e2⟩ := HG5.out.at_ hlta
            have HVA := Lib.hid e2
            rw [hav] at kg0
            have kga : wr.cell? ⟨g8, a, none⟩ = some va := by
              have := HG5.out
              rw [hav] at this
              exact this.cellA hlta e1
            have lga := World.block_lt_of_cell? _ _ kga
            clear e1 e2
            by_cases hltb : b < R
            · obtain ⟨kl1, kl2⟩ := HA5.out.cellL hlta
              obtain ⟨kr1, _, kr3⟩ := (HA5.out.rows a hlta).cell hltb
              obtain ⟨km1, _, km3⟩ := HA5.out.mem.cell hltb
              have A1 := Lib.hid (fun q => (has_b (wr.drewN q) b (HVA.out.more (below_drewN (Below.refl _ _) q)) (by omega) hltb).mono (fun _ _ h => (⟨h.1, h.2.symm⟩ : _ ∧ _)))
              obtain ⟨cn, hcn⟩ : ∃ z, z = cnt (fun b => EE a b && MM b) b := ⟨_, rfl⟩
              rw [← hcn] at hcl ⊢
              have HCN := Lib.hid hcn
              obtain ⟨eb, heb⟩ : ∃ z, z = EE a b := ⟨_, rfl⟩
              obtain ⟨mb, hmb⟩ : ∃ z, z = MM b := ⟨_, rfl⟩
              have HN := Lib.hid (fun (h : (eb && mb) = false) => cnt_no (p := fun b => EE a b && MM b) (n := b) (by show (EE a b && MM b) = false; rw [← heb, ← hmb, h]))
              have HY := Lib.hid (fun (h : (eb && mb) = true) => cnt_yes (p := fun b => EE a b && MM b) (n := b) (by show (EE a b && MM b) = true; rw [← heb, ← hmb, h]))
              rw [← heb] at A1 kr1
              rw [← hmb] at km1
              have D5 := Lib.hid (fun q => And.intro (HG5.out.more (below_drewN (Below.refl _ _) q)) (And.intro (HA5.out.more (below_drewN (Below.refl _ _) q)) (below_drewN HB5'.out q)))
              clear hcn heb hmb hav
              cases eb <;> cases mb
              all_goals
                go_wp2_with fail
                go_quiet ((go_at_call 10; with_reducible exact Calls.quiet_of_same (A1.out _)))
                go_wp2_with fail
                go_roundw
                case rel => exact ⟨b + 1, by omega, by go_num, by first | rw [HN.out rfl, ← HCN.out] | (rw [HY.out rfl, ← HCN.out]; rfl), (D5.out _).1, (D5.out _).2.1, HF5.out, (D5.out _).2.2⟩
                case measure => first | omega | (simp [intOf]; done) | (simp [intOf]; omega)
            · have e : R = b := by omega
              subst e
              have HCQ := Lib.hid (show cnt (degB EE MM a) R = cnt (fun b => EE a b && MM b) R from cnt_congr R (fun i _ => by
                unfold degB
                by_cases e : i = a
                · subst e; rw [HIr.out]; simp
                · simp [e, Bool.and_comm]))
              obtain ⟨km1, _, km3⟩ := HA5.out.mem.cell hlta
              obtain ⟨Am, km, hmv⟩ := HG5.out.sm.slice_
              have kg2 : wr.cell? ⟨gb, 2, none⟩ = some mv := blk_cell HG5.out.blk rfl
              have A1 := Lib.hid (fun q => (has_b (wr.drewN q) a (HG5.out.sm.more (below_drewN (Below.refl _ _) q)) (by omega) hlta).mono (fun _ _ h => (⟨h.1, h.2.symm⟩ : _ ∧ _)))
              have A2 := Lib.hid (fun q => (degree_any (HG5.out.more (below_drewN (Below.refl _ _) q)) (by omega) a hlta _ mv _ (HG5.out.sm.more (below_drewN (Below.refl _ _) q))).mono (fun _ _ h => (⟨h.1, h.2.symm⟩ : _ ∧ _)))
              rw [HCQ.out] at A2
              obtain ⟨cn, hcn⟩ : ∃ z, z = cnt (fun b => EE a b && MM b) R := ⟨_, rfl⟩
              rw [← hcn] at hcl A2 ⊢
              obtain ⟨mb, hmb⟩ : ∃ z, z = MM a := ⟨_, rfl⟩
              rw [← hmb] at A1 km1
              have D5 := Lib.hid (fun q => And.intro (HG5.out.more (below_drewN (Below.refl _ _) q)) (And.intro (HA5.out.more (below_drewN (Below.refl _ _) q)) (below_drewN HB5'.out q)))
              have b9 : ((cn : Int) != (cn : Int)) = false := by simp
              clear hcn hmb hav hmv HCQ
              cases mb
              all_goals
                go_wp2_with fail
                go_quiet (first | (go_at_call 10; with_reducible exact Calls.quiet_of_same (A1.out _)) | (go_at_call 11; with_reducible exact Calls.quiet_of_same (A2.out _)))
                go_wp2_with fail
                go_roundw
                case rel => exact ⟨a + 1, by omega, by go_num, (D5.out _).1, (D5.out _).2.1, HF5.out, (D5.out _).2.2⟩
                case measure => first | omega | (simp [intOf]; done) | (simp [intOf]; omega)
        · have e : R = a := by omega
          go_wp2_with fail
          go_roundw
          case rel => exact ⟨k + 1, by omega, by go_num, HB4.out⟩
          case measure => first | omega | (simp [intOf]; done) | (simp [intOf]; omega)
    · have e : k = p.funcs.length := by omega
      subst e
      go_wp2_with fail
      go_returns
      exact ⟨rfl, HB5.out⟩
end Go.Proofs.Ytednnkhomfabaaa
