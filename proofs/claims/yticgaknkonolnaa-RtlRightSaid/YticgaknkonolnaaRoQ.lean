/- The walk of Old. No condition. -/
import Derived.Test.YticgaknkonolnaaRoP
import Derived.Test.YticgaknkonolnaaRz
import Derived.Test.YticgaknkonolnaaLt
namespace Go.Proofs.Yticgaknkonolnaa
open Go.RowKit
set_option linter.unusedVariables false
set_option maxHeartbeats 2000000
set_option maxRecDepth 20000
theorem oldp_any (W0 w : World) (h0 : Below W0.heap.size W0 w) (p : ProgD) (vf vg : Value) (hin : In W0 p vf vg) (hL : LightOk p) (hgp : ∀ g ∈ p.globals, g.parts.length ≤ 50) :
    Calls Try.prog 16 #[.agg #[vf, vg, .int .i64 p.data, .int .i64 p.main]] w fun e w' => ∃ pb v u, e = .returned (.pointer (some ⟨pb, 0, none⟩)) ∧ w'.heap[pb]? = some (.cells (progC p v u) 92 (0, 0)) ∧ In w' p v u ∧ Below w.heap.size w w' := by
  have H0 := Lib.hid h0
  have HIN := Lib.hid hin
  have HLI := Lib.hid hL
  have HGP := Lib.hid hgp
  obtain ⟨Af, cf, rfl, _, _, lf⟩ := hin.funcs
  obtain ⟨Ag, cg, rfl, _, _, lg⟩ := hin.globs
  have HF := Lib.hid lf
  have HG := Lib.hid lg
  have hfl := hL.1
  have hgl := hL.2.1
  clear hin hL hgp h0 lf lg
  go_enter Try.func16, Try.ntmps16
  go_wp2_with fail
  go_loopw [20] (fun i wr => ∃ (k : Nat) (v : Value) (css : List (List Value)), k ≤ p.funcs.length ∧ i = .int .i64 k ∧ OldP W0 w wr (.cells #[.slice Af p.funcs.length cf, .slice Ag p.globals.length cg, .int .i64 p.data, .int .i64 p.main] 29 (0, 0)) p k v css) (fun i _ => p.funcs.length - (intOf i).toNat)
  case atStart =>
    refine ⟨0, .slice none 0 0, [], by omega, rfl, ?_, ?_, Grow.nil _ _ _ _ _ _, below_alloc _ (below_alloc _ (Below.refl _ _))⟩
    · exact blk_alloc (blk_new' (by simp)) _
    · exact blk_new' (by simp)
  case round =>
    rename World => wo
    obtain ⟨k, v, css, hk, rfl, hb⟩ := hrel
    have HI := Lib.hid hb
    by_cases hlt : k < p.funcs.length
    · obtain ⟨f, ha⟩ : ∃ f, p.funcs[k]? = some f := ⟨_, List.getElem?_eq_getElem hlt⟩
      have HA := Lib.hid ha
      obtain ⟨b1, o1, cs, rfl, e1, e2, vs, vl, vb, e3, n1, n2, n3, n4, n5, n6, n7, n8, n9⟩ := HF.out k f ha
      subst e3
      have HB0 := Lib.hid (H0.out.trans (hb.below.mono H0.out.size))
      have r0 := later (e2 0 (by omega)) HB0.out
      have r1 := later (e2 1 (by omega)) HB0.out
      have r2 := later (e2 2 (by omega)) HB0.out
      have r3 := later (e2 3 (by omega)) HB0.out
      have r4 := later (e2 4 (by omega)) HB0.out
      have r5 := later (e2 5 (by omega)) HB0.out
      rw [Nat.add_zero] at r0
      have l0 := World.block_lt_of_cell? _ _ r0
      obtain ⟨As, cas, rfl, _, _, _⟩ := id n3
      obtain ⟨Al, cal, rfl, _, _, _⟩ := id n6
      obtain ⟨Ab, cab, rfl, _, _, _⟩ := id n8
      have hsz := hb.below.size
      have q0 : wo.cell? ⟨w.heap.size + 1, 0, none⟩ = some v := blk_cell hb.ob rfl
      have lq := blk_lt hb.ob
      have HFL := Lib.hid (HLI.out.2.2 f (List.mem_of_getElem? ha))
      have HSS := Lib.hid n3
      have HSL := Lib.hid n6
      have HSB := Lib.hid n8
      have HX := Lib.hid (And.intro n1 (And.intro n2 (And.intro n4 (And.intro n5 (And.intro n7 n9)))))
      clear e1 e2 ha hb n1 n2 n3 n4 n5 n6 n7 n8 n9
      go_wp2_with fail
      obtain ⟨w1, hw1⟩ : ∃ z, z = wo.alloc (.cells #[.string f.name, .int .i64 f.params, .slice As f.secret.length cas, .int .i64 f.regs, .slice Al f.slots.length cal, .slice Ab f.blocks.length cab] 44) := ⟨_, rfl⟩
      have hbx : w1.heap[wo.heap.size]? = some (.cells #[.string f.name, .int .i64 f.params, .slice As f.secret.length cas, .int .i64 f.regs, .slice Al f.slots.length cal, .slice Ab f.blocks.length cab] 44 (0, 0)) := by rw [hw1]; exact blk_new wo _
      have hb01 : Below wo.heap.size wo w1 := by rw [hw1]; exact below_alloc _ (Below.refl _ _)
      rw [← hw1]
      have t0 := blk_cell (i := 0) hbx rfl
      have t1 := blk_cell (i := 1) hbx rfl
      have t2 := blk_cell (i := 2) hbx rfl
      have t3 := blk_cell (i := 3) hbx rfl
      have t4 := blk_cell (i := 4) hbx rfl
      have t5 := blk_cell (i := 5) hbx rfl
      have lt1 := blk_lt hbx
      have q1 := later q0 hb01
      have hq1 := World.block_lt_of_cell? _ _ q1
      have HC1 := Lib.hid (HB0.out.trans (hb01.mono HB0.out.size))
      have HADD := Lib.hid (fun (w2 : World) (vb : Value) (hR : ∀ w'', Foot W0.heap.size w1.heap.size w2 w'' → SlR w'' 9 (BlockR w'') vb f.blocks) (hb : Below w1.heap.size w1 w2) (hsl : ∃ A c, vb = .slice A f.blocks.length c) => HI.out.add (vs := .slice As f.secret.length cas) (vl := .slice Al f.slots.length cal) (vb := vb) HA.out (hb01.bt hb) hb01.size hb.size hsz H0.out.size (by omega)
        (fun w'' hf => ⟨_, _, _, rfl, HX.out.1, HX.out.2.1, HSS.out.foot (by decide) (fun b hl => (hf b (Or.inl hl) (by have := HC1.out.size; have := hb.size; omega)).trans ((hb.block b (by have := HC1.out.size; omega)).trans (HC1.out.block b hl))), HX.out.2.2.1, HX.out.2.2.2.1, HSL.out.foot (by decide) (fun b hl => (hf b (Or.inl hl) (by have := HC1.out.size; have := hb.size; omega)).trans ((hb.block b (by have := HC1.out.size; omega)).trans (HC1.out.block b hl))), HX.out.2.2.2.2.1, hR w'' hf, HX.out.2.2.2.2.2⟩)
        (by
          obtain ⟨A, c, rfl⟩ := hsl
          intro u hu
          simp only [funcC, List.mem_cons, List.not_mem_nil, or_false] at hu
          rcases hu with h | h | h | h | h | h <;> (subst h; rfl)))
      have HBC := Lib.hid (fun b hb => ⟨(HFL.out.2.2.2.2 b hb).1, fun x hx => ((HFL.out.2.2.2.2 b hb).2 x hx).1⟩ : ∀ b ∈ f.blocks, b.ins.length ≤ 2000 ∧ ∀ x ∈ b.ins, x.args.length ≤ 4000)
      clear hw1 hbx hb01 r0 r1 r2 r3 r4 r5 q0 l0
      go_region_law (first
        | (refine step_append_run rfl (.tmp 28) (.tmp 31) 89 rfl _ _ _ _ rfl rfl hr ?_)
        | (go_simp; go_at_call 41; refine (oldf_any W0 w1.drew (HC1.out.trans ((Below.drew (Below.refl _ _)).mono HC1.out.size)) f (.slice As f.secret.length cas) (.slice Al f.slots.length cal) (.slice Ab f.blocks.length cab) HSS.out HSL.out HSB.out HFL.out.2.2.1 HBC.out).mono ?_; rintro e w2 ⟨va, rfl, hR, hbw⟩; have hb12 : Below w1.heap.size w1 w2 := ⟨hbw.os, hbw.tape, hbw.output, hbw.size, hbw.block⟩; have q2 := later q1 hb12; have hq2 := World.block_lt_of_cell? _ _ q2; obtain ⟨A9, c9, hv9, _⟩ := id (hR w2 (Foot.refl _ _ _)); subst hv9; obtain ⟨v3, w3, hr, f1, f2, f3, ⟨A3, m3, c3, rfl⟩, HN0⟩ := HADD.out w2 _ hR hb12 ⟨_, _, rfl⟩; have HN := Lib.hid HN0; clear HN0; unfold funcC at hr ⊢))
      all_goals
        go_wp2_with fail
        go_roundw
        case rel => exact ⟨k + 1, _, _, by omega, by go_num, HN.out⟩
        case measure => simp [intOf]; omega
    · have e : k = p.funcs.length := by omega
      subst e
      obtain ⟨Ar, cr, rfl, _⟩ := (show ∃ A cap, v = .slice A p.funcs.length cap ∧ p.funcs.length ≤ maxLen from by have h := hb.row.slice; rw [List.take_length] at h; exact h)
      have hrow := hb.row
      rw [List.take_length] at hrow
      have HFU := Lib.hid (fun (w' : World) (hf : Foot W0.heap.size (w.heap.size + 2) wo w') => hrow.slR w' hf)
      have HOB := Lib.hid hb.ob
      have HBB := Lib.hid hb.below
      have hlo := blk_lt hb.ob
      have x1 := blk_cell (i := 1) hb.box rfl
      have lx := blk_lt hb.box
      have hs1 : w.heap.size + 2 ≤ wo.heap.size := by have := blk_lt hb.ob; omega
      clear hrow hb hk hlt
      go_wp2_with fail
      go_loopw [39] (fun i wr => ∃ (k : Nat) (u : Value) (dss : List (List Value)), k ≤ p.globals.length ∧ i = .int .i64 k ∧ OldQ W0 w wo wr p k (.slice Ar p.funcs.length cr) u dss) (fun i _ => p.globals.length - (intOf i).toNat)
      case atStart =>
        exact ⟨0, .slice none 0 0, [], by omega, rfl, HOB.out, Foot.refl _ _ _, Nat.le_refl _, Grow.nil _ _ _ _ _ _, HBB.out⟩
      case round =>
        rename World => wi
        obtain ⟨k, u, dss, hk, rfl, hb⟩ := hrel
        have HI2 := Lib.hid hb
        by_cases hlt : k < p.globals.length
        · obtain ⟨g, ha⟩ : ∃ g, p.globals[k]? = some g := ⟨_, List.getElem?_eq_getElem hlt⟩
          have HA := Lib.hid ha
          obtain ⟨b1, o1, cs, rfl, e1, e2, vp, e3, n1, n2, n3, n4, n5⟩ := HG.out k g ha
          subst e3
          have HB0 := Lib.hid (H0.out.trans (hb.below.mono H0.out.size))
          have r0 := later (e2 0 (by omega)) HB0.out
          have r1 := later (e2 1 (by omega)) HB0.out
          have r2 := later (e2 2 (by omega)) HB0.out
          have r3 := later (e2 3 (by omega)) HB0.out
          rw [Nat.add_zero] at r0
          have l0 := World.block_lt_of_cell? _ _ r0
          obtain ⟨Ap, cap, rfl, _, _, lp⟩ := id n4
          have HP := Lib.hid lp
          have hsz := hb.size
          have hgl5 := HGP.out g (List.mem_of_getElem? ha)
          have HX := Lib.hid (And.intro n1 (And.intro n2 (And.intro n3 n5)))
          clear e1 e2 ha hb n1 n2 n3 n4 n5 lp
          go_wp2_with fail
          go_loopw [53] (fun i wr => ∃ (j : Nat) (v2 : Value) (css2 : List (List Value)), j ≤ g.parts.length ∧ i = .int .i64 j ∧ OldG W0 wi wr g j v2 css2) (fun i _ => g.parts.length - (intOf i).toNat)
          case atStart =>
            refine ⟨0, .slice none 0 0, [], by omega, rfl, ?_, Grow.nil _ _ _ _ _ _, below_alloc _ (below_alloc _ (Below.refl _ _))⟩
            exact blk_new' (by simp)
          case round =>
            rename World => wj
            obtain ⟨j, v2, css2, hj, rfl, hb2⟩ := hrel
            have HI3 := Lib.hid hb2
            have hsz2 := hb2.below.size
            by_cases hlt2 : j < g.parts.length
            · obtain ⟨y, hy⟩ : ∃ y, g.parts[j]? = some y := ⟨_, List.getElem?_eq_getElem hlt2⟩
              have HY := Lib.hid hy
              obtain ⟨b3, o3, cs3, rfl, e1, e2, vd, e3, p1, p2, p3, p4⟩ := HP.out j y hy
              subst e3
              have HB1 := Lib.hid (HB0.out.trans (hb2.below.mono HB0.out.size))
              have s0 := later (e2 0 (by omega)) HB1.out
              have s1 := later (e2 1 (by omega)) HB1.out
              have s2 := later (e2 2 (by omega)) HB1.out
              rw [Nat.add_zero] at s0
              have ls0 := World.block_lt_of_cell? _ _ s0
              obtain ⟨Ad, cd, rfl, _, _, _⟩ := id p2
              have q0 : wj.cell? ⟨wi.heap.size + 1, 3, none⟩ = some v2 := blk_cell hb2.bl rfl
              have lq := blk_lt hb2.bl
              obtain ⟨v3, w3, hr, f1, f2, f3, ⟨A3, m3, c3, rfl⟩, HN0⟩ := hb2.add hy HB1.out (by have := H0.out.size; omega) (by omega) p2 p3 ⟨p1, p4⟩
              have HN := Lib.hid HN0
              rw [show (wj.alloc (.cells (partC y (.slice Ad y.data.length cd)) 84)).heap.size = wj.heap.size + 1 by simp] at hr
              clear HN0 e1 e2 hy hb2 p1 p2 p3 p4
              go_wp2_with (at_builtin; refine wpList_append_run' _ rfl _ _ _ rfl _ _ _ _ rfl rfl hr ?_)
              go_roundw
              case rel => exact ⟨j + 1, _, _, by omega, by go_num, HN.out⟩
              case measure => simp [intOf]; omega
            · have e : j = g.parts.length := by omega
              subst e
              obtain ⟨Ar2, cr2, rfl, _⟩ := (show ∃ A cap, v2 = .slice A g.parts.length cap ∧ g.parts.length ≤ maxLen from by have h := hb2.row.slice; rw [List.take_length] at h; exact h)
              have x1 : wj.cell? ⟨w.heap.size + 1, 1, none⟩ = some u := by
                have h1 := HI2.out.ob
                exact blk_cell (blk_below h1 hb2.below) rfl
              have lx1 := World.block_lt_of_cell? _ _ x1
              have p0 : ∀ i u, (globC g (.slice Ar2 g.parts.length cr2))[i]? = some u → wj.cell? ⟨wi.heap.size + 1, i, none⟩ = some u := fun i u hi => blk_cell hb2.bl hi
              have s0 := p0 0 _ rfl
              have s1 := p0 1 _ rfl
              have s2 := p0 2 _ rfl
              have s3 := p0 3 _ rfl
              have lb := blk_lt hb2.bl
              obtain ⟨v3, w3, hr, f1, f2, f3, ⟨A3, m3, c3, rfl⟩, HN0⟩ := HI2.out.add HA.out (show OldG W0 wi wj.drew g g.parts.length _ _ from ⟨hb2.bl, hb2.row.later (Below.drew (Below.refl _ _)), Below.drew hb2.below⟩) hs1 H0.out.size (by omega) HX.out
              have HN := Lib.hid HN0
              clear HN0 hb2 p0 r0 r1 r2 r3 l0
              have HR : (Builtin.append_ #[90, 90] 90 #[u, .slice (some ⟨wj.heap.size, 0, none⟩) 1 1]).run Try.prog ((wj.alloc (.cells #[.string g.name, .int .i64 g.at_, .int .i64 g.size, .slice Ar2 g.parts.length cr2] 98)).drew) = .ok (.slice A3 m3 c3) w3 := hr
              clear hr
              go_wp2_with fail
              go_region_law (first
                | (refine step_append_run rfl (.tmp 68) (.tmp 70) 90 rfl _ _ _ _ rfl rfl HR ?_))
              all_goals
                go_wp2_with fail
                go_roundw
                case rel => exact ⟨k + 1, _, _, by omega, by go_num, HN.out⟩
                case measure => simp [intOf]; omega
        · have e : k = p.globals.length := by omega
          subst e
          obtain ⟨Ar2, cr2, rfl, _⟩ := (show ∃ A cap, u = .slice A p.globals.length cap ∧ p.globals.length ≤ maxLen from by have h := hb.row.slice; rw [List.take_length] at h; exact h)
          have hrow := hb.row
          rw [List.take_length] at hrow
          have HE := Lib.hid (⟨_, _, _, rfl, hb.ob, ⟨HFU.out wi hb.foot, by omega, hrow.slR wi (Foot.refl _ _ _), by omega, HIN.out.data, HIN.out.main⟩, hb.below⟩ : ∃ pb v u, (Ending.returned (.pointer (some ⟨w.heap.size + 1, 0, none⟩)) = .returned (.pointer (some ⟨pb, 0, none⟩))) ∧ wi.heap[pb]? = some (.cells (progC p v u) 92 (0, 0)) ∧ In wi p v u ∧ Below w.heap.size w wi)
          clear hrow hb
          go_wp2_with fail
          go_returns
          exact HE.out
end Go.Proofs.Yticgaknkonolnaa
