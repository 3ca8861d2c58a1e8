/- The walk of FlowBack. No condition. -/
import Derived.Test.YtcljdhpdknecjaaFl9
import Derived.Test.YtcljdhpdknecjaaRn
import Derived.Test.YtcljdhpdknecjaaFit11
namespace Go.Proofs.Ytcljdhpdknecjaa
open Go.RowKit
set_option linter.unusedVariables false
set_option maxHeartbeats 4000000
def anyT (p : Int → Bool) (l : List Int) (j : Nat) : Bool := (l.take j).any p
theorem anyT_succ (p : Int → Bool) (l : List Int) (j : Nat) (k : Int) (h : l[j]? = some k) : anyT p l (j + 1) = (anyT p l j || p k) := by
  unfold anyT; rw [List.take_add_one, h]; simp
theorem s7_step {w w1 w2 : World} {gf gi b : Nat} {a0 a1 a2 a3 a4 a5 a6 : Value} (hb : Below w1.heap.size w1 w2) (h : (w1.cell? ⟨gf, 0, none⟩ = some a0 ∧ w1.cell? ⟨gf, 1, none⟩ = some a1 ∧ w1.cell? ⟨gf, 2, none⟩ = some a2 ∧ w1.cell? ⟨gf, 3, none⟩ = some a3 ∧ w1.cell? ⟨gf, 4, none⟩ = some a4 ∧ w1.cell? ⟨gf, 5, none⟩ = some a5 ∧ w1.cell? ⟨gi, b, none⟩ = some a6) ∧ Below w.heap.size w w1) :
    (w2.cell? ⟨gf, 0, none⟩ = some a0 ∧ w2.cell? ⟨gf, 1, none⟩ = some a1 ∧ w2.cell? ⟨gf, 2, none⟩ = some a2 ∧ w2.cell? ⟨gf, 3, none⟩ = some a3 ∧ w2.cell? ⟨gf, 4, none⟩ = some a4 ∧ w2.cell? ⟨gf, 5, none⟩ = some a5 ∧ w2.cell? ⟨gi, b, none⟩ = some a6) ∧ Below w.heap.size w w2 := by
  obtain ⟨⟨h0, h1, h2, h3, h4, h5, h6⟩, h7⟩ := h
  exact ⟨⟨later h0 hb, later h1 hb, later h2 hb, later h3 hb, later h4 hb, later h5 hb, later h6 hb⟩, h7.bt hb⟩
theorem s7_to {w w2 : World} {gf gi b : Nat} {a0 a1 a2 a3 a4 a5 a6 : Value} (h : (w.cell? ⟨gf, 0, none⟩ = some a0 ∧ w.cell? ⟨gf, 1, none⟩ = some a1 ∧ w.cell? ⟨gf, 2, none⟩ = some a2 ∧ w.cell? ⟨gf, 3, none⟩ = some a3 ∧ w.cell? ⟨gf, 4, none⟩ = some a4 ∧ w.cell? ⟨gf, 5, none⟩ = some a5 ∧ w.cell? ⟨gi, b, none⟩ = some a6) ∧ Below w.heap.size w w) (hb : Below w.heap.size w w2) :
    (w2.cell? ⟨gf, 0, none⟩ = some a0 ∧ w2.cell? ⟨gf, 1, none⟩ = some a1 ∧ w2.cell? ⟨gf, 2, none⟩ = some a2 ∧ w2.cell? ⟨gf, 3, none⟩ = some a3 ∧ w2.cell? ⟨gf, 4, none⟩ = some a4 ∧ w2.cell? ⟨gf, 5, none⟩ = some a5 ∧ w2.cell? ⟨gi, b, none⟩ = some a6) ∧ Below w.heap.size w w2 := s7_step hb h
set_option maxRecDepth 100000 in
theorem backlaw (w : World) (p : ProgD) (vf vg : Value) (hin : In w p vf vg) :
    Calls Try.prog 5 #[.agg #[vf, vg, .int .i64 p.data, .int .i64 p.main]] w fun e w' => e = .returned (.bool true) ∧ Below w.heap.size w w' := by
  have HIN := Lib.hid hin
  obtain ⟨A, cap, rfl, _, m3, hi⟩ := hin.funcs
  obtain ⟨A2, cap2, rfl, _, m4, _⟩ := hin.globs
  have HM := Lib.hid (fun w1 h => maybe_any w w1 h p _ _ hin)
  have hfl := hin.flen
  have hgl := hin.glen
  have HF := Lib.hid hi
  clear hi hin m3 m4
  have HB1 := Lib.hid (below_alloc (.cells #[.slice A p.funcs.length cap, .slice A2 p.globals.length cap2, .int .i64 p.data, .int .i64 p.main] 36) (Below.refl w.heap.size w))
  have HBX := Lib.hid (block_box w #[.slice A p.funcs.length cap, .slice A2 p.globals.length cap2, .int .i64 p.data, .int .i64 p.main] 36)
  go_enter Try.func5, Try.ntmps5
  go_wp2_with fail
  refine (fit_vm _).mono ?_
  rintro e w2 ⟨rfl, hb2⟩
  have HB2 := Lib.hid (HB1.out.bt hb2)
  have c0 := later (HBX.out 0 _ rfl) hb2
  have c1 := later (HBX.out 1 _ rfl) hb2
  have c2 := later (HBX.out 2 _ rfl) hb2
  have c3 := later (HBX.out 3 _ rfl) hb2
  clear hb2 HB1
  go_wp2_with fail
  refine (HM.out _ HB2.out).mono ?_
  rintro e w3 ⟨b, rfl, hb, hb3⟩
  have HB3 := Lib.hid (HB2.out.bt hb3)
  have d0 := later c0 hb3
  have HOK := Lib.hid hb
  clear c0 c1 c2 c3 hb3 hb
  cases b
  · go_wp2_with fail
    go_returns
    exact ⟨rfl, HB3.out⟩
  have HLk := Lib.hid (HOK.out rfl).1
  have HPk := Lib.hid (HOK.out rfl).2
  clear HOK HBX HB2
  go_wp2_with fail
  clear d0
  go_loopw [22] (fun i wr => ∃ k : Nat, k ≤ p.funcs.length ∧ i = .int .i64 k ∧ Below w.heap.size w wr) (fun i _ => p.funcs.length - (intOf i).toNat)
  case atStart => exact ⟨0, by omega, rfl, HB3.out⟩
  case round =>
    obtain ⟨k, hk, rfl, hb⟩ := hrel
    have HB5 := Lib.hid hb
    clear hb
    by_cases hlt : k < p.funcs.length
    · obtain ⟨f, hfk⟩ : ∃ f, p.funcs[k]? = some f := ⟨_, List.getElem?_eq_getElem hlt⟩
      obtain ⟨fb, fo, cs, rfl, e1, e2, hfr⟩ := HF.out k f hfk
      have HFO := Lib.hid (HPk.out f (List.mem_of_getElem? hfk))
      have HSl := Lib.hid (HLk.out.slim f (List.mem_of_getElem? hfk))
      obtain ⟨vs, vl, vb, rfl, z1, z2, z3, z4, z5, z6, z7, z8, z9⟩ := hfr
      have HSB := Lib.hid z8
      obtain ⟨A7, cap7, rfl, _, m7, _⟩ := z3
      obtain ⟨A6, cap6, rfl, _, m6, _⟩ := z6
      obtain ⟨A8, cap8, rfl, _, m8, h8⟩ := z8
      have H8 := Lib.hid h8
      have r0 := later (e2 0 (by omega)) HB5.out
      have r1 := later (e2 1 (by omega)) HB5.out
      have r2 := later (e2 2 (by omega)) HB5.out
      have r3 := later (e2 3 (by omega)) HB5.out
      have r4 := later (e2 4 (by omega)) HB5.out
      have r5 := later (e2 5 (by omega)) HB5.out
      rw [Nat.add_zero] at r0
      obtain ⟨R, hR⟩ : ∃ R : Nat, f.regs = (R : Int) := ⟨f.regs.toNat, by have := HFO.out.1.1; have := HFO.out.1.2.1; omega⟩
      have r3' : wr.cell? ⟨fb, fo + k * 6 + 3, none⟩ = some (.int .i64 (R : Nat)) := by rw [← hR]; exact r3
      clear r3
      clear e1 e2 h8 hfk m6 m7 m8 z1 z2 z4 z5 z7 z9
      have HRg := Lib.hid hR
      clear hR
      by_cases hbig : 60 < R ∨ 40 < f.blocks.length
      · rcases hbig with h1 | h1
        · go_wp2_with fail
          go_roundw
          case rel => exact ⟨k + 1, by omega, by go_num, below_alloc _ HB5.out⟩
          case measure => simp [intOf]; omega
        · by_cases h2 : 60 < R
          · go_wp2_with fail
            go_roundw
            case rel => exact ⟨k + 1, by omega, by go_num, below_alloc _ HB5.out⟩
            case measure => simp [intOf]; omega
          · go_wp2_with fail
            go_roundw
            case rel => exact ⟨k + 1, by omega, by go_num, below_alloc _ HB5.out⟩
            case measure => simp [intOf]; omega
      have hR60 : R ≤ 60 := by omega
      have hn40 : f.blocks.length ≤ 40 := by omega
      have HR60 := Lib.hid hR60
      have HN40 := Lib.hid hn40
      have HB6 := Lib.hid (below_alloc (.cells #[.string f.name, .int .i64 f.params, .slice A7 f.secret.length cap7, .int .i64 (R : Nat), .slice A6 f.slots.length cap6, .slice A8 f.blocks.length cap8] 41) HB5.out)
      have HFB := Lib.hid (block_box wr #[.string f.name, .int .i64 f.params, .slice A7 f.secret.length cap7, .int .i64 (R : Nat), .slice A6 f.slots.length cap6, .slice A8 f.blocks.length cap8] 41)
      have HNX := Lib.hid (show ∀ i k, i < f.blocks.length → k ∈ nxF f i → 0 ≤ k ∧ k < f.blocks.length by
        intro i k hi hk
        rw [nxF_of (List.getElem?_eq_getElem hi)] at hk
        exact (HFO.out.2 _ (List.getElem_mem hi)).2.2.2.2.2 k hk)
      have H0n := Lib.hid (show 0 < f.blocks.length from Nat.pos_of_ne_zero HFO.out.1.2.2.2.2)
      go_wp2_with fail
      clear r0 r1 r2 r3' r4 r5 HB5 hbig
      generalize wr.heap.size = gf at *
      obtain ⟨w6, hw6⟩ : ∃ w6, w6 = wr.alloc (.cells #[.string f.name, .int .i64 f.params, .slice A7 f.secret.length cap7, .int .i64 (R : Nat), .slice A6 f.slots.length cap6, .slice A8 f.blocks.length cap8] 41) := ⟨_, rfl⟩
      rw [← hw6] at HB6 HFB ⊢
      clear hw6
      refine (live_sets w w6 HB6.out gf 0 f _ (HFB.out 5 (.slice A8 f.blocks.length cap8) rfl) R (HFB.out 3 (.int .i64 (R : Nat)) rfl) HSB.out _ rfl H0n.out (by omega) (by omega) HNX.out HSl.out).mono ?_
      rintro e wl ⟨iv, ov, vs, I, O, rfl, hLS, hLI, hLD⟩
      have HBL := Lib.hid (HB6.out.bt hLS.below)
      have HLS := Lib.hid hLS
      have HLI := Lib.hid hLI
      have HLD := Lib.hid hLD
      have HK0 := Lib.hid (show wl.cell? ⟨gf, 0, none⟩ = some (.string f.name) from later (HFB.out 0 _ rfl) hLS.below)
      have HK1 := Lib.hid (show wl.cell? ⟨gf, 1, none⟩ = some (.int .i64 f.params) from later (HFB.out 1 _ rfl) hLS.below)
      have HK2 := Lib.hid (show wl.cell? ⟨gf, 2, none⟩ = some (.slice A7 f.secret.length cap7) from later (HFB.out 2 _ rfl) hLS.below)
      have HK3 := Lib.hid (show wl.cell? ⟨gf, 3, none⟩ = some (.int .i64 (R : Nat)) from later (HFB.out 3 _ rfl) hLS.below)
      have HK4 := Lib.hid (show wl.cell? ⟨gf, 4, none⟩ = some (.slice A6 f.slots.length cap6) from later (HFB.out 4 _ rfl) hLS.below)
      have HK5 := Lib.hid (show wl.cell? ⟨gf, 5, none⟩ = some (.slice A8 f.blocks.length cap8) from later (HFB.out 5 _ rfl) hLS.below)
      clear hLS hLI hLD HFB HB6
      have q5 := HK5.out
      have hgf := World.block_lt_of_cell? _ _ q5
      obtain ⟨gi, ci, hiv, _⟩ := own_form HLS.out.ri H0n.out
      obtain ⟨go, co, hov, _⟩ := own_form HLS.out.ro H0n.out
      subst hiv hov
      go_wp2_with fail
      clear q5 hgf
      go_loopw [42] (fun s wr => ∃ b : Nat, b ≤ f.blocks.length ∧ s = .int .i64 b ∧ Below wl.heap.size wl wr) (fun s _ => f.blocks.length - (intOf s).toNat)
      case atStart => exact ⟨0, by omega, rfl, Below.refl _ _⟩
      case round =>
        obtain ⟨b, hb, rfl, hB⟩ := hrel
        have HB := Lib.hid hB
        clear hB
        by_cases hltb : b < f.blocks.length
        · obtain ⟨blk, hblk⟩ : ∃ b', f.blocks[b]? = some b' := ⟨_, List.getElem?_eq_getElem hltb⟩
          obtain ⟨bb, bo, cs, rfl, e1, e2, vi, e3, y1, y2, t1, t2, t3, t4, t5, t6, t7, t8⟩ := H8.out b blk hblk
          subst e3
          obtain ⟨A9, cap9, rfl, _, _, h9⟩ := y1
          have H9 := Lib.hid h9
          have HT4 := Lib.hid (And.intro t3 t4)
          have HT5 := Lib.hid (And.intro t5 t6)
          have HSb := Lib.hid (HSl.out blk (List.mem_of_getElem? hblk))
          have H03 := HBL.out.bt HB.out
          have r0 := later (e2 0 (by omega)) H03
          have r1 := later (e2 1 (by omega)) H03
          have r2 := later (e2 2 (by omega)) H03
          have r3 := later (e2 3 (by omega)) H03
          have r4 := later (e2 4 (by omega)) H03
          have r5 := later (e2 5 (by omega)) H03
          have r6 := later (e2 6 (by omega)) H03
          have r7 := later (e2 7 (by omega)) H03
          have r8 := later (e2 8 (by omega)) H03
          rw [Nat.add_zero] at r0
          have HBk := Lib.hid (blkF_of hblk)
          have hil : blk.ins.length ≤ 140737488351232 := y2
          have HBO := Lib.hid (blk_new wr (.cells #[.slice A9 blk.ins.length cap9, .int .i64 blk.term.kind, .int .i64 blk.term.op, .int .i64 blk.term.a.reg, .int .i64 blk.term.a.num, .int .i64 blk.term.b.reg, .int .i64 blk.term.b.num, .int .i64 blk.term.to_, .int .i64 blk.term.els] 52))
          have HBW := Lib.hid (HB.out.bt (below_alloc (.cells #[.slice A9 blk.ins.length cap9, .int .i64 blk.term.kind, .int .i64 blk.term.op, .int .i64 blk.term.a.reg, .int .i64 blk.term.a.num, .int .i64 blk.term.b.reg, .int .i64 blk.term.b.num, .int .i64 blk.term.to_, .int .i64 blk.term.els] 52) (Below.refl wr.heap.size wr)))
          obtain ⟨u, hu, hsu⟩ := HLS.out.so b hltb
          obtain ⟨cu, _, _⟩ := HLS.out.cellO hltb hu
          obtain ⟨Au, ku, hue, _⟩ := hsu.slice_
          subst hue
          have HSU := Lib.hid (set_below hsu HBW.out)
          have HLo := Lib.hid (HLI.out.lo b hltb)
          have q4 := later cu HB.out
          have hgo4 := World.block_lt_of_cell? _ _ q4
          clear e1 e2 y2 t1 t2 t3 t4 t5 t6 t7 t8 hblk H03 h9 hu hsu cu
          go_wp2_with fail
          have HKb := Lib.hid (show (O b).length ≤ 1000000 by rw [HLo.out]; have := HR60.out; omega)
          refine (copy_any _ _ _ _ HSU.out HKb.out).mono ?_
          rintro e w5 ⟨sv, rfl, hs5, hb5⟩
          clear r0 r1 r2 r3 r4 r5 r6 r7 r8 HB q4 hgo4
          obtain ⟨gk, hgk⟩ : ∃ z, z = wr.heap.size := ⟨_, rfl⟩
          obtain ⟨wk, hwk⟩ : ∃ z, z = wr.alloc (.cells #[.slice A9 blk.ins.length cap9, .int .i64 blk.term.kind, .int .i64 blk.term.op, .int .i64 blk.term.a.reg, .int .i64 blk.term.a.num, .int .i64 blk.term.b.reg, .int .i64 blk.term.b.num, .int .i64 blk.term.to_, .int .i64 blk.term.els] 52) := ⟨_, rfl⟩
          rw [← hwk] at HBO HBW HSU hs5 hb5
          rw [← hgk] at HBO ⊢
          have HS5 := Lib.hid hs5
          have HB5k := Lib.hid hb5
          have HO5 := Lib.hid (blk_kept HBO.out (grown_of_below (r := none) hb5) (Or.inl rfl))
          have k1 : w5.cell? ⟨gk, 1, none⟩ = some (.int .i64 blk.term.kind) := blk_cell HO5.out rfl
          have k2 : w5.cell? ⟨gk, 2, none⟩ = some (.int .i64 blk.term.op) := blk_cell HO5.out rfl
          have k3 : w5.cell? ⟨gk, 3, none⟩ = some (.int .i64 blk.term.a.reg) := blk_cell HO5.out rfl
          have k4 : w5.cell? ⟨gk, 4, none⟩ = some (.int .i64 blk.term.a.num) := blk_cell HO5.out rfl
          have k5 : w5.cell? ⟨gk, 5, none⟩ = some (.int .i64 blk.term.b.reg) := blk_cell HO5.out rfl
          have k6 : w5.cell? ⟨gk, 6, none⟩ = some (.int .i64 blk.term.b.num) := blk_cell HO5.out rfl
          have k7 : w5.cell? ⟨gk, 7, none⟩ = some (.int .i64 blk.term.to_) := blk_cell HO5.out rfl
          have k8 : w5.cell? ⟨gk, 8, none⟩ = some (.int .i64 blk.term.els) := blk_cell HO5.out rfl
          have hgk5 := blk_lt HO5.out
          clear hs5 hb5 hwk hgk
          go_wp2_with fail
          refine (treads_new _ blk.term HT4.out HT5.out).mono ?_
          rintro e w6 ⟨v6, rfl, hv6, hb6, how6⟩
          have HS6 := Lib.hid (set_below HS5.out hb6)
          have HB6k := Lib.hid (HB5k.out.bt hb6)
          have HD6 := Lib.hid (show readsT blk.term = [] ∨ v6.ownBlock ≠ sv.ownBlock by
            rcases how6 with rfl | ⟨B, n', xs, ho⟩
            · exact Or.inl (hv6.nil_of rfl)
            · rcases own_ne ho HS6.out.1 (by decide) with h | h
              · exact Or.inl (hv6.nil_of h)
              · exact Or.inr h)
          obtain ⟨A3, c3, rfl, hl3, hm3, h3⟩ := hv6
          have H3 := Lib.hid h3
          unfold maxLen at hm3
          have HLen := Lib.hid (show (readsT blk.term).length ≤ 9223372036854775807 by omega)
          have hlen := HLen.out
          clear k1 k2 k3 k4 k5 k6 k7 k8 hgk5 hb6 how6 HS5 HB5k HO5 h3 hl3 hm3
          obtain ⟨rl, hrl⟩ : ∃ z, z = readsT blk.term := ⟨_, rfl⟩
          rw [← hrl] at H3 hlen HLen HD6 ⊢
          have HRL := Lib.hid hrl
          clear hrl
          go_wp2_with fail
          go_loopw [56] (fun s wr => ∃ j : Nat, j ≤ rl.length ∧ s = .int .i64 j ∧ SetR wr wk.heap.size sv (useL (O b) (rl.take j)) ∧ w6.grownBy wr sv.ownBlock) (fun s _ => rl.length - (intOf s).toNat)
          case atStart => exact ⟨0, by omega, rfl, HS6.out, grownBy_refl _ _⟩
          case round =>
            obtain ⟨j, hj, rfl, hsr, hg⟩ := hrel
            have HSr := Lib.hid hsr
            have HG := Lib.hid hg
            have hlen := HLen.out
            clear hsr hg
            by_cases hltj : j < rl.length
            · obtain ⟨a, ha⟩ : ∃ a, rl[j]? = some a := ⟨_, List.getElem?_eq_getElem hltj⟩
              obtain ⟨lb, lo, cs, rfl, e1, e2, e3, e4, e5⟩ := H3.out j a ha
              subst e3
              have hne : some lb ≠ sv.ownBlock := by
                rcases HD6.out with h | h
                · rw [h] at hltj; simp at hltj
                · exact h
              have q0 := HG.out.cell (e2 0 (by omega)) hne
              have q1 := HG.out.cell (e2 1 (by omega)) hne
              rw [Nat.add_zero] at q0
              have HT := Lib.hid (useL_take (O b) rl j a ha)
              obtain ⟨r1, r2⟩ := e4
              have hb0 := World.block_lt_of_cell? _ _ q0
              clear e1 e2 e5 ha hne
              go_wp2_with fail
              have hal : Below wr.heap.size wr (wr.alloc (.cells #[.int .i64 a.reg, .int .i64 a.num] 48)) := below_alloc _ (Below.refl _ _)
              have HS2 := Lib.hid (set_below HSr.out hal)
              have HG2 := Lib.hid (grown_trans HG.out (grown_of_below (r := sv.ownBlock) hal))
              clear hal
              refine (put_any _ wk.heap.size sv _ a.reg HS2.out r2).mono ?_
              rintro e w7 ⟨rfl, hs7, hg7⟩
              have HS7 := Lib.hid hs7
              have HG7 := Lib.hid (grown_trans HG2.out hg7)
              clear hs7 hg7 q0 q1
              go_wp2_with fail
              go_roundw
              case rel => exact ⟨j + 1, by omega, by go_num, by rw [HT.out]; exact HS7.out, HG7.out⟩
              case measure => first | omega | (simp [intOf]; done) | (simp [intOf]; omega)
            · have e : j = rl.length := by omega
              subst e
              have HS7 := Lib.hid (show SetR wr wk.heap.size sv (useL (O b) (readsT blk.term)) by rw [← HRL.out]; have := HSr.out; rwa [List.take_length] at this)
              have HB7 := Lib.hid (below_of_grown HB6k.out (Nat.le_refl _) HG.out (fun k hk => (HS6.out.1.lt k hk).1))
              have hgz : gk < wk.heap.size := blk_lt HBO.out
              have HGZ := Lib.hid hgz
              have k0 : wr.cell? ⟨gk, 0, none⟩ = some (.slice A9 blk.ins.length cap9) := blk_cell ((HB7.out.block gk hgz).trans HBO.out) rfl
              have hg7' : gk < wr.heap.size := Nat.lt_of_lt_of_le hgz HB7.out.size
              clear HSr HG hgz
              go_wp2_with fail
              clear k0 hg7'
              go_loopw [12] (fun s wr => ∃ q : Nat, q ≤ blk.ins.length + 1 ∧ s = .int .i64 ((q : Int) - 1) ∧ SetR wr wk.heap.size sv (backsL (useL (O b) (readsT blk.term)) (blk.ins.drop q)) ∧ Below wk.heap.size wk wr) (fun s _ => (intOf s + 1).toNat)
              case atStart => exact ⟨blk.ins.length + 1, Nat.le_refl _, by go_num, by rw [List.drop_eq_nil_of_le (by omega)]; exact HS7.out, HB7.out⟩
              case round =>
                obtain ⟨q, hq, rfl, hs, hb⟩ := hrel
                have HS8 := Lib.hid hs
                have HB8 := Lib.hid hb
                clear hs hb HS7 HB7
                have k0 : wr.cell? ⟨gk, 0, none⟩ = some (.slice A9 blk.ins.length cap9) := blk_cell ((HB8.out.block gk HGZ.out).trans HBO.out) rfl
                have hg8 : gk < wr.heap.size := Nat.lt_of_lt_of_le HGZ.out HB8.out.size
                rcases Nat.eq_zero_or_pos q with e | e
                · subst e
                  go_wp2_with fail
                  go_roundw
                  case rel => exact ⟨b + 1, by omega, by go_num, HBW.out.bt HB8.out⟩
                  case measure => first | omega | (simp [intOf]; done) | (simp [intOf]; omega)
                · obtain ⟨q, rfl⟩ : ∃ q', q = q' + 1 := ⟨q - 1, by omega⟩
                  clear e
                  have hjq : (((q + 1 : Nat) : Int) - 1) = (q : Nat) := by omega
                  rw [hjq]
                  clear hjq
                  go_upto_if 76 with (fail)
                  go_cut [12] (fun z wx => z = .int .i64 (q : Nat) ∧ SetR wx wk.heap.size sv (backsL (useL (O b) (readsT blk.term)) (blk.ins.drop q)) ∧ Below wk.heap.size wk wx)
                  case first =>
                    by_cases hqi : q < blk.ins.length
                    · obtain ⟨x, hx⟩ : ∃ x, blk.ins[q]? = some x := ⟨_, List.getElem?_eq_getElem hqi⟩
                      obtain ⟨ib, io, cs, rfl, e1, e2, va, e3, u1, u2, u3, u4, u5, u6, u7, u8, u9, u10, u11⟩ := H9.out q x hx
                      subst e3
                      have h08 := HBL.out.bt (HBW.out.bt HB8.out)
                      have r0 := later (e2 0 (by omega)) h08
                      have r1 := later (e2 1 (by omega)) h08
                      have r2 := later (e2 2 (by omega)) h08
                      have r3 := later (e2 3 (by omega)) h08
                      have r4 := later (e2 4 (by omega)) h08
                      have r5 := later (e2 5 (by omega)) h08
                      have r6 := later (e2 6 (by omega)) h08
                      have r7 := later (e2 7 (by omega)) h08
                      have r8 := later (e2 8 (by omega)) h08
                      have r9 := later (e2 9 (by omega)) h08
                      have r10 := later (e2 10 (by omega)) h08
                      have r11 := later (e2 11 (by omega)) h08
                      rw [Nat.add_zero] at r0
                      have HU10 := Lib.hid (u10.later (by decide) h08)
                      have HDx := Lib.hid (show x.args = [] ∨ va.ownBlock ≠ sv.ownBlock by
                        rcases u10.blk (by decide) with h | ⟨b', h1, h2⟩
                        · exact Or.inl h
                        · refine Or.inr (fun e => ?_)
                          have := (HS8.out.1.lt b' (e.symm.trans h1)).1
                          have := (HBL.out.bt HBW.out).size
                          omega)
                      have HBa := Lib.hid (back_any wr wk.heap.size sv va _ x HS8.out u1 u2 ⟨u3, u4⟩ ⟨u5, u6⟩ HU10.out (HSb.out x (List.mem_of_getElem? hx)) HDx.out)
                      have HDr := Lib.hid (show backsL (useL (O b) (readsT blk.term)) (blk.ins.drop q) = backL (backsL (useL (O b) (readsT blk.term)) (blk.ins.drop (q + 1))) x by
                        rw [List.drop_eq_getElem_cons hqi]
                        rw [List.getElem?_eq_getElem hqi] at hx
                        rw [Option.some.inj hx]
                        rfl)
                      obtain ⟨A5, cap5, rfl, _, _, _⟩ := u10
                      clear e1 e2 hx u1 u2 u3 u4 u5 u6 u7 u8 u9 u11 h08
                      go_wp2_with fail
                      refine HBa.out.mono ?_
                      rintro e w9 ⟨rfl, hs9, hg9⟩
                      have HS9 := Lib.hid hs9
                      have HB9 := Lib.hid (below_of_grown HB8.out (Nat.le_refl _) hg9 (fun k hk => (HS8.out.1.lt k hk).1))
                      clear hs9 hg9 r0 r1 r2 r3 r4 r5 r6 r7 r8 r9 r10 r11 k0 hg8
                      go_wp2_with fail
                      go_meet
                      case rel => exact ⟨rfl, by rw [HDr.out]; exact HS9.out, HB9.out⟩
                    · have HDr := Lib.hid (show backsL (useL (O b) (readsT blk.term)) (blk.ins.drop q) = backsL (useL (O b) (readsT blk.term)) (blk.ins.drop (q + 1)) by rw [List.drop_eq_nil_of_le (by omega), List.drop_eq_nil_of_le (by omega)])
                      go_wp2_with fail
                      go_meet
                      case rel => exact ⟨rfl, by rw [HDr.out]; exact HS8.out, HB8.out⟩
                  case rest =>
                    obtain ⟨hc12, hs9, hb9⟩ := hcut
                    subst hc12
                    have HS9 := Lib.hid hs9
                    have HB9 := Lib.hid hb9
                    have HWL := Lib.hid (HBW.out.bt hb9)
                    have q3 := later HK3.out HWL.out
                    have hgf := World.block_lt_of_cell? _ _ q3
                    have hR60' := HR60.out
                    have hn40' := HN40.out
                    clear hs9 hb9 k0 hg8 HS8 HB8
                    go_wp2_with fail
                    clear q3 hgf
                    obtain ⟨wd, rfl⟩ : ∃ z : World, z = wc := ⟨_, rfl⟩
                    go_loopw [86] (fun s wr => ∃ r : Nat, r ≤ R ∧ s = .int .i64 r ∧ Below wd.heap.size wd wr) (fun s _ => R - (intOf s).toNat)
                    case atStart => exact ⟨0, by omega, rfl, Below.refl _ _⟩
                    case round =>
                      obtain ⟨r, hr, rfl, hB⟩ := hrel
                      have HBr := Lib.hid hB
                      clear hB
                      by_cases hltr : r < R
                      · have HWr := Lib.hid (HWL.out.bt HBr.out)
                        have hbit : hasL (backsL (useL (O b) (readsT blk.term)) (blk.ins.drop q)) ((r : Nat) : Int) = livB (blkF f) (nxF f) f.blocks.length r b q := by
                          have hz := liv_pt HLI.out HLD.out HNX.out (r := r) (i := q) (show r < 64 * ((R + 63) / 64) by omega) hltb
                          rw [← hz, HBk.out]
                          unfold hasL
                          rw [decide_eq_true (by omega), Bool.true_and, Int.toNat_natCast, bit_backs r _ (by rw [useL_length, HLo.out]; omega), bit_use r _ _ (by rw [HLo.out]; omega)]
                          rfl
                        obtain ⟨w9, hr9, ho9, hb9⟩ := make_bools wr.drew f.blocks.length (by omega)
                        have HO9 := Lib.hid ho9
                        have HBm := Lib.hid (show Below wr.heap.size wr w9 from ⟨hb9.os, hb9.tape, hb9.output, hb9.size, hb9.block⟩)
                        have HHas := Lib.hid (fun w' (h : Below wr.heap.size wr w') => has_any w' _ _ _ (r : Nat) (set_below HS9.out (HBr.out.bt h)) (by omega))
                        rw [hbit] at HHas
                        have HLive := Lib.hid (live_top w f A6 A7 _ cap6 cap7 cap8 f.slots.length f.secret.length (R : Nat) HSB.out f.blocks.length rfl (by omega) HNX.out HSl.out r (by omega) w9 wr (HBL.out.bt HWr.out) HBm.out wr.heap.size f.blocks.length b q hltb (by rw [HBk.out]; omega) HO9.out)
                        obtain ⟨lv, hlv⟩ : ∃ z, z = livB (blkF f) (nxF f) f.blocks.length r b q := ⟨_, rfl⟩
                        rw [← hlv] at HHas HLive
                        have HS0 := Lib.hid (show (wr.cell? ⟨gf, 0, none⟩ = some (.string f.name) ∧ wr.cell? ⟨gf, 1, none⟩ = some (.int .i64 f.params) ∧ wr.cell? ⟨gf, 2, none⟩ = some (.slice A7 f.secret.length cap7) ∧ wr.cell? ⟨gf, 3, none⟩ = some (.int .i64 (R : Nat)) ∧ wr.cell? ⟨gf, 4, none⟩ = some (.slice A6 f.slots.length cap6) ∧ wr.cell? ⟨gf, 5, none⟩ = some (.slice (some ⟨bb, bo, none⟩) f.blocks.length cap8) ∧ wr.cell? ⟨gf, 3, none⟩ = some (.int .i64 (R : Nat))) ∧ Below wr.heap.size wr wr from ⟨⟨later HK0.out HWr.out, later HK1.out HWr.out, later HK2.out HWr.out, later HK3.out HWr.out, later HK4.out HWr.out, later HK5.out HWr.out, later HK3.out HWr.out⟩, Below.refl _ _⟩)
                        clear ho9 hb9 hbit hlv
                        go_wp2_with fail
                        go_cut [101] (fun x wx => x = .bool false ∧ Below wr.heap.size wr wx)
                        case first =>
                          go_region_held3 (fun w' => (w'.cell? ⟨gf, 0, none⟩ = some (.string f.name) ∧ w'.cell? ⟨gf, 1, none⟩ = some (.int .i64 f.params) ∧ w'.cell? ⟨gf, 2, none⟩ = some (.slice A7 f.secret.length cap7) ∧ w'.cell? ⟨gf, 3, none⟩ = some (.int .i64 (R : Nat)) ∧ w'.cell? ⟨gf, 4, none⟩ = some (.slice A6 f.slots.length cap6) ∧ w'.cell? ⟨gf, 5, none⟩ = some (.slice (some ⟨bb, bo, none⟩) f.blocks.length cap8) ∧ w'.cell? ⟨gf, 3, none⟩ = some (.int .i64 (R : Nat))) ∧ Below wr.heap.size wr w')
                            (first | exact s7_step (hb := drew_below' _) (h := HS0.out) | exact s7_to HS0.out HBm.out | exact s7_to HS0.out hbL)
                            ((first
                              | (go_at_call 13; refine (HHas.out _ (by first | exact HBm.out | exact drew_below' wr)).mono ?_; rintro e w7 ⟨rfl, rfl⟩)
                              | (go_at_call 16; refine HLive.out.mono ?_; rintro e w8 ⟨rfl, hbL⟩)))
                          all_goals (try go_wp2_with fail)
                          all_goals go_meet
                          all_goals exact ⟨by simp, by assumption⟩
                        case rest =>
                          obtain ⟨hc65, hbL⟩ := hcut
                          subst hc65
                          have HBz := Lib.hid (HBr.out.bt hbL)
                          clear hbL hr9
                          go_wp2_with fail
                          go_roundw
                          case rel => exact ⟨r + 1, by omega, by go_num, HBz.out⟩
                          case measure => first | omega | (simp [intOf]; done) | (simp [intOf]; omega)
                      · have e : r = R := by omega
                        subst e
                        go_wp2_with fail
                        go_roundw
                        case rel => exact ⟨q, by omega, by go_num, set_below HS9.out HBr.out, HB9.out.bt HBr.out⟩
                        case measure => first | omega | (simp [intOf]; done) | (simp [intOf]; omega)
        · have e : b = f.blocks.length := by omega
          subst e
          go_wp2_with fail
          go_roundw
          case rel => exact ⟨k + 1, by omega, by go_num, HBL.out.bt HB.out⟩
          case measure => first | omega | (simp [intOf]; done) | (simp [intOf]; omega)
    · have e : k = p.funcs.length := by omega
      subst e
      go_wp2_with fail
      go_returns
      exact ⟨rfl, HB5.out⟩
end Go.Proofs.Ytcljdhpdknecjaa
