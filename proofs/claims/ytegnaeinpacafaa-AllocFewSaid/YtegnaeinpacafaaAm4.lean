/- Walks: alloc.Check where the places may be. No condition. -/
import Derived.Test.YtegnaeinpacafaaAm3
namespace Go.Proofs.Ytegnaeinpacafaa
open Go.RowKit
set_option linter.unusedVariables false
set_option maxHeartbeats 4000000
theorem s5_step {w w1 w2 : World} {p0 p1 p2 p3 p4 : Addr} {a0 a1 a2 a3 a4 : Value} (hb : Below w1.heap.size w1 w2) (h : (w1.cell? p0 = some a0 ∧ w1.cell? p1 = some a1 ∧ w1.cell? p2 = some a2 ∧ w1.cell? p3 = some a3 ∧ w1.cell? p4 = some a4) ∧ Below w.heap.size w w1) : (w2.cell? p0 = some a0 ∧ w2.cell? p1 = some a1 ∧ w2.cell? p2 = some a2 ∧ w2.cell? p3 = some a3 ∧ w2.cell? p4 = some a4) ∧ Below w.heap.size w w2 := by
  obtain ⟨⟨h0, h1, h2, h3, h4⟩, hz⟩ := h
  exact ⟨⟨later h0 hb, later h1 hb, later h2 hb, later h3 hb, later h4 hb⟩, hz.bt hb⟩
theorem s16_step {w w1 w2 : World} {p0 p1 p2 p3 p4 p5 p6 p7 p8 p9 p10 p11 p12 p13 p14 p15 : Addr} {a0 a1 a2 a3 a4 a5 a6 a7 a8 a9 a10 a11 a12 a13 a14 a15 : Value} (hb : Below w1.heap.size w1 w2) (h : (w1.cell? p0 = some a0 ∧ w1.cell? p1 = some a1 ∧ w1.cell? p2 = some a2 ∧ w1.cell? p3 = some a3 ∧ w1.cell? p4 = some a4 ∧ w1.cell? p5 = some a5 ∧ w1.cell? p6 = some a6 ∧ w1.cell? p7 = some a7 ∧ w1.cell? p8 = some a8 ∧ w1.cell? p9 = some a9 ∧ w1.cell? p10 = some a10 ∧ w1.cell? p11 = some a11 ∧ w1.cell? p12 = some a12 ∧ w1.cell? p13 = some a13 ∧ w1.cell? p14 = some a14 ∧ w1.cell? p15 = some a15) ∧ Below w.heap.size w w1) : (w2.cell? p0 = some a0 ∧ w2.cell? p1 = some a1 ∧ w2.cell? p2 = some a2 ∧ w2.cell? p3 = some a3 ∧ w2.cell? p4 = some a4 ∧ w2.cell? p5 = some a5 ∧ w2.cell? p6 = some a6 ∧ w2.cell? p7 = some a7 ∧ w2.cell? p8 = some a8 ∧ w2.cell? p9 = some a9 ∧ w2.cell? p10 = some a10 ∧ w2.cell? p11 = some a11 ∧ w2.cell? p12 = some a12 ∧ w2.cell? p13 = some a13 ∧ w2.cell? p14 = some a14 ∧ w2.cell? p15 = some a15) ∧ Below w.heap.size w w2 := by
  obtain ⟨⟨h0, h1, h2, h3, h4, h5, h6, h7, h8, h9, h10, h11, h12, h13, h14, h15⟩, hz⟩ := h
  exact ⟨⟨later h0 hb, later h1 hb, later h2 hb, later h3 hb, later h4 hb, later h5 hb, later h6 hb, later h7 hb, later h8 hb, later h9 hb, later h10 hb, later h11 hb, later h12 hb, later h13 hb, later h14 hb, later h15 hb⟩, hz.bt hb⟩
theorem back_g (w : World) {base R : Nat} {sv va : Value} {S : Nat → Bool} (x : InsD) (hs : SetB w base sv R S) (h0 : In64 x.op) (h1 : In64 x.dst) (h2 : In64 x.a.reg ∧ In64 x.a.num) (h3 : In64 x.b.reg ∧ In64 x.b.num) (ha : SlR w 2 ArgR va x.args)
    (hsl : x.args.length ≤ 1000000) (hd : x.args = [] ∨ va.ownBlock ≠ sv.ownBlock) : Calls Try.prog 20 #[sv, insV x va] w (SetTB w base sv R (backF S x)) := by
  obtain ⟨l, a1, a2, a3⟩ := hs
  refine (back_any w base sv va l x a1 h0 h1 h2 h3 ha hsl hd).mono ?_
  rintro e w' ⟨rfl, hs, hg⟩
  exact ⟨rfl, ⟨_, hs, by rw [backL_length, a2], fun r hr => by rw [bit_back r l x (by omega), a3 r hr]; rfl⟩, hg⟩
theorem AllocOk.keep {f : FuncD} {R P m j : Nat} {pl : List Int} {cells : Int} {x : InsD} (h : AllocOk f R P pl cells) (hm : m < f.blocks.length) (hx : (blkF f m).ins[j]? = some x) : KeepOk R (bhF f m j) x pl := fun r hr hs hd y hy =>
  ⟨fun hc => h.mem r y hy (ev_mem hm hx hs hd hc), fun d hdd hpd => by
    by_cases hc : x.op = 2 ∧ x.a.reg = (r : Int)
    · exact hc
    · have hne : d ≠ r := fun e => hd (by rw [hdd, e])
      have h1 := ev_edge (P := P) hm hx hr hdd hs hne hc
      rw [h.edge d r y hne hpd hy] at h1
      cases h1⟩
theorem AllocOk.begin {f : FuncD} {R P : Nat} {pl : List Int} {cells : Int} (h : AllocOk f R P pl cells) : ∀ (a b : Nat) (x : Int), a < P → b < P → a ≠ b → pl[a]? = some x → pl[b]? = some x → iB f 0 a = false ∧ iB f 0 b = false := fun a b x ha hb hne hpa hpb => by
  have h1 := h.edge a b x hne hpa hpb
  refine ⟨?_, ?_⟩
  · cases e : iB f 0 a
    · rfl
    · rw [ev_par ha hb hne (Or.inl e)] at h1; cases h1
  · cases e : iB f 0 b
    · rfl
    · rw [ev_par ha hb hne (Or.inr e)] at h1; cases h1
set_option maxRecDepth 100000 in
theorem check_g (W0 w : World) (h0 : Below W0.heap.size W0 w) (fb fo : Nat) (f : FuncD) (vb : Value) (c5 : w.cell? ⟨fb, fo + 5, none⟩ = some vb) (R P : Nat) (c3 : w.cell? ⟨fb, fo + 3, none⟩ = some (.int .i64 (R : Nat))) (c1 : w.cell? ⟨fb, fo + 1, none⟩ = some (.int .i64 (P : Nat))) (hF : FnOk f R P)
    (hb : SlR W0 9 (BlockR W0) vb f.blocks) (base gp : Nat) (pl : List Int) (hp : OwnI w base (.slice (some ⟨gp, 0, none⟩) R R) pl) (cells : Nat) (hA : AllocOk f R P pl (cells : Nat)) :
    Calls Try.prog 9 #[.pointer (some ⟨fb, fo, none⟩), .agg #[.slice (some ⟨gp, 0, none⟩) R R, .int .i64 (cells : Nat)]] w fun e w' => e = .returned (.int .i64 0) ∧ Below w.heap.size w w' := by
  have h0n := hF.h0n
  have hn6 : f.blocks.length ≤ 1000000 := by have := hF.hn; omega
  have hR : R ≤ 1000000 := by have := hF.hR; omega
  have hP := hF.hPR
  have hnx := hF.hnx
  have hslim : ∀ b ∈ f.blocks, ∀ x ∈ b.ins, x.args.length ≤ 1000000 := fun b hb x hx => by have := hF.hslim b hb x hx; omega
  have hdst := hF.hdst
  have HF := Lib.hid hF
  have HA := Lib.hid hA
  have hcl := hA.c0
  clear hF hA
  have HSB := Lib.hid hb
  obtain ⟨A8, cap8, rfl, _, m8, h8⟩ := hb
  have H8 := Lib.hid h8
  have HP := Lib.hid hp
  have H0 := Lib.hid h0
  have C1 := Lib.hid c1
  have C3 := Lib.hid c3
  have C5 := Lib.hid c5
  have HNX := Lib.hid hnx
  have HSl := Lib.hid hslim
  have HDs := Lib.hid hdst
  have HBB := Lib.hid (below_alloc (.cells #[.slice (some ⟨gp, 0, none⟩) R R, .int .i64 (cells : Nat)] 45) (Below.refl w.heap.size w))
  have HBO := Lib.hid (blk_new w (.cells #[.slice (some ⟨gp, 0, none⟩) R R, .int .i64 (cells : Nat)] 45))
  have hfl := World.block_lt_of_cell? _ _ c3
  have d0 : decide ((cells : Int) < 0) = false := decide_eq_false (by omega)
  clear hp h0 c1 c5 hnx hslim hdst m8 h8
  go_enter Try.func9, Try.ntmps9
  go_wp2_with fail
  go_quiet (fail)
  go_wp2_with fail
  obtain ⟨wa, hwa⟩ : ∃ z, z = w.alloc (.cells #[.slice (some ⟨gp, 0, none⟩) R R, .int .i64 (cells : Nat)] 45) := ⟨_, rfl⟩
  obtain ⟨ga, hga⟩ : ∃ z, z = w.heap.size := ⟨_, rfl⟩
  rw [← hwa] at HBB HBO ⊢
  rw [← hga] at HBO ⊢
  clear hwa hga c3 hfl d0
  go_loopw [31] (fun s wr => ∃ i : Nat, i ≤ R ∧ s = .int .i64 i ∧ Below wa.heap.size wa wr) (fun s _ => R - (intOf s).toNat)
  case atStart => exact ⟨0, by omega, rfl, below_drewN (Below.refl _ _) _⟩
  case round =>
    obtain ⟨i, hi, rfl, hB⟩ := hrel
    have HB := Lib.hid hB
    have HW := Lib.hid (HBB.out.bt hB)
    clear hB
    by_cases hlt : i < R
    · obtain ⟨y, hy⟩ : ∃ z, pl[i]? = some z := ⟨_, List.getElem?_eq_getElem (by rw [HA.out.len]; exact hlt)⟩
      have k1 := later (OwnI.cell HP.out (by rw [HA.out.len]; exact hlt) y hy) HW.out
      obtain ⟨y0, y5⟩ := HA.out.rng i y hy
      obtain ⟨ci, hci⟩ : ∃ z : Int, z = (cells : Int) := ⟨_, rfl⟩
      have ka : wr.cell? ⟨ga, 1, none⟩ = some (.int .i64 ci) := by rw [hci]; exact later (blk_cell HBO.out rfl) HB.out
      have hyb : y ≤ 9223372036854775807 := by omega
      have l1 := World.block_lt_of_cell? _ _ k1
      have l2 := World.block_lt_of_cell? _ _ ka
      have n1 : decide (y < 0) = false := decide_eq_false (by omega)
      by_cases h5 : 5 ≤ y
      · have n2 : decide (5 ≤ y) = true := decide_eq_true h5
        have n3 : decide (ci ≤ y - 5) = false := decide_eq_false (by have := y5 h5; omega)
        have hy1 : -9223372036854775808 ≤ y - 5 := by omega
        have hy2 : y - 5 ≤ 9223372036854775807 := by omega
        clear hy h5 y5 y0 hci
        go_wp2_with fail
        go_roundw
        case rel => exact ⟨i + 1, by omega, by go_num, HB.out⟩
        case measure => first | omega | (simp [intOf]; done) | (simp [intOf]; omega)
      · have n2 : decide (5 ≤ y) = false := decide_eq_false h5
        clear hy h5 y5 y0 hci
        go_wp2_with fail
        go_roundw
        case rel => exact ⟨i + 1, by omega, by go_num, HB.out⟩
        case measure => first | omega | (simp [intOf]; done) | (simp [intOf]; omega)
    · have e : i = R := by omega
      subst e
      go_wp2_with fail
      refine (live_sets W0 wr (H0.out.trans (HW.out.mono H0.out.size)) fb fo f _ (later C5.out HW.out) i (later C3.out HW.out) HSB.out _ rfl h0n hn6 hR HNX.out HSl.out).mono ?_
      rintro e wl ⟨iv, ov, vs, I, O, rfl, hLS, hLI, hLD⟩
      have HBL := Lib.hid (HW.out.bt hLS.below)
      have HLS := Lib.hid hLS
      have HLI := Lib.hid hLI
      have HLa := Lib.hid (HB.out.bt hLS.below)
      have HLO := Lib.hid (fun j hj => live_o hLS hLI hLD HNX.out (i := j) hj)
      have HL00 := Lib.hid (live_i hLS hLI hLD h0n)
      obtain ⟨gi, ci, hiv, _⟩ := own_form hLS.ri h0n
      obtain ⟨go, co, hov, _⟩ := own_form hLS.ro h0n
      subst hiv hov
      clear hLS hLI hLD
      obtain ⟨u0, hu0, hs0⟩ := HL00.out
      obtain ⟨cu0, _, _⟩ := HLS.out.cellI h0n hu0
      obtain ⟨Au0, ku0, hue0⟩ := hs0.slice_
      subst hue0
      have HSI := Lib.hid hs0
      have HS0 := Lib.hid (show (wl.cell? ⟨fb, fo + 5, none⟩ = some (.slice A8 f.blocks.length cap8) ∧ wl.cell? ⟨ga, 0, none⟩ = some (.slice (some ⟨gp, 0, none⟩) i i) ∧ wl.cell? ⟨ga, 1, none⟩ = some (.int .i64 (cells : Nat)) ∧ wl.cell? ⟨gi, 0, none⟩ = some (.slice Au0 ((i + 63) / 64) ku0) ∧ wl.cell? ⟨fb, fo + 1, none⟩ = some (.int .i64 (P : Nat))) ∧ Below wl.heap.size wl wl from ⟨⟨later C5.out HBL.out, later (blk_cell HBO.out rfl) HLa.out, later (blk_cell HBO.out rfl) HLa.out, cu0, later C1.out HBL.out⟩, Below.refl _ _⟩)
      have HBg := Lib.hid (fun w' (h : Below wl.heap.size wl w') => begins_g w' fb fo P i (later C1.out (HBL.out.bt h)) hP hR base gp pl (own_below HP.out (HBL.out.bt h)) HA.out.len (cells : Nat) _ (.slice Au0 ((i + 63) / 64) ku0) (iB f 0) (HSI.out.more h) HA.out.begin)
      have q5 := HS0.out.1.1
      have hq5 := World.block_lt_of_cell? _ _ q5
      clear hu0 hs0 cu0
      go_wp2_with fail
      go_cut [68] (fun x wx => x = .bool false ∧ Below wl.heap.size wl wx)
      case first =>
        clear q5
        go_region_held3 (fun w' => (w'.cell? ⟨fb, fo + 5, none⟩ = some (.slice A8 f.blocks.length cap8) ∧ w'.cell? ⟨ga, 0, none⟩ = some (.slice (some ⟨gp, 0, none⟩) i i) ∧ w'.cell? ⟨ga, 1, none⟩ = some (.int .i64 (cells : Nat)) ∧ w'.cell? ⟨gi, 0, none⟩ = some (.slice Au0 ((i + 63) / 64) ku0) ∧ w'.cell? ⟨fb, fo + 1, none⟩ = some (.int .i64 (P : Nat))) ∧ Below wl.heap.size wl w')
          (first | exact s5_step (hb := drew_below' _) (h := HS0.out) | exact s5_step (hb := hbL) (h := HS0.out))
          ((go_at_call 15; refine (HBg.out _ (drew_below' _)).mono ?_; rintro e w8 ⟨rfl, hbM⟩; have hbL : Below wl.heap.size wl w8 := (drew_below' wl).bt hbM))
        all_goals (try go_wp2_with fail)
        all_goals go_meet
        all_goals exact ⟨by simp, by assumption⟩
      case rest =>
        obtain ⟨hc68, hbL⟩ := hcut
        subst hc68
        have HBC := Lib.hid hbL
        have HC5 := Lib.hid (later HS0.out.1.1 hbL)
        have HA0 := Lib.hid (later HS0.out.1.2.1 hbL)
        have HA1 := Lib.hid (later HS0.out.1.2.2.1 hbL)
        have HLc := Lib.hid (HLS.out.more (Nat.le_refl _) hbL)
        have HWc := Lib.hid (HBL.out.bt hbL)
        have q5c := HC5.out
        have hq5c := World.block_lt_of_cell? _ _ q5c
        clear hbL HBg HS0 q5 hq5
        go_wp2_with fail
        clear q5c hq5c
        obtain ⟨wx, rfl⟩ : ∃ z : World, z = wc := ⟨_, rfl⟩
        go_loopw [74] (fun s wr => ∃ b : Nat, b ≤ f.blocks.length ∧ s = .int .i64 b ∧ Below wx.heap.size wx wr) (fun s _ => f.blocks.length - (intOf s).toNat)
        case atStart => exact ⟨0, by omega, rfl, Below.refl _ _⟩
        case round =>
          obtain ⟨b, hb, rfl, hB⟩ := hrel
          have HB := Lib.hid hB
          clear hB
          by_cases hltb : b < f.blocks.length
          · obtain ⟨blk, hblk⟩ : ∃ b', f.blocks[b]? = some b' := ⟨_, List.getElem?_eq_getElem hltb⟩
            obtain ⟨bb, bo, cs, rfl, e1, e2, vi, e3, y1, y2, t1, t2, t3, t4, t5, t6, t7, t8⟩ := H8.out b blk hblk
            subst e3
            obtain ⟨A9, cap9, rfl, _, _, h9⟩ := y1
            have H9 := Lib.hid h9
            have HT4 := Lib.hid (And.intro t3 t4)
            have HT5 := Lib.hid (And.intro t5 t6)
            have HSb := Lib.hid (HSl.out blk (List.mem_of_getElem? hblk))
            have HDb := Lib.hid (HDs.out blk (List.mem_of_getElem? hblk))
            have H03 := H0.out.trans ((HWc.out.bt HB.out).mono H0.out.size)
            have r0 := later (e2 0 (by omega)) H03
            have r1 := later (e2 1 (by omega)) H03
            have r2 := later (e2 2 (by omega)) H03
            have r3 := later (e2 3 (by omega)) H03
            have r4 := later (e2 4 (by omega)) H03
            have r5 := later (e2 5 (by omega)) H03
            have r6 := later (e2 6 (by omega)) H03
            have r7 := later (e2 7 (by omega)) H03
            have r8 := later (e2 8 (by omega)) H03
            rw [Nat.add_zero] at r0
            have hil : blk.ins.length ≤ 140737488351232 := y2
            have HBK := Lib.hid (blk_new wr (.cells #[.slice A9 blk.ins.length cap9, .int .i64 blk.term.kind, .int .i64 blk.term.op, .int .i64 blk.term.a.reg, .int .i64 blk.term.a.num, .int .i64 blk.term.b.reg, .int .i64 blk.term.b.num, .int .i64 blk.term.to_, .int .i64 blk.term.els] 33))
            have HBW := Lib.hid (HB.out.bt (below_alloc (.cells #[.slice A9 blk.ins.length cap9, .int .i64 blk.term.kind, .int .i64 blk.term.op, .int .i64 blk.term.a.reg, .int .i64 blk.term.a.num, .int .i64 blk.term.b.reg, .int .i64 blk.term.b.num, .int .i64 blk.term.to_, .int .i64 blk.term.els] 33) (Below.refl wr.heap.size wr)))
            obtain ⟨u, hu, hsu⟩ := HLO.out b hltb
            obtain ⟨cu, _, _⟩ := HLc.out.cellO hltb hu
            obtain ⟨Au, ku, hue⟩ := hsu.slice_
            subst hue
            have HSU := Lib.hid ((hsu.more HBC.out).more HBW.out)
            have HBkf := Lib.hid (blkF_of hblk)
            have HTr := Lib.hid (HF.out.htr blk (List.mem_of_getElem? hblk))
            have q4 := later cu HB.out
            have hgo4 := World.block_lt_of_cell? _ _ q4
            clear e1 e2 y2 t1 t2 t3 t4 t5 t6 t7 t8 hblk H03 h9 hu hsu cu
            go_wp2_with fail
            refine (copy_b _ HSU.out hR).mono ?_
            rintro e w5 ⟨sv, rfl, hs5, hb5⟩
            clear r0 r1 r2 r3 r4 r5 r6 r7 r8 HB q4 hgo4
            obtain ⟨gk, hgk⟩ : ∃ z, z = wr.heap.size := ⟨_, rfl⟩
            obtain ⟨wk, hwk⟩ : ∃ z, z = wr.alloc (.cells #[.slice A9 blk.ins.length cap9, .int .i64 blk.term.kind, .int .i64 blk.term.op, .int .i64 blk.term.a.reg, .int .i64 blk.term.a.num, .int .i64 blk.term.b.reg, .int .i64 blk.term.b.num, .int .i64 blk.term.to_, .int .i64 blk.term.els] 33) := ⟨_, rfl⟩
            rw [← hwk] at HBK HBW HSU hs5 hb5
            rw [← hgk] at HBK ⊢
            have HS5 := Lib.hid hs5
            have HB5k := Lib.hid hb5
            have HO5 := Lib.hid (blk_kept HBK.out (grown_of_below (r := none) hb5) (Or.inl rfl))
            have k1 : w5.cell? ⟨gk, 1, none⟩ = some (.int .i64 blk.term.kind) := blk_cell HO5.out rfl
            have k2 : w5.cell? ⟨gk, 2, none⟩ = some (.int .i64 blk.term.op) := blk_cell HO5.out rfl
            have k3 : w5.cell? ⟨gk, 3, none⟩ = some (.int .i64 blk.term.a.reg) := blk_cell HO5.out rfl
            have k4 : w5.cell? ⟨gk, 4, none⟩ = some (.int .i64 blk.term.a.num) := blk_cell HO5.out rfl
            have k5 : w5.cell? ⟨gk, 5, none⟩ = some (.int .i64 blk.term.b.reg) := blk_cell HO5.out rfl
            have k6 : w5.cell? ⟨gk, 6, none⟩ = some (.int .i64 blk.term.b.num) := blk_cell HO5.out rfl
            have k7 : w5.cell? ⟨gk, 7, none⟩ = some (.int .i64 blk.term.to_) := blk_cell HO5.out rfl
            have k8 : w5.cell? ⟨gk, 8, none⟩ = some (.int .i64 blk.term.els) := blk_cell HO5.out rfl
            have hgk5 := blk_lt HO5.out
            clear hs5 hb5 hwk hgk
            go_wp2_with fail
            refine (treads_new _ blk.term HT4.out HT5.out).mono ?_
            rintro e w6 ⟨v6, rfl, hv6, hb6, how6⟩
            have HS6 := Lib.hid (HS5.out.more hb6)
            have HB6k := Lib.hid (HB5k.out.bt hb6)
            have HD6 := Lib.hid (show readsT blk.term = [] ∨ v6.ownBlock ≠ sv.ownBlock by
              rcases how6 with rfl | ⟨B, n', xs, ho⟩
              · exact Or.inl (hv6.nil_of rfl)
              · obtain ⟨n0, xs0, o0⟩ := HS6.out.own_
                rcases own_ne ho o0 (by decide) with h | h
                · exact Or.inl (hv6.nil_of h)
                · exact Or.inr h)
            obtain ⟨A3, c3, rfl, hl3, hm3, h3⟩ := hv6
            have H3 := Lib.hid h3
            unfold maxLen at hm3
            have HLen := Lib.hid (show (readsT blk.term).length ≤ 9223372036854775807 by omega)
            have hlen := HLen.out
            clear k1 k2 k3 k4 k5 k6 k7 k8 hgk5 hb6 how6 HS5 HB5k HO5 h3 hl3 hm3
            obtain ⟨rl, hrl⟩ : ∃ z, z = readsT blk.term := ⟨_, rfl⟩
            rw [← hrl] at H3 hlen HLen HD6 HTr ⊢
            have HRL := Lib.hid hrl
            clear hrl
            go_wp2_with fail
            go_loopw [88] (fun s wr => ∃ (j : Nat), j ≤ rl.length ∧ s = .int .i64 j ∧ SetB wr wk.heap.size sv i (useF (oB f b) (rl.take j)) ∧ w6.grownBy wr sv.ownBlock) (fun s _ => rl.length - (intOf s).toNat)
            case atStart => exact ⟨0, by omega, rfl, HS6.out.congr (fun r _ => by simp [useF, useB]), grownBy_refl _ _⟩
            case round =>
              obtain ⟨j, hj, rfl, hsr, hg⟩ := hrel
              have HSr := Lib.hid hsr
              have HG := Lib.hid hg
              have hlen := HLen.out
              clear hsr hg
              by_cases hltj : j < rl.length
              · obtain ⟨a, ha⟩ : ∃ a, rl[j]? = some a := ⟨_, List.getElem?_eq_getElem hltj⟩
                obtain ⟨lb, lo, cs, rfl, e1, e2, e3, e4, e5⟩ := H3.out j a ha
                subst e3
                have hne : some lb ≠ sv.ownBlock := by
                  rcases HD6.out with h | h
                  · rw [h] at hltj; simp at hltj
                  · exact h
                have q0 := HG.out.cell (e2 0 (by omega)) hne
                have q1 := HG.out.cell (e2 1 (by omega)) hne
                rw [Nat.add_zero] at q0
                obtain ⟨r1, r2⟩ := e4
                have hb0 := World.block_lt_of_cell? _ _ q0
                have HT2 := Lib.hid (useF_take (oB f b) ha)
                have hra := (HTr.out a (List.mem_of_getElem? ha)).2
                clear e1 e2 e5 ha hne
                go_wp2_with fail
                have hal : Below wr.heap.size wr (wr.alloc (.cells #[.int .i64 a.reg, .int .i64 a.num] 24)) := below_alloc _ (Below.refl _ _)
                have HS2 := Lib.hid (HSr.out.more hal)
                have HG2 := Lib.hid (grown_trans HG.out (grown_of_below (r := sv.ownBlock) hal))
                clear hal
                refine (put_b _ a.reg HS2.out hR hra).mono ?_
                rintro e w7 ⟨rfl, hs7, hg7⟩
                have HS7 := Lib.hid hs7
                have HG7 := Lib.hid (grown_trans HG2.out hg7)
                clear hs7 hg7 q0 q1
                go_wp2_with fail
                go_roundw
                case rel => exact ⟨j + 1, by omega, by go_num, by rw [HT2.out]; exact HS7.out, HG7.out⟩
                case measure => first | omega | (simp [intOf]; done) | (simp [intOf]; omega)
              · have e : j = rl.length := by omega
                subst e
                have HB7 := Lib.hid (below_of_grown HB6k.out (Nat.le_refl _) HG.out (fun k hk => (HS6.out.lt_ hk).1))
                have HSe := Lib.hid (show SetB wr wk.heap.size sv i (endS (blkF f) (oB f) b) by
                  have := HSr.out
                  rw [List.take_length, HRL.out] at this
                  unfold endS
                  rw [HBkf.out]; exact this)
                have hgz : gk < wk.heap.size := blk_lt HBK.out
                have HGZ := Lib.hid hgz
                have k0 : wr.cell? ⟨gk, 0, none⟩ = some (.slice A9 blk.ins.length cap9) := blk_cell ((HB7.out.block gk hgz).trans HBK.out) rfl
                have hg7' : gk < wr.heap.size := Nat.lt_of_lt_of_le hgz HB7.out.size
                clear HG hgz
                go_wp2_with fail
                clear k0 hg7'
                go_loopw [14] (fun s wr => ∃ (q : Nat), q ≤ blk.ins.length ∧ s = .int .i64 ((q : Int) - 1) ∧ SetB wr wk.heap.size sv i (bsS (endS (blkF f) (oB f) b) (blk.ins.drop q)) ∧ Below wk.heap.size wk wr) (fun s _ => (intOf s + 1).toNat)
                case atStart => exact ⟨blk.ins.length, Nat.le_refl _, by go_num, by rw [List.drop_length]; exact HSe.out, HB7.out⟩
                case round =>
                  obtain ⟨q, hq, rfl, hs, hb⟩ := hrel
                  have HS8 := Lib.hid hs
                  have HB8 := Lib.hid hb
                  clear hs hb HSr HB7
                  have k0 : wr.cell? ⟨gk, 0, none⟩ = some (.slice A9 blk.ins.length cap9) := blk_cell ((HB8.out.block gk HGZ.out).trans HBK.out) rfl
                  have hg8 : gk < wr.heap.size := Nat.lt_of_lt_of_le HGZ.out HB8.out.size
                  rcases Nat.eq_zero_or_pos q with e | e
                  · subst e
                    go_wp2_with fail
                    go_roundw
                    case rel => exact ⟨b + 1, by omega, by go_num, HBW.out.bt HB8.out⟩
                    case measure => first | omega | (simp [intOf]; done) | (simp [intOf]; omega)
                  · obtain ⟨q, rfl⟩ : ∃ q', q = q' + 1 := ⟨q - 1, by omega⟩
                    clear e
                    have hjq : (((q + 1 : Nat) : Int) - 1) = (q : Nat) := by omega
                    rw [hjq]
                    clear hjq
                    have hqi : q < blk.ins.length := by omega
                    obtain ⟨x, hx⟩ : ∃ x, blk.ins[q]? = some x := ⟨_, List.getElem?_eq_getElem hqi⟩
                    obtain ⟨ib, io, cs, rfl, e1, e2, va, e3, u1, u2, u3, u4, u5, u6, u7, u8, u9, u10, u11⟩ := H9.out q x hx
                    subst e3
                    have hwr := HBW.out.bt HB8.out
                    have hwr2 := HWc.out.bt hwr
                    have h08 := H0.out.trans (hwr2.mono H0.out.size)
                    have r0 := later (e2 0 (by omega)) h08
                    have r1 := later (e2 1 (by omega)) h08
                    have r2 := later (e2 2 (by omega)) h08
                    have r3 := later (e2 3 (by omega)) h08
                    have r4 := later (e2 4 (by omega)) h08
                    have r5 := later (e2 5 (by omega)) h08
                    have r6 := later (e2 6 (by omega)) h08
                    have r7 := later (e2 7 (by omega)) h08
                    have r8 := later (e2 8 (by omega)) h08
                    have r9 := later (e2 9 (by omega)) h08
                    have r10 := later (e2 10 (by omega)) h08
                    have r11 := later (e2 11 (by omega)) h08
                    rw [Nat.add_zero] at r0
                    have HU10 := Lib.hid (u10.later (by decide) h08)
                    have HDx := Lib.hid (show x.args = [] ∨ va.ownBlock ≠ sv.ownBlock by
                      rcases u10.blk (by decide) with h | ⟨b', h1, h2⟩
                      · exact Or.inl h
                      · refine Or.inr (fun e => ?_)
                        have := (HS8.out.lt_ (e.symm.trans h1)).1
                        have := H0.out.size
                        have := (HWc.out.bt HBW.out).size
                        omega)
                    obtain ⟨hd1, hd2⟩ := (HDb.out x (List.mem_of_getElem? hx)).1
                    have HKo := Lib.hid (show KeepOk i (bsS (endS (blkF f) (oB f) b) (blk.ins.drop (q + 1))) x pl by
                      have := HA.out.keep (m := b) (j := q) hltb (by rw [HBkf.out]; exact hx)
                      unfold bhF at this
                      rw [HBkf.out] at this
                      exact this)
                    have HDrp := Lib.hid (drop_cons hx)
                    obtain ⟨A5, cap5, hva, _, _, _⟩ := u10
                    subst hva
                    have HKp := Lib.hid (fun w' (h : Below wr.heap.size wr w') => keeps_g w' fb fo i (later C3.out (hwr2.bt h)) hR base gp pl (own_below HP.out (hwr2.bt h)) HA.out.len (cells : Nat) wk.heap.size sv _ (HS8.out.more h) x A5 x.args.length cap5 hd1 hd2 HKo.out)
                    have HBa := Lib.hid (fun w' (h : Below wr.heap.size wr w') => back_g w' (va := .slice A5 x.args.length cap5) x (HS8.out.more h) u1 u2 ⟨u3, u4⟩ ⟨u5, u6⟩ (HU10.out.later (by decide) h) (HSb.out x (List.mem_of_getElem? hx)) HDx.out)
                    have HS0 := Lib.hid (show (wr.cell? ⟨ga, 0, none⟩ = some (.slice (some ⟨gp, 0, none⟩) i i) ∧ wr.cell? ⟨ga, 1, none⟩ = some (.int .i64 (cells : Nat)) ∧ wr.cell? ⟨gk, 0, none⟩ = some (.slice (some ⟨ib, io, none⟩) blk.ins.length cap9) ∧ wr.cell? ⟨ib, io + q * 12, none⟩ = some (.int .i64 x.op) ∧ wr.cell? ⟨ib, io + q * 12 + 1, none⟩ = some (.int .i64 x.dst) ∧ wr.cell? ⟨ib, io + q * 12 + 2, none⟩ = some (.int .i64 x.a.reg) ∧ wr.cell? ⟨ib, io + q * 12 + 3, none⟩ = some (.int .i64 x.a.num) ∧ wr.cell? ⟨ib, io + q * 12 + 4, none⟩ = some (.int .i64 x.b.reg) ∧ wr.cell? ⟨ib, io + q * 12 + 5, none⟩ = some (.int .i64 x.b.num) ∧ wr.cell? ⟨ib, io + q * 12 + 6, none⟩ = some (.int .i64 x.size) ∧ wr.cell? ⟨ib, io + q * 12 + 7, none⟩ = some (.bool x.signed) ∧ wr.cell? ⟨ib, io + q * 12 + 8, none⟩ = some (.bool x.secret) ∧ wr.cell? ⟨ib, io + q * 12 + 9, none⟩ = some (.int .i64 x.ref) ∧ wr.cell? ⟨ib, io + q * 12 + 10, none⟩ = some (.int .i64 x.off) ∧ wr.cell? ⟨ib, io + q * 12 + 11, none⟩ = some (.slice A5 x.args.length cap5) ∧ wr.cell? ⟨gk, 0, none⟩ = some (.slice (some ⟨ib, io, none⟩) blk.ins.length cap9)) ∧ Below wr.heap.size wr wr from ⟨⟨later HA0.out hwr, later HA1.out hwr, k0, r0, r1, r2, r3, r4, r5, r6, r7, r8, r9, r10, r11, k0⟩, Below.refl _ _⟩)
                    clear e1 e2 hx u1 u2 u3 u4 u5 u6 u7 u8 u9 u11 h08 hwr hwr2
                    go_wp2_with fail
                    go_cut [114] (fun z wx => z = .bool false ∧ Below wr.heap.size wr wx)
                    case first =>
                      clear r0 r1 r2 r3 r4 r5 r6 r7 r8 r9 r10 r11 k0
                      go_region_held3 (fun w' => (w'.cell? ⟨ga, 0, none⟩ = some (.slice (some ⟨gp, 0, none⟩) i i) ∧ w'.cell? ⟨ga, 1, none⟩ = some (.int .i64 (cells : Nat)) ∧ w'.cell? ⟨gk, 0, none⟩ = some (.slice (some ⟨ib, io, none⟩) blk.ins.length cap9) ∧ w'.cell? ⟨ib, io + q * 12, none⟩ = some (.int .i64 x.op) ∧ w'.cell? ⟨ib, io + q * 12 + 1, none⟩ = some (.int .i64 x.dst) ∧ w'.cell? ⟨ib, io + q * 12 + 2, none⟩ = some (.int .i64 x.a.reg) ∧ w'.cell? ⟨ib, io + q * 12 + 3, none⟩ = some (.int .i64 x.a.num) ∧ w'.cell? ⟨ib, io + q * 12 + 4, none⟩ = some (.int .i64 x.b.reg) ∧ w'.cell? ⟨ib, io + q * 12 + 5, none⟩ = some (.int .i64 x.b.num) ∧ w'.cell? ⟨ib, io + q * 12 + 6, none⟩ = some (.int .i64 x.size) ∧ w'.cell? ⟨ib, io + q * 12 + 7, none⟩ = some (.bool x.signed) ∧ w'.cell? ⟨ib, io + q * 12 + 8, none⟩ = some (.bool x.secret) ∧ w'.cell? ⟨ib, io + q * 12 + 9, none⟩ = some (.int .i64 x.ref) ∧ w'.cell? ⟨ib, io + q * 12 + 10, none⟩ = some (.int .i64 x.off) ∧ w'.cell? ⟨ib, io + q * 12 + 11, none⟩ = some (.slice A5 x.args.length cap5) ∧ w'.cell? ⟨gk, 0, none⟩ = some (.slice (some ⟨ib, io, none⟩) blk.ins.length cap9)) ∧ Below wr.heap.size wr w')
                        (first | exact s16_step (hb := drew_below' _) (h := HS0.out) | exact s16_step (hb := hbL) (h := HS0.out))
                        ((go_at_call 19; refine (HKp.out _ (drew_below' _)).mono ?_; rintro e w8 ⟨rfl, hbM⟩; have hbL : Below wr.heap.size wr w8 := (drew_below' wr).bt hbM))
                      all_goals (try go_wp2_with fail)
                      all_goals go_meet
                      all_goals exact ⟨by simp, by assumption⟩
                    case rest =>
                      obtain ⟨hc114, hbL⟩ := hcut
                      subst hc114
                      have HBz := Lib.hid (HB8.out.bt hbL)
                      have HBc := Lib.hid (HBa.out _ hbL)
                      have hg9 : gk < wc.heap.size := Nat.lt_of_lt_of_le hg8 hbL.size
                      have k0' := later k0 hbL
                      have r0' := later r0 hbL
                      have r1' := later r1 hbL
                      have r2' := later r2 hbL
                      have r3' := later r3 hbL
                      have r4' := later r4 hbL
                      have r5' := later r5 hbL
                      have r6' := later r6 hbL
                      have r7' := later r7 hbL
                      have r8' := later r8 hbL
                      have r9' := later r9 hbL
                      have r10' := later r10 hbL
                      have r11' := later r11 hbL
                      have HS9 := Lib.hid (HS8.out.more hbL)
                      clear hbL k0 hg8 r0 r1 r2 r3 r4 r5 r6 r7 r8 r9 r10 r11
                      go_wp2_with fail
                      refine HBc.out.mono ?_
                      rintro e w9 ⟨rfl, hs9, hg9'⟩
                      have HS10 := Lib.hid (show SetB w9 wk.heap.size sv i (bsS (endS (blkF f) (oB f) b) (blk.ins.drop q)) by rw [HDrp.out]; exact hs9)
                      have HB10 := Lib.hid (below_of_grown HBz.out (Nat.le_refl _) hg9' (fun k hk => (HS9.out.lt_ hk).1))
                      clear hs9 hg9' k0' r0' r1' r2' r3' r4' r5' r6' r7' r8' r9' r10' r11'
                      go_wp2_with fail
                      go_roundw
                      case rel => exact ⟨q, by omega, by go_num, HS10.out, HB10.out⟩
                      case measure => first | omega | (simp [intOf]; done) | (simp [intOf]; omega)
          · have e : b = f.blocks.length := by omega
            subst e
            go_wp2_with fail
            go_returns
            exact ⟨rfl, HWc.out.bt HB.out⟩
end Go.Proofs.Ytegnaeinpacafaa
