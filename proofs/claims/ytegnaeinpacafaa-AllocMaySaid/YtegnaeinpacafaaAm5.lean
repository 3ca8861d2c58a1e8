/- Walks: the statements' may, where the places may be. No condition. -/
import Derived.Test.YtegnaeinpacafaaAm4
namespace Go.Proofs.Ytegnaeinpacafaa
open Go.RowKit
set_option linter.unusedVariables false
set_option maxHeartbeats 4000000
set_option maxRecDepth 100000 in
theorem may_any (W0 w : World) (h0 : Below W0.heap.size W0 w) (f : FuncD) (R P : Nat) (hF : FnOk f R P) (A6 A7 A8 : Option Addr) (n6 n7 c6 c7 c8 : Nat) (hb : SlR W0 9 (BlockR W0) (.slice A8 f.blocks.length c8) f.blocks) (base gp : Nat) (pl : List Int) (hp : OwnI w base (.slice (some ⟨gp, 0, none⟩) R R) pl) (cells : Nat) (hA : AllocOk f R P pl (cells : Nat)) :
    Calls Try.prog 13 #[.agg #[.string f.name, .int .i64 (P : Nat), .slice A7 n7 c7, .int .i64 (R : Nat), .slice A6 n6 c6, .slice A8 f.blocks.length c8], .agg #[.slice (some ⟨gp, 0, none⟩) R R, .int .i64 (cells : Nat)]] w fun e w' => e = .returned (.bool true) ∧ Below w.heap.size w w' := by
  obtain ⟨A8', c8', e8, m2, m3, hi⟩ := id hb
  cases e8
  have HI := Lib.hid hi
  have H0 := Lib.hid h0
  have HF := Lib.hid hF
  have HA := Lib.hid hA
  have HSB := Lib.hid hb
  have hR6 : R ≤ 1000000 := by have := hF.hR; omega
  have h0n := hF.h0n
  have hn6 := hF.hn
  have hPR := hF.hPR
  have hcl := hA.c0
  have HB2 := Lib.hid (below_alloc (.cells #[.slice (some ⟨gp, 0, none⟩) R R, .int .i64 (cells : Nat)] 45) (below_alloc (.cells #[.string f.name, .int .i64 (P : Nat), .slice A7 n7 c7, .int .i64 (R : Nat), .slice A6 n6 c6, .slice A8 f.blocks.length c8] 38) (Below.refl w.heap.size w)))
  have HFB := Lib.hid (blk_alloc (blk_new w (.cells #[.string f.name, .int .i64 (P : Nat), .slice A7 n7 c7, .int .i64 (R : Nat), .slice A6 n6 c6, .slice A8 f.blocks.length c8] 38)) (.cells #[.slice (some ⟨gp, 0, none⟩) R R, .int .i64 (cells : Nat)] 45))
  have HAB := Lib.hid (show ((w.alloc (.cells #[.string f.name, .int .i64 (P : Nat), .slice A7 n7 c7, .int .i64 (R : Nat), .slice A6 n6 c6, .slice A8 f.blocks.length c8] 38)).alloc (.cells #[.slice (some ⟨gp, 0, none⟩) R R, .int .i64 (cells : Nat)] 45)).heap[w.heap.size + 1]? = some (.cells #[.slice (some ⟨gp, 0, none⟩) R R, .int .i64 (cells : Nat)] 45 (0, 0)) by
    have := blk_new (w.alloc (.cells #[.string f.name, .int .i64 (P : Nat), .slice A7 n7 c7, .int .i64 (R : Nat), .slice A6 n6 c6, .slice A8 f.blocks.length c8] 38)) (.cells #[.slice (some ⟨gp, 0, none⟩) R R, .int .i64 (cells : Nat)] 45)
    simpa using this)
  have HP := Lib.hid (own_below hp HB2.out)
  have b33 : ((R : Int) != (R : Int)) = false := by simp
  obtain ⟨ci, hci⟩ : ∃ z : Int, z = (cells : Int) := ⟨_, rfl⟩
  have d00 : decide (ci < 0) = false := decide_eq_false (by omega)
  have HCI := Lib.hid hci
  rw [← hci] at HB2 HFB HAB HP ⊢
  clear hi h0 hF hA m2 m3 hb hp hci hcl
  go_enter Try.func13, Try.ntmps13
  go_wp2_with fail
  obtain ⟨wa, hwa⟩ : ∃ z, z = (w.alloc (.cells #[.string f.name, .int .i64 (P : Nat), .slice A7 n7 c7, .int .i64 (R : Nat), .slice A6 n6 c6, .slice A8 f.blocks.length c8] 38)).alloc (.cells #[.slice (some ⟨gp, 0, none⟩) R R, .int .i64 ci] 45) := ⟨_, rfl⟩
  rw [← hwa] at HB2 HFB HAB HP ⊢
  obtain ⟨gf, hgf⟩ : ∃ z, z = w.heap.size := ⟨_, rfl⟩
  rw [← hgf] at HFB HAB ⊢
  clear hwa hgf
  go_loopw [35] (fun i wr => ∃ j : Nat, j ≤ R ∧ i = .int .i64 j ∧ Below wa.heap.size wa wr) (fun i _ => R - (intOf i).toNat)
  case atStart => exact ⟨0, by omega, rfl, Below.refl _ _⟩
  case round =>
    obtain ⟨i, hi, rfl, hB⟩ := hrel
    have HB := Lib.hid hB
    clear hB
    by_cases hlt : i < R
    · obtain ⟨y, hy⟩ : ∃ z, pl[i]? = some z := ⟨_, List.getElem?_eq_getElem (by rw [HA.out.len]; exact hlt)⟩
      have k1 := later (OwnI.cell HP.out (by rw [HA.out.len]; exact hlt) y hy) HB.out
      obtain ⟨y0, y5⟩ := HA.out.rng i y hy
      have ka : wr.cell? ⟨gf + 1, 1, none⟩ = some (.int .i64 ci) := later (blk_cell HAB.out rfl) HB.out
      have hcz := HA.out.c0
      have hyb : y ≤ 9223372036854775807 := by
        by_cases h5 : 5 ≤ y
        · have := y5 h5; omega
        · omega
      have l1 := World.block_lt_of_cell? _ _ k1
      have l2 := World.block_lt_of_cell? _ _ ka
      have n1 : decide (y < 0) = false := decide_eq_false (by omega)
      have n3 : decide (ci ≤ y - 5) = false := decide_eq_false (by
        have := HCI.out
        by_cases h5 : 5 ≤ y
        · have := y5 h5; omega
        · omega)
      have hy1 : -9223372036854775808 ≤ y - 5 := by omega
      have hy2 : y - 5 ≤ 9223372036854775807 := by omega
      clear hy y5 y0 hcz
      go_wp2_with fail
      go_roundw
      case rel => exact ⟨i + 1, by omega, by go_num, HB.out⟩
      case measure => first | omega | (simp [intOf]; done) | (simp [intOf]; omega)
    · have e : R = i := by omega
      subst e
      have kf1 : wr.cell? ⟨gf, 1, none⟩ = some (.int .i64 (P : Nat)) := later (blk_cell HFB.out rfl) HB.out
      have kf3 : wr.cell? ⟨gf, 3, none⟩ = some (.int .i64 (R : Nat)) := later (blk_cell HFB.out rfl) HB.out
      have kf5 : wr.cell? ⟨gf, 5, none⟩ = some (.slice A8 f.blocks.length c8) := later (blk_cell HFB.out rfl) HB.out
      have HLc := Lib.hid (live_sets W0 wr (H0.out.trans ((HB2.out.bt HB.out).mono H0.out.size)) gf 0 f _ (by rw [Nat.zero_add]; exact kf5) R (by rw [Nat.zero_add]; exact kf3) HSB.out _ rfl h0n (by omega) hR6 HF.out.hnx (fun b hb x hx => by have := HF.out.hslim b hb x hx; omega))
      clear kf1 kf3 kf5
      go_wp2_with fail
      refine HLc.out.mono ?_
      rintro e wl ⟨iv, ov, vs2, I, O, rfl, hLS, hLI, hLD⟩
      have HLO := Lib.hid (fun i hi => live_o hLS hLI hLD HF.out.hnx (i := i) hi)
      have HL0 := Lib.hid (live_i hLS hLI hLD h0n)
      have HRO := Lib.hid (And.intro hLS.ri hLS.ro)
      have HBL := Lib.hid (HB.out.bt hLS.below)
      obtain ⟨gi, cgi, hiv, _⟩ := own_form hLS.ri h0n
      obtain ⟨go, cgo, hov, _⟩ := own_form hLS.ro h0n
      subst hiv hov
      clear hLS hLI hLD HLc HB
      have kf1 : wl.cell? ⟨gf, 1, none⟩ = some (.int .i64 (P : Nat)) := later (blk_cell HFB.out rfl) HBL.out
      have lf1 := World.block_lt_of_cell? _ _ kf1
      go_wp2_with fail
      clear kf1 lf1
      go_loopw [59] (fun s wr => ∃ x : Nat, x ≤ P ∧ s = .int .i64 x ∧ Below wl.heap.size wl wr) (fun s _ => P - (intOf s).toNat)
      case atStart => exact ⟨0, by omega, rfl, Below.refl _ _⟩
      case round =>
        obtain ⟨x, hx, rfl, hB⟩ := hrel
        have HBx := Lib.hid hB
        have kf1 : wr.cell? ⟨gf, 1, none⟩ = some (.int .i64 (P : Nat)) := later (later (blk_cell HFB.out rfl) HBL.out) hB
        have lf1 := World.block_lt_of_cell? _ _ kf1
        clear hB
        by_cases hltx : x < P
        · go_wp2_with fail
          clear kf1 lf1
          go_loopw [64] (fun s wr => ∃ y : Nat, y ≤ P ∧ s = .int .i64 y ∧ Below wl.heap.size wl wr) (fun s _ => P - (intOf s).toNat)
          case atStart => exact ⟨0, by omega, rfl, HBx.out⟩
          case round =>
            obtain ⟨y, hy, rfl, hB⟩ := hrel
            have HBy := Lib.hid hB
            clear hB HBx
            by_cases hlty : y < P
            · by_cases hxy : x = y
              · have b1 : ((x : Int) != (y : Int)) = false := by simp [hxy]
                clear hxy
                go_wp2_with fail
                go_quiet (fail)
                go_wp2_with fail
                go_roundw
                case rel => exact ⟨y + 1, by omega, by go_num, below_drewN HBy.out _⟩
                case measure => first | omega | (simp [intOf]; done) | (simp [intOf]; omega)
              · have b1 : ((x : Int) != (y : Int)) = true := by simp; omega
                obtain ⟨px, hpx⟩ : ∃ z, pl[x]? = some z := ⟨_, List.getElem?_eq_getElem (by rw [HA.out.len]; omega)⟩
                obtain ⟨py, hpy⟩ : ∃ z, pl[y]? = some z := ⟨_, List.getElem?_eq_getElem (by rw [HA.out.len]; omega)⟩
                have HW2 := Lib.hid (HBL.out.bt HBy.out)
                have k1 := later (OwnI.cell HP.out (by rw [HA.out.len]; omega) px hpx) HW2.out
                have k2 := later (OwnI.cell HP.out (by rw [HA.out.len]; omega) py hpy) HW2.out
                have ka : wr.cell? ⟨gf + 1, 0, none⟩ = some (.slice (some ⟨gp, 0, none⟩) R R) := later (blk_cell HAB.out rfl) HW2.out
                have l1 := World.block_lt_of_cell? _ _ k1
                have l2 := World.block_lt_of_cell? _ _ ka
                obtain ⟨u0, hu0, hs0⟩ := HL0.out
                obtain ⟨cu0, _, _⟩ := row_cell HRO.out.1 h0n (v := u0) (by rw [List.getElem?_take, if_pos h0n]; exact hu0)
                have cu1 := later cu0 HBy.out
                obtain ⟨Au0, ku0, hue0⟩ := hs0.slice_
                subst hue0
                have l3 := World.block_lt_of_cell? _ _ cu1
                have A1 := Lib.hid (fun q => (has_b (wr.drewN q) x ((hs0.more HBy.out).more (below_drewN (Below.refl _ _) q)) hR6 (by omega)).mono (fun _ _ h => (⟨h.1, h.2.symm⟩ : _ ∧ _)))
                clear hu0 hs0 cu0
                by_cases he : px = py
                · obtain ⟨i1, _⟩ := HA.out.begin x y px hltx hlty hxy hpx (by rw [hpy, he])
                  rw [i1] at A1
                  have b2 : (px == py) = true := by simpa using he
                  clear he hpx hpy i1 hxy
                  go_wp2_with fail
                  go_quiet ((go_at_call 25; with_reducible exact Calls.quiet_of_same (A1.out _)))
                  go_wp2_with fail
                  go_roundw
                  case rel => exact ⟨y + 1, by omega, by go_num, below_drewN HBy.out _⟩
                  case measure => first | omega | (simp [intOf]; done) | (simp [intOf]; omega)
                · have b2 : (px == py) = false := by simpa using he
                  clear he hpx hpy hxy
                  go_wp2_with fail
                  go_quiet (fail)
                  go_wp2_with fail
                  go_roundw
                  case rel => exact ⟨y + 1, by omega, by go_num, below_drewN HBy.out _⟩
                  case measure => first | omega | (simp [intOf]; done) | (simp [intOf]; omega)
            · have e : P = y := by omega
              go_wp2_with fail
              go_roundw
              case rel => exact ⟨x + 1, by omega, by go_num, HBy.out⟩
              case measure => first | omega | (simp [intOf]; done) | (simp [intOf]; omega)
        · have e : P = x := by omega
          have kf5 : wr.cell? ⟨gf, 5, none⟩ = some (.slice A8 f.blocks.length c8) := later (later (blk_cell HFB.out rfl) HBL.out) HBx.out
          clear kf1 lf1 e
          have lf5 := World.block_lt_of_cell? _ _ kf5
          have hnle : f.blocks.length ≤ 2000 := hn6
          go_wp2_with fail
          clear kf5 lf5
          go_loopw [95] (fun s wr => ∃ m : Nat, m ≤ f.blocks.length ∧ s = .int .i64 m ∧ Below wl.heap.size wl wr) (fun s _ => f.blocks.length - (intOf s).toNat)
          case atStart => exact ⟨0, by omega, rfl, HBx.out⟩
          case round =>
            obtain ⟨m, hm, rfl, hB⟩ := hrel
            have HBm := Lib.hid hB
            clear hB HBx
            by_cases hltm : m < f.blocks.length
            · obtain ⟨blk, hblk⟩ : ∃ b', f.blocks[m]? = some b' := ⟨_, List.getElem?_eq_getElem hltm⟩
              obtain ⟨bb, bo, cs, hA8, e1, e2, vi, e3, y1, y2, t1, t2, t3, t4, t5, t6, t7, t8⟩ := HI.out m blk hblk
              subst e3
              obtain ⟨A9, cap9, rfl, _, _, h9⟩ := y1
              have H9 := Lib.hid h9
              have HT4 := Lib.hid (And.intro t3 t4)
              have HT5 := Lib.hid (And.intro t5 t6)
              have h03 := H0.out.trans ((HB2.out.bt (HBL.out.bt HBm.out)).mono H0.out.size)
              have r0 := later (e2 0 (by omega)) h03
              have r1 := later (e2 1 (by omega)) h03
              have r2 := later (e2 2 (by omega)) h03
              have r3 := later (e2 3 (by omega)) h03
              have r4 := later (e2 4 (by omega)) h03
              have r5 := later (e2 5 (by omega)) h03
              have r6 := later (e2 6 (by omega)) h03
              have r7 := later (e2 7 (by omega)) h03
              have r8 := later (e2 8 (by omega)) h03
              rw [Nat.add_zero] at r0
              have HBkf := Lib.hid (blkF_of hblk)
              have hmem := List.mem_of_getElem? hblk
              have HSb := Lib.hid (And.intro (HF.out.hslim blk hmem) (And.intro (HF.out.hil blk hmem) (And.intro (HF.out.hdst blk hmem) (HF.out.htr blk hmem))))
              have hil := HSb.out.2.1
              subst hA8
              have HBX := Lib.hid (below_alloc (.cells #[.slice A9 blk.ins.length cap9, .int .i64 blk.term.kind, .int .i64 blk.term.op, .int .i64 blk.term.a.reg, .int .i64 blk.term.a.num, .int .i64 blk.term.b.reg, .int .i64 blk.term.b.num, .int .i64 blk.term.to_, .int .i64 blk.term.els] 33) (Below.refl wr.heap.size wr))
              have HBO := Lib.hid (blk_new wr (.cells #[.slice A9 blk.ins.length cap9, .int .i64 blk.term.kind, .int .i64 blk.term.op, .int .i64 blk.term.a.reg, .int .i64 blk.term.a.num, .int .i64 blk.term.b.reg, .int .i64 blk.term.b.num, .int .i64 blk.term.to_, .int .i64 blk.term.els] 33))
              clear e1 e2 y2 t1 t2 t3 t4 t5 t6 t7 t8 hblk h03 h9 hmem
              go_wp2_with fail
              clear r0 r1 r2 r3 r4 r5 r6 r7 r8
              obtain ⟨wb, hwb⟩ : ∃ z, z = wr.alloc (.cells #[.slice A9 blk.ins.length cap9, .int .i64 blk.term.kind, .int .i64 blk.term.op, .int .i64 blk.term.a.reg, .int .i64 blk.term.a.num, .int .i64 blk.term.b.reg, .int .i64 blk.term.b.num, .int .i64 blk.term.to_, .int .i64 blk.term.els] 33) := ⟨_, rfl⟩
              rw [← hwb] at HBX HBO ⊢
              obtain ⟨gk, hgk⟩ : ∃ z, z = wr.heap.size := ⟨_, rfl⟩
              rw [← hgk] at HBO ⊢
              obtain ⟨BV, hBV⟩ : ∃ z : Array Value, z = #[.slice A9 blk.ins.length cap9, .int .i64 blk.term.kind, .int .i64 blk.term.op, .int .i64 blk.term.a.reg, .int .i64 blk.term.a.num, .int .i64 blk.term.b.reg, .int .i64 blk.term.b.num, .int .i64 blk.term.to_, .int .i64 blk.term.els] := ⟨_, rfl⟩
              rw [← hBV] at HBO
              have HBV := Lib.hid hBV
              have HBw := Lib.hid (HBm.out.bt HBX.out)
              clear hwb hgk hBV HBm
              go_loopw [103] (fun s wr => ∃ k : Nat, k ≤ blk.ins.length ∧ s = .int .i64 k ∧ Below wb.heap.size wb wr) (fun s _ => blk.ins.length - (intOf s).toNat)
              case atStart => exact ⟨0, by omega, rfl, Below.refl _ _⟩
              case round =>
                obtain ⟨k, hk, rfl, hB⟩ := hrel
                have HBk := Lib.hid hB
                clear hB
                by_cases hltk : k < blk.ins.length
                · obtain ⟨x, hx⟩ : ∃ x, blk.ins[k]? = some x := ⟨_, List.getElem?_eq_getElem hltk⟩
                  obtain ⟨ib, io, cs, hA9, e1, e2, va, e3, u1, u2, u3, u4, u5, u6, u7, u8, u9, u10, u11⟩ := H9.out k x hx
                  subst e3
                  have h08 := H0.out.trans ((HB2.out.bt (HBL.out.bt (HBw.out.bt HBk.out))).mono H0.out.size)
                  have r0 := later (e2 0 (by omega)) h08
                  have r1 := later (e2 1 (by omega)) h08
                  have r2 := later (e2 2 (by omega)) h08
                  have r3 := later (e2 3 (by omega)) h08
                  have r4 := later (e2 4 (by omega)) h08
                  have r5 := later (e2 5 (by omega)) h08
                  have r6 := later (e2 6 (by omega)) h08
                  have r7 := later (e2 7 (by omega)) h08
                  have r8 := later (e2 8 (by omega)) h08
                  have r9 := later (e2 9 (by omega)) h08
                  have r10 := later (e2 10 (by omega)) h08
                  have r11 := later (e2 11 (by omega)) h08
                  rw [Nat.add_zero] at r0
                  have hxm := List.mem_of_getElem? hx
                  have HXf := Lib.hid (HSb.out.2.2.1 x hxm)
                  have HKo := Lib.hid (show KeepOk R (bsS (endS (blkF f) (oB f) m) (blk.ins.drop (k + 1))) x pl by
                    have := HA.out.keep (m := m) (j := k) hltm (by rw [HBkf.out]; exact hx)
                    unfold bhF at this
                    rw [HBkf.out] at this
                    exact this)
                  subst hA9
                  obtain ⟨A5, cap5, rfl, _, _, _⟩ := u10
                  have HXX := Lib.hid (below_alloc (.cells #[.int .i64 x.op, .int .i64 x.dst, .int .i64 x.a.reg, .int .i64 x.a.num, .int .i64 x.b.reg, .int .i64 x.b.num, .int .i64 x.size, .bool x.signed, .bool x.secret, .int .i64 x.ref, .int .i64 x.off, .slice A5 x.args.length cap5] 28) (Below.refl wr.heap.size wr))
                  have HXO := Lib.hid (blk_new wr (.cells #[.int .i64 x.op, .int .i64 x.dst, .int .i64 x.a.reg, .int .i64 x.a.num, .int .i64 x.b.reg, .int .i64 x.b.num, .int .i64 x.size, .bool x.signed, .bool x.secret, .int .i64 x.ref, .int .i64 x.off, .slice A5 x.args.length cap5] 28))
                  obtain ⟨ovv, hov, hos⟩ := HLO.out m hltm
                  obtain ⟨co1, _, _⟩ := row_cell HRO.out.2 hltm (v := ovv) (by rw [List.getElem?_drop]; exact hov)
                  have co2 := later co1 (HBw.out.bt HBk.out)
                  have lo2 := World.block_lt_of_cell? _ _ co2
                  obtain ⟨A3, cap3, hv3⟩ := hos.slice_
                  subst hv3
                  have HOS := Lib.hid ((hos.more (HBw.out.bt HBk.out)).more HXX.out)
                  clear e1 e2 hx hxm u1 u2 u3 u4 u5 u6 u7 u8 u9 u11 h08 hov hos co1
                  go_wp2_with fail
                  clear r0 r1 r2 r3 r4 r5 r6 r7 r8 r9 r10 r11 co2 lo2
                  obtain ⟨wx, hwx⟩ : ∃ z, z = wr.alloc (.cells #[.int .i64 x.op, .int .i64 x.dst, .int .i64 x.a.reg, .int .i64 x.a.num, .int .i64 x.b.reg, .int .i64 x.b.num, .int .i64 x.size, .bool x.signed, .bool x.secret, .int .i64 x.ref, .int .i64 x.off, .slice A5 x.args.length cap5] 28) := ⟨_, rfl⟩
                  rw [← hwx] at HXX HXO HOS ⊢
                  obtain ⟨gx, hgx⟩ : ∃ z, z = wr.heap.size := ⟨_, rfl⟩
                  rw [← hgx] at HXO ⊢
                  obtain ⟨XV, hXV⟩ : ∃ z : Array Value, z = #[.int .i64 x.op, .int .i64 x.dst, .int .i64 x.a.reg, .int .i64 x.a.num, .int .i64 x.b.reg, .int .i64 x.b.num, .int .i64 x.size, .bool x.signed, .bool x.secret, .int .i64 x.ref, .int .i64 x.off, .slice A5 x.args.length cap5] := ⟨_, rfl⟩
                  rw [← hXV] at HXO
                  have HXV := Lib.hid hXV
                  have HBxx := Lib.hid (HBk.out.bt HXX.out)
                  clear hwx hgx hXV
                  refine (copy_b wx HOS.out hR6).mono ?_
                  rintro e w5 ⟨sv, rfl, hs5, hb5⟩
                  have HS5 := Lib.hid hs5
                  have HB5 := Lib.hid hb5
                  have hbv : w5.heap[gk]? = some (.cells #[.slice (some ⟨ib, io, none⟩) blk.ins.length cap9, .int .i64 blk.term.kind, .int .i64 blk.term.op, .int .i64 blk.term.a.reg, .int .i64 blk.term.a.num, .int .i64 blk.term.b.reg, .int .i64 blk.term.b.num, .int .i64 blk.term.to_, .int .i64 blk.term.els] 33 (0, 0)) := by rw [← HBV.out]; exact ((HBxx.out.bt hb5).block gk (blk_lt HBO.out)).trans HBO.out
                  have k1 : w5.cell? ⟨gk, 1, none⟩ = some (.int .i64 blk.term.kind) := blk_cell hbv rfl
                  have k2 : w5.cell? ⟨gk, 2, none⟩ = some (.int .i64 blk.term.op) := blk_cell hbv rfl
                  have k3 : w5.cell? ⟨gk, 3, none⟩ = some (.int .i64 blk.term.a.reg) := blk_cell hbv rfl
                  have k4 : w5.cell? ⟨gk, 4, none⟩ = some (.int .i64 blk.term.a.num) := blk_cell hbv rfl
                  have k5 : w5.cell? ⟨gk, 5, none⟩ = some (.int .i64 blk.term.b.reg) := blk_cell hbv rfl
                  have k6 : w5.cell? ⟨gk, 6, none⟩ = some (.int .i64 blk.term.b.num) := blk_cell hbv rfl
                  have k7 : w5.cell? ⟨gk, 7, none⟩ = some (.int .i64 blk.term.to_) := blk_cell hbv rfl
                  have k8 : w5.cell? ⟨gk, 8, none⟩ = some (.int .i64 blk.term.els) := blk_cell hbv rfl
                  have hgk5 := blk_lt hbv
                  clear hs5 hb5 hbv
                  go_wp2_with fail
                  refine (treads_new _ blk.term HT4.out HT5.out).mono ?_
                  rintro e w6 ⟨v6, rfl, hv6, hb6, how⟩
                  have HS6 := Lib.hid (HS5.out.more hb6)
                  have HB6 := Lib.hid (HB5.out.bt hb6)
                  have HV6 := Lib.hid (And.intro hv6 (show readsT blk.term = [] ∨ v6.ownBlock ≠ sv.ownBlock by
                    rcases how with rfl | ⟨b9, n9, xs9, ho9⟩
                    · exact Or.inl (hv6.nil_of rfl)
                    · obtain ⟨n0, xs0, o0⟩ := HS6.out.own_
                      rcases own_ne ho9 o0 (by decide) with h | h
                      · exact Or.inl (hv6.nil_of h)
                      · exact Or.inr h))
                  have hlen2 : (readsT blk.term).length ≤ 2 := by
                    unfold readsT
                    split
                    · simp
                    · split <;> simp
                  obtain ⟨A4, cap4, hv5, _⟩ := id hv6
                  subst hv5
                  clear k1 k2 k3 k4 k5 k6 k7 k8 hgk5 hv6 hb6 how HS5 HB5
                  obtain ⟨al, hal2⟩ : ∃ z, z = readsT blk.term := ⟨_, rfl⟩
                  have HRD := Lib.hid HSb.out.2.2.2
                  rw [← hal2] at HV6 HRD hlen2 ⊢
                  have HAL := Lib.hid hal2
                  obtain ⟨q, hq⟩ : ∃ q, q = al.length := ⟨_, rfl⟩
                  rw [← hq] at HV6 hlen2 ⊢
                  have HQ := Lib.hid hq
                  clear hal2 hq
                  go_wp2_with fail
                  go_loopw [117] (fun s wr => ∃ j : Nat, j ≤ q ∧ s = .int .i64 j ∧ SetB wr wx.heap.size sv R (useF (oB f m) (al.take j)) ∧ w6.grownBy wr sv.ownBlock) (fun s _ => q - (intOf s).toNat)
                  case atStart => exact ⟨0, by omega, rfl, HS6.out.congr (fun r _ => by simp [useF, useB]), grownBy_refl _ _⟩
                  case round =>
                    obtain ⟨j, hj, rfl, hs5, hgr5⟩ := hrel
                    have HS7 := Lib.hid hs5
                    have HR7 := Lib.hid hgr5
                    have hv6 := HV6.out.1.grown hgr5 HV6.out.2
                    clear hs5 hgr5
                    by_cases hltj : j < q
                    · have hlk : j < al.length := by rw [← HQ.out]; exact hltj
                      obtain ⟨a, ha⟩ : ∃ a, al[j]? = some a := ⟨_, List.getElem?_eq_getElem hlk⟩
                      obtain ⟨A6', cap6, e6, _, _, hv7⟩ := hv6
                      cases e6
                      obtain ⟨lb, lo, cs, rfl, e1, e2, e3, e4, e5⟩ := hv7 j a ha
                      subst e3
                      have q0 := e2 0 (by omega)
                      have q1 := e2 1 (by omega)
                      rw [Nat.add_zero] at q0
                      have hb0 := World.block_lt_of_cell? _ _ q0
                      have HRr := Lib.hid (HRD.out a (List.mem_of_getElem? ha))
                      have HT2 := Lib.hid (useF_take (oB f m) ha)
                      have HAa := Lib.hid (below_alloc (.cells #[.int .i64 a.reg, .int .i64 a.num] 24) (Below.refl wr.heap.size wr))
                      have HSa := Lib.hid (HS7.out.more HAa.out)
                      have HPut := Lib.hid (put_b _ a.reg HSa.out hR6 HRr.out.2)
                      clear e1 e2 e4 e5 hlk ha hv7
                      go_wp2_with fail
                      refine HPut.out.mono ?_
                      rintro e w9 ⟨rfl, hs9, hg9⟩
                      have HS9 := Lib.hid hs9
                      have HR9 := Lib.hid (grown_trans HR7.out (grown_trans (grown_of_below (r := sv.ownBlock) HAa.out) hg9))
                      clear hs9 hg9 q0 q1 hb0 HPut
                      go_wp2_with fail
                      go_roundw
                      case rel => exact ⟨j + 1, by omega, by go_num, by rw [HT2.out]; exact HS9.out, HR9.out⟩
                      case measure => first | omega | (simp [intOf]; done) | (simp [intOf]; omega)
                    · have e : q = j := by omega
                      subst e
                      have HB7 := Lib.hid (below_of_grown HB6.out (Nat.le_refl _) HR7.out (fun k hk => (HS6.out.lt_ hk).1))
                      have hbv : wr.heap[gk]? = some (.cells #[.slice (some ⟨ib, io, none⟩) blk.ins.length cap9, .int .i64 blk.term.kind, .int .i64 blk.term.op, .int .i64 blk.term.a.reg, .int .i64 blk.term.a.num, .int .i64 blk.term.b.reg, .int .i64 blk.term.b.num, .int .i64 blk.term.to_, .int .i64 blk.term.els] 33 (0, 0)) := by rw [← HBV.out]; exact ((HBxx.out.bt HB7.out).block gk (blk_lt HBO.out)).trans HBO.out
                      have k0 : wr.cell? ⟨gk, 0, none⟩ = some (.slice (some ⟨ib, io, none⟩) blk.ins.length cap9) := blk_cell hbv rfl
                      have hgk7 := blk_lt hbv
                      have HSe := Lib.hid (show SetB wr wx.heap.size sv R (endS (blkF f) (oB f) m) by
                        have := HS7.out
                        rw [HQ.out, List.take_length, HAL.out] at this
                        unfold endS
                        rw [HBkf.out]; exact this)
                      clear hbv hv6 HS6 HB6 HV6 HS7 HR7 hlen2
                      go_wp2_with fail
                      clear k0 hgk7
                      go_loopw [18] (fun s wr => ∃ q : Nat, k < q ∧ q ≤ blk.ins.length ∧ s = .int .i64 ((q : Int) - 1) ∧ SetB wr wx.heap.size sv R (bsS (endS (blkF f) (oB f) m) (blk.ins.drop q)) ∧ Below wx.heap.size wx wr) (fun s _ => (intOf s + 1).toNat)
                      case atStart => exact ⟨blk.ins.length, hltk, Nat.le_refl _, by go_num, by rw [List.drop_length]; exact HSe.out, HB7.out⟩
                      case round =>
                        obtain ⟨q, hkq, hq, rfl, hs, hb⟩ := hrel
                        have HS8 := Lib.hid hs
                        have HB8 := Lib.hid hb
                        clear hs hb HSe HB7
                        by_cases hqk : q = k + 1
                        · subst hqk
                          have kf3 : wr.cell? ⟨gf, 3, none⟩ = some (.int .i64 (R : Nat)) := later (later (blk_cell HFB.out rfl) HBL.out) (HBw.out.bt (HBxx.out.bt HB8.out))
                          have lf3 := World.block_lt_of_cell? _ _ kf3
                          have hjq : (((k + 1 : Nat) : Int) - 1) = (k : Nat) := by omega
                          rw [hjq]
                          clear hjq
                          go_wp2_with fail
                          clear kf3 lf3
                          go_loopw [144] (fun s wz => ∃ r : Nat, r ≤ R ∧ s = .int .i64 r ∧ Below wr.heap.size wr wz) (fun s _ => R - (intOf s).toNat)
                          case atStart => exact ⟨0, by omega, rfl, Below.refl _ _⟩
                          case round =>
                            obtain ⟨r, hr, rfl, hB⟩ := hrel
                            have HB := Lib.hid hB
                            clear hB
                            by_cases hltr : r < R
                            · have HWa := Lib.hid (HBL.out.bt (HBw.out.bt (HBxx.out.bt (HB8.out.bt HB.out))))
                              obtain ⟨y, hy⟩ : ∃ z, pl[r]? = some z := ⟨_, List.getElem?_eq_getElem (by rw [HA.out.len]; omega)⟩
                              have k1 := later (OwnI.cell HP.out (by rw [HA.out.len]; omega) y hy) HWa.out
                              have HY := Lib.hid hy
                              have ka := later (blk_cell HAB.out (i := 0) rfl) HWa.out
                              have hxv : wx.heap[gx]? = some (.cells #[.int .i64 x.op, .int .i64 x.dst, .int .i64 x.a.reg, .int .i64 x.a.num, .int .i64 x.b.reg, .int .i64 x.b.num, .int .i64 x.size, .bool x.signed, .bool x.secret, .int .i64 x.ref, .int .i64 x.off, .slice A5 x.args.length cap5] 28 (0, 0)) := by rw [← HXV.out]; exact HXO.out
                              have HWx := Lib.hid (HB8.out.bt HB.out)
                              have kx0 := later (blk_cell hxv (i := 0) rfl) HWx.out
                              have kx1 := later (blk_cell hxv (i := 1) rfl) HWx.out
                              have kx2 := later (blk_cell hxv (i := 2) rfl) HWx.out
                              have l1 := World.block_lt_of_cell? _ _ k1
                              have l2 := World.block_lt_of_cell? _ _ ka
                              have l3 := World.block_lt_of_cell? _ _ kx0
                              have HH := Lib.hid (has_b _ r (HS8.out.more HB.out) hR6 hltr)
                              obtain ⟨hb, hhb⟩ : ∃ z, z = bsS (endS (blkF f) (oB f) m) (blk.ins.drop (k + 1)) r := ⟨_, rfl⟩
                              rw [← hhb] at HH
                              obtain ⟨op, hop⟩ : ∃ z, z = x.op := ⟨_, rfl⟩
                              obtain ⟨ds, hds⟩ : ∃ z, z = x.dst := ⟨_, rfl⟩
                              obtain ⟨rg, hrg⟩ : ∃ z, z = x.a.reg := ⟨_, rfl⟩
                              rw [← hop] at kx0
                              rw [← hds] at kx1
                              rw [← hrg] at kx2
                              have hd1 : -1 ≤ ds ∧ ds < (R : Int) := by rw [hds]; exact HXf.out.1
                              have HOP := Lib.hid (And.intro hop (And.intro hds (And.intro hrg hhb)))
                              clear hy hhb hop hds hrg hxv
                              by_cases hd : (r : Int) = ds
                              · have b1 : ((r : Int) == ds) = true := by simpa using hd
                                clear hd hd1
                                go_wp2_with fail
                                go_roundw
                                case rel => exact ⟨r + 1, by omega, by go_num, HB.out⟩
                                case measure => first | omega | (simp [intOf]; done) | (simp [intOf]; omega)
                              have b1 : ((r : Int) == ds) = false := by simpa using hd
                              cases hb
                              · clear hd hd1
                                go_wp2_with fail
                                refine HH.out.mono ?_
                                rintro e w7 ⟨rfl, rfl⟩
                                go_wp2_with fail
                                go_roundw
                                case rel => exact ⟨r + 1, by omega, by go_num, HB.out⟩
                                case measure => first | omega | (simp [intOf]; done) | (simp [intOf]; omega)
                              have hk := HKo.out r hltr HOP.out.2.2.2.symm (by rw [← HOP.out.2.1]; exact fun e => hd e.symm) y HY.out
                              have HKr := Lib.hid hk
                              have HC5 := Lib.hid (fun (h : op = 28 ∨ op = 29) => show decide (y < 5) = false from decide_eq_false (by
                                have := hk.1 (by unfold callB; rw [← HOP.out.1]; rcases h with h | h <;> rw [h] <;> rfl)
                                omega))
                              clear hk hd
                              by_cases hx0 : 0 ≤ ds
                              · obtain ⟨d, hdd⟩ : ∃ d : Nat, ds = d := ⟨ds.toNat, by omega⟩
                                subst hdd
                                have hdR : d < R := by omega
                                obtain ⟨pd, hpd⟩ : ∃ z, pl[d]? = some z := ⟨_, List.getElem?_eq_getElem (by rw [HA.out.len]; exact hdR)⟩
                                have k4 := later (OwnI.cell HP.out (by rw [HA.out.len]; exact hdR) pd hpd) HWa.out
                                have l4 := World.block_lt_of_cell? _ _ k4
                                have HPD := Lib.hid hpd
                                have d0 : decide ((0 : Int) ≤ (d : Int)) = true := decide_eq_true hx0
                                clear hpd hx0 hd1
                                by_cases he : y = pd
                                · obtain ⟨q1, q2⟩ := HKr.out.2 d HOP.out.2.1.symm (by rw [HPD.out, he])
                                  have h28 : (op == 28) = false := by rw [HOP.out.1, q1]; rfl
                                  have h29 : (op == 29) = false := by rw [HOP.out.1, q1]; rfl
                                  have h2 : (op == 2) = true := by rw [HOP.out.1, q1]; rfl
                                  have h3 : (rg == (r : Int)) = true := by rw [HOP.out.2.2.1, q2]; simp
                                  have b2 : (y == pd) = true := by simpa using he
                                  clear he q1 q2
                                  go_wp2_with fail
                                  refine HH.out.mono ?_
                                  rintro e w7 ⟨rfl, rfl⟩
                                  go_wp2_with fail
                                  go_quiet (fail)
                                  go_wp2_with fail
                                  go_roundw
                                  case rel => exact ⟨r + 1, by omega, by go_num, below_drewN HB.out _⟩
                                  case measure => first | omega | (simp [intOf]; done) | (simp [intOf]; omega)
                                have b2 : (y == pd) = false := by simpa using he
                                clear he
                                by_cases c28 : op = 28
                                · have h28 : (op == 28) = true := by simpa using c28
                                  have h5 := HC5.out (Or.inl c28)
                                  clear c28
                                  go_wp2_with fail
                                  refine HH.out.mono ?_
                                  rintro e w7 ⟨rfl, rfl⟩
                                  go_wp2_with fail
                                  go_quiet (fail)
                                  go_wp2_with fail
                                  go_roundw
                                  case rel => exact ⟨r + 1, by omega, by go_num, below_drewN HB.out _⟩
                                  case measure => first | omega | (simp [intOf]; done) | (simp [intOf]; omega)
                                have h28 : (op == 28) = false := by simpa using c28
                                by_cases c29 : op = 29
                                · have h29 : (op == 29) = true := by simpa using c29
                                  have h5 := HC5.out (Or.inr c29)
                                  clear c28 c29
                                  go_wp2_with fail
                                  refine HH.out.mono ?_
                                  rintro e w7 ⟨rfl, rfl⟩
                                  go_wp2_with fail
                                  go_quiet (fail)
                                  go_wp2_with fail
                                  go_roundw
                                  case rel => exact ⟨r + 1, by omega, by go_num, below_drewN HB.out _⟩
                                  case measure => first | omega | (simp [intOf]; done) | (simp [intOf]; omega)
                                have h29 : (op == 29) = false := by simpa using c29
                                clear c28 c29
                                go_wp2_with fail
                                refine HH.out.mono ?_
                                rintro e w7 ⟨rfl, rfl⟩
                                go_wp2_with fail
                                go_quiet (fail)
                                go_wp2_with fail
                                go_roundw
                                case rel => exact ⟨r + 1, by omega, by go_num, below_drewN HB.out _⟩
                                case measure => first | omega | (simp [intOf]; done) | (simp [intOf]; omega)
                              have d0 : decide ((0 : Int) ≤ ds) = false := decide_eq_false hx0
                              clear hx0 hd1
                              by_cases c28 : op = 28
                              · have h28 : (op == 28) = true := by simpa using c28
                                have h5 := HC5.out (Or.inl c28)
                                clear c28
                                go_wp2_with fail
                                refine HH.out.mono ?_
                                rintro e w7 ⟨rfl, rfl⟩
                                go_wp2_with fail
                                go_quiet (fail)
                                go_wp2_with fail
                                go_roundw
                                case rel => exact ⟨r + 1, by omega, by go_num, below_drewN HB.out _⟩
                                case measure => first | omega | (simp [intOf]; done) | (simp [intOf]; omega)
                              have h28 : (op == 28) = false := by simpa using c28
                              by_cases c29 : op = 29
                              · have h29 : (op == 29) = true := by simpa using c29
                                have h5 := HC5.out (Or.inr c29)
                                clear c28 c29
                                go_wp2_with fail
                                refine HH.out.mono ?_
                                rintro e w7 ⟨rfl, rfl⟩
                                go_wp2_with fail
                                go_quiet (fail)
                                go_wp2_with fail
                                go_roundw
                                case rel => exact ⟨r + 1, by omega, by go_num, below_drewN HB.out _⟩
                                case measure => first | omega | (simp [intOf]; done) | (simp [intOf]; omega)
                              have h29 : (op == 29) = false := by simpa using c29
                              clear c28 c29
                              go_wp2_with fail
                              refine HH.out.mono ?_
                              rintro e w7 ⟨rfl, rfl⟩
                              go_wp2_with fail
                              go_quiet (fail)
                              go_wp2_with fail
                              go_roundw
                              case rel => exact ⟨r + 1, by omega, by go_num, below_drewN HB.out _⟩
                              case measure => first | omega | (simp [intOf]; done) | (simp [intOf]; omega)
                            · have e : r = R := by omega
                              subst e
                              go_wp2_with fail
                              go_roundw
                              case rel => exact ⟨k + 1, by omega, by go_num, HBxx.out.bt (HB8.out.bt HB.out)⟩
                              case measure => first | omega | (simp [intOf]; done) | (simp [intOf]; omega)
                        · obtain ⟨q, rfl⟩ : ∃ q', q = q' + 1 := ⟨q - 1, by omega⟩
                          have hjq : (((q + 1 : Nat) : Int) - 1) = (q : Nat) := by omega
                          rw [hjq]
                          clear hjq
                          have hqi : q < blk.ins.length := by omega
                          have hkq2 : k < q := by omega
                          obtain ⟨z, hz⟩ : ∃ z, blk.ins[q]? = some z := ⟨_, List.getElem?_eq_getElem hqi⟩
                          obtain ⟨ib2, io2, cs, hA9, e1, e2, va, e3, u1, u2, u3, u4, u5, u6, u7, u8, u9, u10, u11⟩ := H9.out q z hz
                          cases hA9
                          subst e3
                          have hbz := HBxx.out.bt HB8.out
                          have hbv : wr.heap[gk]? = some (.cells #[.slice (some ⟨ib, io, none⟩) blk.ins.length cap9, .int .i64 blk.term.kind, .int .i64 blk.term.op, .int .i64 blk.term.a.reg, .int .i64 blk.term.a.num, .int .i64 blk.term.b.reg, .int .i64 blk.term.b.num, .int .i64 blk.term.to_, .int .i64 blk.term.els] 33 (0, 0)) := by rw [← HBV.out]; exact (hbz.block gk (blk_lt HBO.out)).trans HBO.out
                          have k0 : wr.cell? ⟨gk, 0, none⟩ = some (.slice (some ⟨ib, io, none⟩) blk.ins.length cap9) := blk_cell hbv rfl
                          have hgk8 := blk_lt hbv
                          have h08 := H0.out.trans ((HB2.out.bt (HBL.out.bt (HBw.out.bt hbz))).mono H0.out.size)
                          have r0 := later (e2 0 (by omega)) h08
                          have r1 := later (e2 1 (by omega)) h08
                          have r2 := later (e2 2 (by omega)) h08
                          have r3 := later (e2 3 (by omega)) h08
                          have r4 := later (e2 4 (by omega)) h08
                          have r5 := later (e2 5 (by omega)) h08
                          have r6 := later (e2 6 (by omega)) h08
                          have r7 := later (e2 7 (by omega)) h08
                          have r8 := later (e2 8 (by omega)) h08
                          have r9 := later (e2 9 (by omega)) h08
                          have r10 := later (e2 10 (by omega)) h08
                          have r11 := later (e2 11 (by omega)) h08
                          rw [Nat.add_zero] at r0
                          have HBa := Lib.hid (back_g wr z HS8.out u1 u2 ⟨u3, u4⟩ ⟨u5, u6⟩ (u10.later (by decide) h08) (by have := HSb.out.1 z (List.mem_of_getElem? hz); omega) (by
                            rcases u10.blk (by decide) with h | ⟨b', h1, h2⟩
                            · exact Or.inl h
                            · refine Or.inr (fun e => ?_)
                              have h3 := (HS8.out.lt_ (e.symm.trans h1)).1
                              have h4 := (H0.out.trans ((HB2.out.bt (HBL.out.bt (HBw.out.bt HBxx.out))).mono H0.out.size)).size
                              omega))
                          have HDr := Lib.hid (drop_cons hz)
                          obtain ⟨A5z, cap5z, hva, _, _, _⟩ := u10
                          subst hva
                          clear e1 e2 hz u1 u2 u3 u4 u5 u6 u7 u8 u9 u11 h08 hbv hbz hqk hkq
                          go_wp2_with fail
                          refine HBa.out.mono ?_
                          rintro e w9 ⟨rfl, hs9, hg9⟩
                          have HS9 := Lib.hid (show SetB w9 wx.heap.size sv R (bsS (endS (blkF f) (oB f) m) (blk.ins.drop q)) by rw [HDr.out]; exact hs9)
                          have HB9 := Lib.hid (below_of_grown HB8.out (Nat.le_refl _) hg9 (fun k hk => (HS8.out.lt_ hk).1))
                          clear hs9 hg9 r0 r1 r2 r3 r4 r5 r6 r7 r8 r9 r10 r11 k0 hgk8 HBa
                          go_wp2_with fail
                          go_roundw
                          case rel => exact ⟨q, hkq2, by omega, by go_num, HS9.out, HB9.out⟩
                          case measure => first | omega | (simp [intOf]; done) | (simp [intOf]; omega)
                · have e : blk.ins.length = k := by omega
                  go_wp2_with fail
                  go_roundw
                  case rel => exact ⟨m + 1, by omega, by go_num, HBw.out.bt HBk.out⟩
                  case measure => first | omega | (simp [intOf]; done) | (simp [intOf]; omega)
            · have e : f.blocks.length = m := by omega
              go_wp2_with fail
              go_returns
              exact ⟨rfl, HB2.out.bt (HBL.out.bt HBm.out)⟩
end Go.Proofs.Ytegnaeinpacafaa
