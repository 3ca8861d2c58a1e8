/- The walk of GraphColours. No condition. -/
import Derived.Test.YtednnkhomfabaaaGc3
import Derived.Test.YtednnkhomfabaaaGcP
import Derived.Test.YtednnkhomfabaaaFit16
namespace Go.Proofs.Ytednnkhomfabaaa
open Go.RowKit
set_option linter.unusedVariables false
set_option maxHeartbeats 4000000
set_option maxRecDepth 100000 in
theorem colourslaw (w : World) (p : ProgD) (vf vg : Value) (hin : In w p vf vg) (kq : Int) (hkq : In64 kq) :
    Calls Try.prog 4 #[.agg #[vf, vg, .int .i64 p.data, .int .i64 p.main], .int .i64 kq] w fun e w' => e = .returned (.bool true) ∧ Below w.heap.size w w' := by
  obtain ⟨kk, hkm, hkl⟩ : ∃ kk : Nat, kq.tmod 8 % 8 = (kk : Int) ∧ kk < 8 := ⟨(kq.tmod 8 % 8).toNat, by omega, by omega⟩
  have hlo : -7 ≤ kq.tmod 8 ∧ kq.tmod 8 ≤ 7 := by rw [tmod_eq_if]; split <;> omega
  have HIN := Lib.hid hin
  obtain ⟨A, cap, rfl, _, m3, hi⟩ := hin.funcs
  obtain ⟨A2, cap2, rfl, _, m4, _⟩ := hin.globs
  have HM := Lib.hid (fun w1 h => maybe_any w w1 h p _ _ hin)
  have hfl := hin.flen
  have hgl := hin.glen
  have HF := Lib.hid hi
  clear hi hin m3 m4
  have HB1 := Lib.hid (below_alloc (.cells #[.slice A p.funcs.length cap, .slice A2 p.globals.length cap2, .int .i64 p.data, .int .i64 p.main] 25) (Below.refl w.heap.size w))
  have HBX := Lib.hid (block_box w #[.slice A p.funcs.length cap, .slice A2 p.globals.length cap2, .int .i64 p.data, .int .i64 p.main] 25)
  go_enter Try.func4, Try.ntmps4
  go_wp2_with fail
  refine (fit_vm _).mono ?_
  rintro e w2 ⟨rfl, hb2⟩
  have HB2 := Lib.hid (HB1.out.bt hb2)
  have c0 := later (HBX.out 0 _ rfl) hb2
  have c1 := later (HBX.out 1 _ rfl) hb2
  have c2 := later (HBX.out 2 _ rfl) hb2
  have c3 := later (HBX.out 3 _ rfl) hb2
  clear hb2 HB1
  go_wp2_with fail
  refine (HM.out _ HB2.out).mono ?_
  rintro e w3 ⟨b, rfl, hb, hb3⟩
  have HB3 := Lib.hid (HB2.out.bt hb3)
  have d0 := later c0 hb3
  have HOK := Lib.hid hb
  clear c0 c1 c2 c3 hb3 hb
  cases b
  · go_wp2_with fail
    go_returns
    exact ⟨rfl, HB3.out⟩
  have HLk := Lib.hid (HOK.out rfl).1
  have HPk := Lib.hid (HOK.out rfl).2
  clear HOK HBX HB2
  go_wp2_with fail
  obtain ⟨ki, hki⟩ : ∃ z : Int, z = (kk : Int) := ⟨_, rfl⟩
  rw [show (kq.tmod 8 + 8) % 8 = ki by omega]
  have HKI := Lib.hid hki
  clear d0 hkm hlo hki
  go_loopw [26] (fun i wr => ∃ k : Nat, k ≤ p.funcs.length ∧ i = .int .i64 k ∧ Below w.heap.size w wr) (fun i _ => p.funcs.length - (intOf i).toNat)
  case atStart => exact ⟨0, by omega, rfl, HB3.out⟩
  case round =>
    obtain ⟨k, hk, rfl, hb⟩ := hrel
    have HB5 := Lib.hid hb
    clear hb
    by_cases hlt : k < p.funcs.length
    · obtain ⟨f, hfk⟩ : ∃ f, p.funcs[k]? = some f := ⟨_, List.getElem?_eq_getElem hlt⟩
      obtain ⟨fb, fo, cs, rfl, e1, e2, hfr⟩ := HF.out k f hfk
      obtain ⟨R, P, hFN⟩ := FnOk.of (HPk.out f (List.mem_of_getElem? hfk)) (HLk.out.2.2 f (List.mem_of_getElem? hfk))
      have HFN := Lib.hid hFN
      obtain ⟨vs, vl, vb, rfl, z1, z2, z3, z4, z5, z6, z7, z8, z9⟩ := hfr
      have HSB := Lib.hid z8
      obtain ⟨A7, cap7, rfl, _, m7, _⟩ := z3
      obtain ⟨A6, cap6, rfl, _, m6, _⟩ := z6
      obtain ⟨A8, cap8, rfl, _, m8, h8⟩ := z8
      have H8 := Lib.hid h8
      have r0 := later (e2 0 (by omega)) HB5.out
      have r1 : wr.cell? ⟨fb, fo + k * 6 + 1, none⟩ = some (.int .i64 (P : Nat)) := by rw [← hFN.par]; exact later (e2 1 (by omega)) HB5.out
      have r2 := later (e2 2 (by omega)) HB5.out
      have r3 : wr.cell? ⟨fb, fo + k * 6 + 3, none⟩ = some (.int .i64 (R : Nat)) := by rw [← hFN.regs]; exact later (e2 3 (by omega)) HB5.out
      have r4 := later (e2 4 (by omega)) HB5.out
      have r5 := later (e2 5 (by omega)) HB5.out
      rw [Nat.add_zero] at r0
      clear e1 e2 h8 hfk m6 m7 m8 z1 z2 z4 z5 z7 z9 hFN
      have hR300 := HFN.out.hR
      have hn2000 := HFN.out.hn
      have hPR := HFN.out.hPR
      by_cases hbig : 100 < R
      · go_wp2_with fail
        go_roundw
        case rel => exact ⟨k + 1, by omega, by go_num, below_alloc _ HB5.out⟩
        case measure => first | omega | (simp [intOf]; done) | (simp [intOf]; omega)
      have HB6 := Lib.hid (below_alloc (.cells #[.string f.name, .int .i64 (P : Nat), .slice A7 f.secret.length cap7, .int .i64 (R : Nat), .slice A6 f.slots.length cap6, .slice A8 f.blocks.length cap8] 32) HB5.out)
      have HFB := Lib.hid (blk_new wr (.cells #[.string f.name, .int .i64 (P : Nat), .slice A7 f.secret.length cap7, .int .i64 (R : Nat), .slice A6 f.slots.length cap6, .slice A8 f.blocks.length cap8] 32))
      go_wp2_with fail
      clear r0 r1 r2 r3 r4 r5
      generalize hgfe : wr.heap.size = gf at *
      obtain ⟨wf, hwf⟩ : ∃ z, z = wr.alloc (.cells #[.string f.name, .int .i64 (P : Nat), .slice A7 f.secret.length cap7, .int .i64 (R : Nat), .slice A6 f.slots.length cap6, .slice A8 f.blocks.length cap8] 32) := ⟨_, rfl⟩
      rw [← hwf] at HB6 HFB ⊢
      clear hwf hgfe
      refine (of_fn w wf HB6.out gf f R P HFN.out _ (blk_cell HFB.out rfl) (blk_cell HFB.out rfl) (blk_cell HFB.out rfl) HSB.out).mono ?_
      rintro e wo ⟨L0, L1, gb, av, cv, mv, uv, vs, rfl, hG, hbo⟩
      have HG := Lib.hid hG
      have HBO := Lib.hid hbo
      have HB7 := Lib.hid (HB6.out.trans (hbo.mono HB6.out.size))
      have HF7 := Lib.hid ((hbo.block gf (blk_lt HFB.out)).trans HFB.out)
      clear hG hbo
      obtain ⟨EE, hEE⟩ : ∃ z, z = parE (iB f 0) (blE R (blkF f) (oB f) f.blocks.length) P 0 := ⟨_, rfl⟩
      obtain ⟨MM, hMM⟩ : ∃ z, z = blM (blkF f) (oB f) f.blocks.length := ⟨_, rfl⟩
      obtain ⟨UU, hUU⟩ : ∃ z, z = blU R (blkF f) f.blocks.length := ⟨_, rfl⟩
      obtain ⟨CC, hCC⟩ : ∃ z, z = blC (blkF f) f.blocks.length := ⟨_, rfl⟩
      have HG1 := Lib.hid (show GrR wo wf.heap.size L0 L1 gb R av cv mv uv vs EE MM UU CC by rw [hEE, hMM, hUU, hCC]; exact HG.out)
      have HSelf := Lib.hid (show ∀ a, EE a a = false by rw [hEE]; exact fun a => parE_self _ _ P a (blE_self R _ _ a _))
      have HSym := Lib.hid (show ∀ a b, EE a b = EE b a by rw [hEE]; exact fun a b => parE_sym _ _ P a b (blE_sym R _ _ a b _))
      have HCps := Lib.hid (show (∀ c ∈ CC, CpIn R c) ∧ CC.length ≤ 1000000000 by rw [hCC]; exact HFN.out.cps)
      clear hEE hMM hUU hCC HG
      go_wp2_with fail
      rw [HKI.out]
      refine (colour_any HG1.out (by omega) kk (by omega) (fun a b _ _ => HSym.out a b) HCps.out.1 HCps.out.2).mono ?_
      rintro e wc ⟨gp, pl, rfl, hpl, hft, htr, hbc⟩
      rw [← HKI.out]
      have HG2 := Lib.hid (HG1.out.more hbc)
      have HP := Lib.hid hpl
      have HF := Lib.hid hft
      have HT := Lib.hid htr
      have HB8 := Lib.hid (HB7.out.trans (hbc.mono HB7.out.size))
      have hf8 := (hbc.block gf (blk_lt HF7.out)).trans HF7.out
      have k3 : wc.cell? ⟨gf, 3, none⟩ = some (.int .i64 (R : Nat)) := blk_cell hf8 rfl
      have lk3 := blk_lt hf8
      have b33 : ((R : Int) != (R : Int)) = false := by simp
      clear hpl hft htr hbc hf8 HG1
      go_wp2_with fail
      clear k3 lk3 b33
      go_loop [44] (fun i => ∃ a : Nat, a ≤ R ∧ i = .int .i64 a) (fun i => R - (intOf i).toNat)
      case atStart => exact ⟨0, by omega, rfl⟩
      case round =>
        obtain ⟨a, ha, rfl⟩ := hrel
        by_cases hlta : a < R
        · obtain ⟨x, hx⟩ : ∃ x, pl[a]? = some x := ⟨_, List.getElem?_eq_getElem (by rw [HF.out.len]; exact hlta)⟩
          obtain ⟨kx, _, lx⟩ := OwnI.at_ HP.out HF.out.len.symm hx
          have hrng := HF.out.rng a x hx
          have HX := Lib.hid hx
          obtain ⟨ga, ca, hav⟩ := HG2.out.formA (by omega)
          subst hav
          obtain ⟨gu, cu, huv⟩ := HG2.out.lenU (by omega)
          subst huv
          obtain ⟨va, e1, e2⟩ := HG2.out.at_ hlta
          have kg0 : wc.cell? ⟨gb, 0, none⟩ = some (.slice (some ⟨ga, 0, none⟩) R ca) := blk_cell HG2.out.blk rfl
          have kg2 : wc.cell? ⟨gb, 2, none⟩ = some mv := blk_cell HG2.out.blk rfl
          have kg3 : wc.cell? ⟨gb, 3, none⟩ = some (.slice (some ⟨gu, 0, none⟩) R cu) := blk_cell HG2.out.blk rfl
          have lg0 := blk_lt HG2.out.blk
          have kga := HG2.out.cellA hlta e1
          have lga := World.block_lt_of_cell? _ _ kga
          obtain ⟨u, hu⟩ : ∃ u, UU[a]? = some u := ⟨_, List.getElem?_eq_getElem (by rw [HG2.out.ul]; exact hlta)⟩
          obtain ⟨ku, _, lu⟩ := HG2.out.cellU hu
          have hud : UU.getD a 0 = u := by rw [List.getD_eq_getElem?_getD, hu]; rfl
          have HM := Lib.hid (has_b wc a HG2.out.sm (by omega) hlta)
          have HE := Lib.hid (fun b hb => has_b wc b e2 (by omega) hb)
          have HCand := Lib.hid (show candB MM UU a = (!MM a && decide (0 < u)) by unfold candB; rw [hud])
          have HTa := Lib.hid (HT.out a hlta)
          clear hx e1 e2 hu hud
          by_cases hx0 : 0 ≤ x
          · have hki2 := HKI.out
            have hxk : x < ki := by rcases hrng with h | h <;> omega
            have HX0 := Lib.hid hx0
            clear hki2
            have hca : candB MM UU a = true := by
              rcases hrng with h | h
              · omega
              · exact h.2.2
            rw [HCand.out, Bool.and_eq_true, decide_eq_true_eq] at hca
            have hmf : MM a = false := by simpa using hca.1
            have hu0 : (u == 0) = false := by simp; omega
            have d1 : decide (x < -1) = false := decide_eq_false (by omega)
            have d2 : decide (ki ≤ x) = false := decide_eq_false (by omega)
            have d3 : decide (0 ≤ x) = true := decide_eq_true (by omega)
            have d4 : decide (x < 0) = false := decide_eq_false (by omega)
            have HM2 := HM.out
            rw [hmf] at HM2
            have HM := Lib.hid HM2
            clear HM2 hx0 hrng hca hmf hxk
            go_wp2_with fail
            refine HM.out.mono ?_
            rintro e w7 ⟨rfl, rfl⟩
            go_wp2_with fail
            go_loop [80, 11] (fun i sm => ∃ (b : Nat) (s : Bool), b ≤ R ∧ i = .int .i64 b ∧ sm = .bool s) (fun i _ => R - (intOf i).toNat)
            case atStart => exact ⟨0, false, by omega, rfl, rfl⟩
            case round =>
              obtain ⟨b, s, hb, rfl, rfl⟩ := hrel
              by_cases hltb : b < R
              · obtain ⟨y, hy⟩ : ∃ y, pl[b]? = some y := ⟨_, List.getElem?_eq_getElem (by rw [HF.out.len]; exact hltb)⟩
                obtain ⟨ky, _, ly⟩ := OwnI.at_ HP.out HF.out.len.symm hy
                have HH := Lib.hid (HE.out b hltb)
                have HNo := Lib.hid (show x = y → EE a b = false from fun e => by
                  by_cases hab : a = b
                  · rw [← hab]; exact HSelf.out a
                  · exact HF.out.unl a b x hab HX.out (by rw [hy, e]) HX0.out)
                clear hy
                by_cases hxy : x = y
                · have HH2 := HH.out
                  rw [HNo.out hxy] at HH2
                  have HH := Lib.hid HH2
                  subst hxy
                  have b1 : (x == x) = true := by simp
                  clear HH2
                  cases s
                  · go_wp2_with fail
                    refine HH.out.mono ?_
                    rintro e w7 ⟨rfl, rfl⟩
                    go_wp2_with fail
                    refine HH.out.mono ?_
                    rintro e w7 ⟨rfl, rfl⟩
                    go_wp2_with fail
                    go_round
                    case rel => exact ⟨b + 1, _, by omega, by go_num, rfl⟩
                    case measure => first | omega | (simp [intOf]; done) | (simp [intOf]; omega)
                  · go_wp2_with fail
                    refine HH.out.mono ?_
                    rintro e w7 ⟨rfl, rfl⟩
                    go_wp2_with fail
                    go_round
                    case rel => exact ⟨b + 1, _, by omega, by go_num, rfl⟩
                    case measure => first | omega | (simp [intOf]; done) | (simp [intOf]; omega)
                · have b1 : (x == y) = false := by simpa using hxy
                  clear hxy
                  cases s
                  · go_wp2_with fail
                    refine HH.out.mono ?_
                    rintro e w7 ⟨rfl, rfl⟩
                    go_wp2_with fail
                    go_round
                    case rel => exact ⟨b + 1, _, by omega, by go_num, rfl⟩
                    case measure => first | omega | (simp [intOf]; done) | (simp [intOf]; omega)
                  · go_wp2_with fail
                    go_round
                    case rel => exact ⟨b + 1, _, by omega, by go_num, rfl⟩
                    case measure => first | omega | (simp [intOf]; done) | (simp [intOf]; omega)
              · have e : R = b := by omega
                go_wp2_with fail
                go_round
                case rel => exact ⟨a + 1, by omega, by go_num⟩
                case measure => first | omega | (simp [intOf]; done) | (simp [intOf]; omega)
          · have hxm : x = -1 := by rcases hrng with h | h <;> omega
            subst hxm
            have d2 : decide (ki ≤ -1) = false := decide_eq_false (by have := HKI.out; omega)
            clear hx0 hrng
            go_wp2_with fail
            go_loop [80, 11] (fun i sm => ∃ (b : Nat) (s : Bool), b ≤ R ∧ i = .int .i64 b ∧ sm = .bool s ∧ ∀ o, o < b → EE a o = true → s = true) (fun i _ => R - (intOf i).toNat)
            case atStart => exact ⟨0, false, by omega, rfl, rfl, fun o ho => by omega⟩
            case round =>
              obtain ⟨b, s, hb, rfl, rfl, hsm⟩ := hrel
              have HSm := Lib.hid hsm
              clear hsm
              by_cases hltb : b < R
              · obtain ⟨y, hy⟩ : ∃ y, pl[b]? = some y := ⟨_, List.getElem?_eq_getElem (by rw [HF.out.len]; exact hltb)⟩
                obtain ⟨ky, _, ly⟩ := OwnI.at_ HP.out HF.out.len.symm hy
                have HH := Lib.hid (HE.out b hltb)
                have HNext := Lib.hid (fun (t : Bool) (h1 : s = true → t = true) (h2 : EE a b = true → t = true) => show ∀ o, o < b + 1 → EE a o = true → t = true from fun o ho he => by
                  by_cases e : o = b
                  · subst e; exact h2 he
                  · exact h1 (HSm.out o (by omega) he))
                clear hy
                cases s
                · go_wp2_with fail
                  refine HH.out.mono ?_
                  rintro e w7 ⟨rfl, rfl⟩
                  go_wp2_with fail
                  go_round
                  case rel => exact ⟨b + 1, _, by omega, by go_num, rfl, HNext.out _ (fun h => by cases h) (fun h => h)⟩
                  case measure => first | omega | (simp [intOf]; done) | (simp [intOf]; omega)
                · go_wp2_with fail
                  go_round
                  case rel => exact ⟨b + 1, _, by omega, by go_num, rfl, HNext.out _ (fun h => h) (fun _ => rfl)⟩
                  case measure => first | omega | (simp [intOf]; done) | (simp [intOf]; omega)
              · have e : R = b := by omega
                subst e
                by_cases hk0 : kk = 0
                · have d5 : decide (0 < ki) = false := decide_eq_false (by have := HKI.out; omega)
                  clear hk0
                  go_wp2_with fail
                  go_round
                  case rel => exact ⟨a + 1, by omega, by go_num⟩
                  case measure => first | omega | (simp [intOf]; done) | (simp [intOf]; omega)
                · have d5 : decide (0 < ki) = true := decide_eq_true (by have := HKI.out; omega)
                  by_cases hu0 : 0 < u
                  · have d6 : decide (0 < u) = true := decide_eq_true hu0
                    obtain ⟨ma, hma⟩ : ∃ z, z = MM a := ⟨_, rfl⟩
                    have HM2 := HM.out
                    rw [← hma] at HM2
                    have HM := Lib.hid HM2
                    have HMa := Lib.hid hma
                    clear HM2 hma
                    cases ma
                    · have hst : s = true := by
                        obtain ⟨o, h1, h2⟩ := HTa.out (by rw [HCand.out, ← HMa.out, d6]; rfl) HX.out (by omega)
                        exact HSm.out o h1 h2
                      subst hst
                      clear hk0 hu0
                      go_wp2_with fail
                      refine HM.out.mono ?_
                      rintro e w7 ⟨rfl, rfl⟩
                      go_wp2_with fail
                      go_round
                      case rel => exact ⟨a + 1, by omega, by go_num⟩
                      case measure => first | omega | (simp [intOf]; done) | (simp [intOf]; omega)
                    · clear hk0 hu0
                      go_wp2_with fail
                      refine HM.out.mono ?_
                      rintro e w7 ⟨rfl, rfl⟩
                      go_wp2_with fail
                      go_round
                      case rel => exact ⟨a + 1, by omega, by go_num⟩
                      case measure => first | omega | (simp [intOf]; done) | (simp [intOf]; omega)
                  · have d6 : decide (0 < u) = false := decide_eq_false hu0
                    clear hk0 hu0
                    go_wp2_with fail
                    go_round
                    case rel => exact ⟨a + 1, by omega, by go_num⟩
                    case measure => first | omega | (simp [intOf]; done) | (simp [intOf]; omega)
        · have e : R = a := by omega
          go_wp2_with fail
          go_roundw
          case rel => exact ⟨k + 1, by omega, by go_num, HB8.out⟩
          case measure => first | omega | (simp [intOf]; done) | (simp [intOf]; omega)
    · have e : k = p.funcs.length := by omega
      subst e
      go_wp2_with fail
      go_returns
      exact ⟨rfl, HB5.out⟩
end Go.Proofs.Ytednnkhomfabaaa
