/- The walk of FlowReached. No condition. -/
import Derived.Test.YtcljdhpdknecjaaFl3
namespace Go.Proofs.Ytcljdhpdknecjaa
open Go.RowKit
set_option linter.unusedVariables false
set_option maxHeartbeats 4000000
theorem has_over {w x : World} {base B : Nat} {v : Value} {l : List Nat} {i : Nat} (hB : B = w.heap.size) (h : SetR w base v l) (hi : i ≤ 1000000) :
    Calls Try.prog 13 #[v, .int .i64 (i : Nat)] (over B w x) fun e w'' => e = .returned (.bool (bitL l i)) ∧ ∃ y, w'' = over B w y := by
  subst hB
  refine calls_over (Nat.le_refl _) ?_
  refine (has_any _ base v l i (own_kept (r := none) h (grown_of_below (over_below _ _ _)) (by cases v.ownBlock <;> simp)) (by omega)).mono ?_
  rintro e w' ⟨rfl, rfl⟩
  refine ⟨?_, Below.refl _ _⟩
  unfold hasL
  rw [decide_eq_true (by omega)]
  rfl
set_option maxRecDepth 100000 in
theorem reached_law (w : World) (p : ProgD) (vf vg : Value) (hin : In w p vf vg) :
    Calls Try.prog 6 #[.agg #[vf, vg, .int .i64 p.data, .int .i64 p.main]] w fun e w' => e = .returned (.bool true) ∧ Below w.heap.size w w' := by
  have HIN := Lib.hid hin
  obtain ⟨A, cap, rfl, _, m3, hi⟩ := hin.funcs
  obtain ⟨A2, cap2, rfl, _, m4, _⟩ := hin.globs
  have HM := Lib.hid (fun w1 h => maybe_any w w1 h p _ _ hin)
  have hfl := hin.flen
  have hgl := hin.glen
  have HF := Lib.hid hi
  clear hi hin m3 m4
  have HB1 := Lib.hid (below_alloc (.cells #[.slice A p.funcs.length cap, .slice A2 p.globals.length cap2, .int .i64 p.data, .int .i64 p.main] 36) (Below.refl w.heap.size w))
  have HBX := Lib.hid (block_box w #[.slice A p.funcs.length cap, .slice A2 p.globals.length cap2, .int .i64 p.data, .int .i64 p.main] 36)
  go_enter Try.func6, Try.ntmps6
  go_wp2_with fail
  refine (fit_vm _).mono ?_
  rintro e w2 ⟨rfl, hb2⟩
  have HB2 := Lib.hid (HB1.out.bt hb2)
  have c0 := later (HBX.out 0 _ rfl) hb2
  have c1 := later (HBX.out 1 _ rfl) hb2
  have c2 := later (HBX.out 2 _ rfl) hb2
  have c3 := later (HBX.out 3 _ rfl) hb2
  clear hb2 HB1
  go_wp2_with fail
  refine (HM.out _ HB2.out).mono ?_
  rintro e w3 ⟨b, rfl, hb, hb3⟩
  have HB3 := Lib.hid (HB2.out.bt hb3)
  have d0 := later c0 hb3
  have HOK := Lib.hid hb
  clear c0 c1 c2 c3 hb3 hb
  cases b
  · go_wp2_with fail
    go_returns
    exact ⟨rfl, HB3.out⟩
  have HLk := Lib.hid (HOK.out rfl).1
  have HPk := Lib.hid (HOK.out rfl).2
  clear HOK HBX HB2
  go_wp2_with fail
  clear d0
  go_loopw [26] (fun i wr => ∃ k : Nat, k ≤ p.funcs.length ∧ i = .int .i64 k ∧ Below w.heap.size w wr) (fun i _ => p.funcs.length - (intOf i).toNat)
  case atStart => exact ⟨0, by omega, rfl, HB3.out⟩
  case round =>
    obtain ⟨k, hk, rfl, hb⟩ := hrel
    have HB5 := Lib.hid hb
    clear hb
    by_cases hlt : k < p.funcs.length
    · obtain ⟨f, hfk⟩ : ∃ f, p.funcs[k]? = some f := ⟨_, List.getElem?_eq_getElem hlt⟩
      obtain ⟨fb, fo, cs, rfl, e1, e2, hfr⟩ := HF.out k f hfk
      have HFO := Lib.hid (HPk.out f (List.mem_of_getElem? hfk))
      obtain ⟨vs, vl, vb, rfl, z1, z2, z3, z4, z5, z6, z7, z8, z9⟩ := hfr
      have HSB := Lib.hid z8
      obtain ⟨A7, cap7, rfl, _, m7, _⟩ := z3
      obtain ⟨A6, cap6, rfl, _, m6, _⟩ := z6
      obtain ⟨A8, cap8, rfl, _, m8, h8⟩ := z8
      have H8 := Lib.hid h8
      have r0 := later (e2 0 (by omega)) HB5.out
      have r1 := later (e2 1 (by omega)) HB5.out
      have r2 := later (e2 2 (by omega)) HB5.out
      have r3 := later (e2 3 (by omega)) HB5.out
      have r4 := later (e2 4 (by omega)) HB5.out
      have r5 := later (e2 5 (by omega)) HB5.out
      rw [Nat.add_zero] at r0
      clear e1 e2 h8 hfk m6 m7 m8
      by_cases h60 : 60 < f.blocks.length
      · go_wp2_with fail
        go_roundw
        case rel => exact ⟨k + 1, by omega, by go_num, below_alloc _ HB5.out⟩
        case measure => simp [intOf]; omega
      have HB6 := Lib.hid (below_alloc (.cells #[.string f.name, .int .i64 f.params, .slice A7 f.secret.length cap7, .int .i64 f.regs, .slice A6 f.slots.length cap6, .slice A8 f.blocks.length cap8] 41) HB5.out)
      have HFB := Lib.hid (block_box wr #[.string f.name, .int .i64 f.params, .slice A7 f.secret.length cap7, .int .i64 f.regs, .slice A6 f.slots.length cap6, .slice A8 f.blocks.length cap8] 41)
      have HNX := Lib.hid (show ∀ i k, i < f.blocks.length → k ∈ nxF f i → 0 ≤ k ∧ k < f.blocks.length by
        intro i k hi hk
        rw [nxF_of (List.getElem?_eq_getElem hi)] at hk
        exact (HFO.out.2 _ (List.getElem_mem hi)).2.2.2.2.2 k hk)
      have H0n := Lib.hid (show 0 < f.blocks.length from Nat.pos_of_ne_zero HFO.out.1.2.2.2.2)
      go_wp2_with fail
      clear r0 r1 r2 r3 r4 r5 HB5 z1 z2 z4 z5 z7 z9
      generalize wr.heap.size = gf at *
      obtain ⟨w6, hw6⟩ : ∃ w6, w6 = wr.alloc (.cells #[.string f.name, .int .i64 f.params, .slice A7 f.secret.length cap7, .int .i64 f.regs, .slice A6 f.slots.length cap6, .slice A8 f.blocks.length cap8] 41) := ⟨_, rfl⟩
      rw [← hw6] at HB6 HFB ⊢
      clear hw6
      refine (reached_any w w6 HB6.out gf 0 f _ (HFB.out 5 (.slice A8 f.blocks.length cap8) rfl) HSB.out _ rfl H0n.out (by omega) HNX.out).mono ?_
      rintro e w7 ⟨sv, sl, rfl, hs7, hb7, hl7, hw7⟩
      have HB7 := Lib.hid (HB6.out.bt hb7)
      have HS7 := Lib.hid hs7
      have HW7 := Lib.hid hw7
      have HL7 := Lib.hid hl7
      have HF7 := Lib.hid (later (HFB.out 5 (.slice A8 f.blocks.length cap8) rfl) hb7)
      clear hs7 hb7 hl7 hw7 HFB
      go_wp2_with fail
      refine (before_any w w7 HB7.out gf 0 f _ HF7.out HSB.out _ rfl H0n.out (by omega) HNX.out).mono ?_
      rintro e w8 ⟨ov, vs, rfl, hb8⟩
      have HB8 := Lib.hid (HB7.out.bt hb8.below)
      have HV8 := Lib.hid hb8
      have HS8 := Lib.hid (own_kept (r := none) HS7.out (grown_of_below hb8.below) (by cases sv.ownBlock <;> simp))
      have HF8 := Lib.hid (later HF7.out hb8.below)
      obtain ⟨w9, hr9, ho9, hb9⟩ := make_bools w8 f.blocks.length (by omega)
      have HF9 := Lib.hid (later HF8.out hb9)
      obtain ⟨c9, f9⟩ := ho9.cell (by simpa using H0n.out) false (by rw [List.getElem?_replicate, if_pos H0n.out])
      have HA := Lib.hid (ho9.set (j := 0) true)
      have HB9 := Lib.hid hb9
      have HAt := Lib.hid (AtS.start (nxF f) H0n.out)
      have h0n := H0n.out
      clear hb8 HB7 HS7 HF7 ho9 hb9
      go_wp2_with fail
      clear h0n c9 f9
      have HBA := Lib.hid (below_of_grown HB9.out (Nat.le_refl _) HA.out.2 (fun k hk => by cases hk; exact Nat.le_refl _))
      have HF10 := Lib.hid ((HBA.out.cell (p := ⟨gf, 5, none⟩) (World.block_lt_of_cell? _ _ HF8.out)).trans HF8.out)
      generalize w9.setCell ⟨w8.heap.size, 0, none⟩ (.bool true) = w10 at *
      have HZ8 := Lib.hid (Eq.refl w8.heap.size)
      obtain ⟨ga, hga⟩ : ∃ ga, ga = w8.heap.size := ⟨_, rfl⟩
      rw [← hga] at HA ⊢
      have HGA := Lib.hid hga
      have HA0 := Lib.hid HA.out.1
      have hn60 : f.blocks.length ≤ 60 := by omega
      have HN6 := Lib.hid hn60
      clear h60 hga HB9 HF9 HA hr9
      go_loopw [42] (fun i wr => ∃ (t : Nat) (l : List Bool), t ≤ f.blocks.length ∧ i = .int .i64 t ∧ OwnB wr ga (.slice (some ⟨ga, 0, none⟩) f.blocks.length f.blocks.length) l ∧ AtS (nxF f) f.blocks.length t l ∧ Below w8.heap.size w8 wr) (fun i _ => f.blocks.length - (intOf i).toNat)
      case atStart => exact ⟨0, _, by omega, rfl, HA0.out, HAt.out, HBA.out⟩
      case round =>
        obtain ⟨t, l, ht, rfl, hO, hS, hB⟩ := hrel
        have HO := Lib.hid hO
        have HS := Lib.hid hS
        have HB := Lib.hid hB
        have HFt := Lib.hid ((hB.cell (p := ⟨gf, 5, none⟩) (World.block_lt_of_cell? _ _ HF8.out)).trans HF8.out)
        clear hO hS hB HA0 HAt HBA HF10
        by_cases hltt : t < f.blocks.length
        · have q5 := HFt.out
          go_wp2_with fail
          clear q5 HFt
          go_loopw [47] (fun i wr => ∃ (m : Nat) (l : List Bool), m ≤ f.blocks.length ∧ i = .int .i64 m ∧ OwnB wr ga (.slice (some ⟨ga, 0, none⟩) f.blocks.length f.blocks.length) l ∧ AtI (nxF f) f.blocks.length t m l ∧ Below w8.heap.size w8 wr) (fun i _ => f.blocks.length - (intOf i).toNat)
          case atStart => exact ⟨0, l, by omega, rfl, HO.out, HS.out.begin, HB.out⟩
          case round =>
            obtain ⟨m, l, hm, rfl, hO, hS, hB⟩ := hrel
            have HO := Lib.hid hO
            have HSm := Lib.hid hS
            have HBm := Lib.hid hB
            clear hO hS hB HS HB
            by_cases hltm : m < f.blocks.length
            · obtain ⟨blk, hblk⟩ : ∃ b, f.blocks[m]? = some b := ⟨_, List.getElem?_eq_getElem hltm⟩
              obtain ⟨bb, bo, cs, rfl, e1, e2, vi, e3, y1, y2, t1, t2, t3, t4, t5, t6, t7, t8⟩ := H8.out m blk hblk
              subst e3
              have H03 := HB8.out.trans (HBm.out.mono HB8.out.size)
              obtain ⟨A9, cap9, rfl, _⟩ := y1
              have r0 := later (e2 0 (by omega)) H03
              have r1 := later (e2 1 (by omega)) H03
              have r2 := later (e2 2 (by omega)) H03
              have r3 := later (e2 3 (by omega)) H03
              have r4 := later (e2 4 (by omega)) H03
              have r5 := later (e2 5 (by omega)) H03
              have r6 := later (e2 6 (by omega)) H03
              have r7 := later (e2 7 (by omega)) H03
              have r8 := later (e2 8 (by omega)) H03
              rw [Nat.add_zero] at r0
              have HNx := Lib.hid (nxF_of hblk)
              obtain ⟨x, hx⟩ : ∃ x, l[m]? = some x := ⟨_, List.getElem?_eq_getElem (by rw [HSm.out.len]; exact hltm)⟩
              obtain ⟨cx, _⟩ := HO.out.cell (by rw [HSm.out.len]; exact hltm) x hx
              have hgx := World.block_lt_of_cell? _ _ cx
              have HX := Lib.hid hx
              clear e1 e2 y2 t1 t2 t3 t4 t5 t6 t7 t8 hblk H03 hx
              have hz8 : w8.heap.size ≤ wr.heap.size := HBm.out.size
              have HZ9 := Lib.hid hz8
              clear hz8
              cases x
              · go_wp2_with fail
                go_roundw
                case rel => exact ⟨m + 1, l, by omega, by go_num, World.ownsRow.alloc HO.out _, HSm.out.skip HX.out, HBm.out.alloc HZ9.out _⟩
                case measure => simp [intOf]; omega
              · go_wp2_with fail
                refine (next_own _ blk.term).mono ?_
                rintro e w4 ⟨v4, rfl, ho4, hb4⟩
                have B4 := Lib.hid (HBm.out.trans ((below_new hb4).mono HZ9.out))
                have O4 := Lib.hid (own_below HO.out (below_new hb4))
                have I4 := Lib.hid (own_base ho4 (Nat.zero_le _))
                clear r0 r1 r2 r3 r4 r5 r6 r7 r8 ho4 hb4 cx hgx HO HBm
                obtain ⟨A4, cap4, hv4, hm4⟩ := own_slice I4.out
                subst hv4
                have hT2 := nextT_len blk.term
                generalize nextT blk.term = nt at *
                have HT2 := Lib.hid hT2
                clear hm4 hT2
                go_wp2_with fail
                go_loopw [60] (fun i wr => ∃ (j : Nat) (l : List Bool), j ≤ nt.length ∧ i = .int .i64 j ∧ OwnB wr ga (.slice (some ⟨ga, 0, none⟩) f.blocks.length f.blocks.length) l ∧ AtI (nxF f) f.blocks.length t m l ∧ l[m]? = some true ∧ (∀ k ∈ nt.take j, l[k.toNat]? = some true) ∧ OwnI wr 0 (.slice A4 nt.length cap4) nt ∧ Below w8.heap.size w8 wr) (fun i _ => nt.length - (intOf i).toNat)
                case atStart => exact ⟨0, l, by omega, rfl, O4.out, HSm.out, HX.out, (fun k hk => by simp at hk), I4.out, B4.out⟩
                case round =>
                  obtain ⟨j, l5, hj, rfl, hO, hS, hX, hT, hI, hB⟩ := hrel
                  have HO5 := Lib.hid hO
                  have HS5 := Lib.hid hS
                  have HX5 := Lib.hid hX
                  have HT5 := Lib.hid hT
                  have HI5 := Lib.hid hI
                  have HB5b := Lib.hid hB
                  have hnl := HT2.out
                  clear hO hS hX hT hB O4 I4 B4 HSm HX
                  by_cases hltj : j < nt.length
                  · obtain ⟨k0, hk0⟩ : ∃ k, nt[j]? = some k := ⟨_, List.getElem?_eq_getElem hltj⟩
                    have hkn := HNX.out m k0 hltm (by rw [HNx.out]; exact List.mem_of_getElem? hk0)
                    obtain ⟨k0, rfl⟩ : ∃ k' : Nat, k0 = k' := ⟨k0.toNat, by omega⟩
                    obtain ⟨g4, c4, e4, _⟩ := own_form hI (by omega)
                    cases e4
                    have cc := hI.cell hltj _ hk0
                    have HKj := Lib.hid hk0
                    have hkn' : k0 < f.blocks.length := by omega
                    obtain ⟨y, hy⟩ : ∃ y, l5[k0]? = some y := ⟨_, List.getElem?_eq_getElem (by rw [HS5.out.len]; exact hkn')⟩
                    obtain ⟨cy, fy⟩ := HO5.out.cell (by rw [HS5.out.len]; exact hkn') y hy
                    have HSet := Lib.hid (HO5.out.set (j := k0) true)
                    have hgx := World.block_lt_of_cell? _ _ cy
                    have hg4 := World.block_lt_of_cell? _ _ cc
                    have HI6 := Lib.hid (World.ownsRow.kept HI5.out HSet.out.2 (own_ne HI5.out HO5.out (by decide)))
                    have HB6b := Lib.hid (below_of_grown HB5b.out (Nat.le_refl _) HSet.out.2 (fun k hk => by cases hk; exact Nat.le_of_eq HGA.out.symm))
                    have HW6 := Lib.hid (HS5.out.put (k := k0) (.step (HS5.out.way m HX5.out) (by rw [HNx.out]; exact List.mem_of_getElem? HKj.out)))
                    have HL5 := Lib.hid (show k0 < l5.length by rw [HS5.out.len]; exact hkn')
                    clear hI hk0 hkn hy
                    go_wp2_with fail
                    go_roundw
                    case rel => exact ⟨j + 1, _, by omega, by go_num, HSet.out.1, HW6.out, set_true HX5.out, (fun k hk => by
                      rcases take_mem HKj.out hk with hk | rfl
                      · exact set_true (HT5.out k hk)
                      · rw [Int.toNat_natCast, List.getElem?_set_self HL5.out]), HI6.out, HB6b.out⟩
                    case measure => simp [intOf]; omega
                  · have e : j = nt.length := by omega
                    subst e
                    go_wp2_with fail
                    go_roundw
                    case rel => exact ⟨m + 1, l5, by omega, by go_num, HO5.out, HS5.out.next (by rw [HNx.out]; have := HT5.out; rwa [List.take_length] at this), HB5b.out⟩
                    case measure => simp [intOf]; omega
            · have e : m = f.blocks.length := by omega
              subst e
              go_wp2_with fail
              go_roundw
              case rel => exact ⟨t + 1, l, by omega, by go_num, HO.out, HSm.out.end_, HBm.out⟩
              case measure => simp [intOf]; omega
        · have e : t = f.blocks.length := by omega
          have HD := Lib.hid (show ∀ i, i < f.blocks.length → l[i]? = some (bitL sl i) from fun i hi => by
            have := HS.out
            rw [e] at this
            exact this.done H0n.out HNX.out HW7.out hi)
          subst e
          go_wp2_with fail
          obtain ⟨wa, rfl⟩ : ∃ wo : World, wo = wr := ⟨_, rfl⟩
          have HOA := Lib.hid HO.out
          have HSA := Lib.hid (own_kept (r := none) HS8.out ⟨HB.out.os, HB.out.tape, HB.out.output, HB.out.size, fun k hk _ => HB.out.block k hk⟩ (by cases sv.ownBlock <;> simp))
          have HVA := Lib.hid (HV8.out.more (Nat.le_refl _) HB.out)
          have HBA := Lib.hid (HB8.out.bt HB.out)
          have HFA := Lib.hid ((HB.out.cell (p := ⟨gf, 5, none⟩) (World.block_lt_of_cell? _ _ HF8.out)).trans HF8.out)
          clear HS HO HB HS8 HV8 HB8 HFt
          go_loopw [71] (fun i wr => ∃ i0 : Nat, i0 ≤ f.blocks.length ∧ i = .int .i64 i0 ∧ Below wa.heap.size wa wr) (fun i _ => f.blocks.length - (intOf i).toNat)
          case atStart => exact ⟨0, by omega, rfl, Below.refl _ _⟩
          case round =>
            obtain ⟨i0, hi0, rfl, hB⟩ := hrel
            have HB10 := Lib.hid hB
            have HS10 := Lib.hid (own_kept (r := none) HSA.out (grown_of_below hB) (by cases sv.ownBlock <;> simp))
            clear hB
            by_cases hlti : i0 < f.blocks.length
            · have hlA := HD.out i0 hlti
              have cA := later (HOA.out.cell (List.getElem?_eq_some_iff.1 hlA).1 _ hlA).1 HB10.out
              have hgA := World.block_lt_of_cell? _ _ cA
              have h60 := HN6.out
              clear hlA
              go_wp2_with fail
              refine wp_region_over (by kernel_rfl) (by kernel_rfl) ?_
              repeat (go_big_quiet_step ((go_at_call 13; exact has_over rfl HS10.out (by omega))))
              refine wpQuiet_nil ?_
              intro w20 hb20
              have HB20 := Lib.hid (HB10.out.bt hb20)
              have q5 := later HFA.out HB20.out
              have hq5 := World.block_lt_of_cell? _ _ q5
              clear hb20 cA hgA h60
              go_wp2_with fail
              go_loopw [14, 85] (fun v i wr => ∃ m : Nat, m ≤ f.blocks.length ∧ i = .int .i64 m ∧ OwnI wr wa.heap.size v (befL (nxF f) m i0) ∧ Below wa.heap.size wa wr) (fun _ i _ => f.blocks.length - (intOf i).toNat)
              case atStart => exact ⟨0, by omega, rfl, World.ownsRow_nil _ _ _ _, HB20.out⟩
              case round =>
                obtain ⟨m, hm, rfl, hO, hB⟩ := hrel
                have HOm := Lib.hid hO
                have HBm := Lib.hid hB
                clear hB
                by_cases hltm : m < f.blocks.length
                · obtain ⟨blk, hblk⟩ : ∃ b, f.blocks[m]? = some b := ⟨_, List.getElem?_eq_getElem hltm⟩
                  obtain ⟨bb, bo, cs, rfl, e1, e2, vi, e3, y1, y2, t1, t2, t3, t4, t5, t6, t7, t8⟩ := H8.out m blk hblk
                  subst e3
                  have H03 := (HBA.out.bt HBm.out)
                  obtain ⟨A9, cap9, rfl, _⟩ := y1
                  have r0 := later (e2 0 (by omega)) H03
                  have r1 := later (e2 1 (by omega)) H03
                  have r2 := later (e2 2 (by omega)) H03
                  have r3 := later (e2 3 (by omega)) H03
                  have r4 := later (e2 4 (by omega)) H03
                  have r5 := later (e2 5 (by omega)) H03
                  have r6 := later (e2 6 (by omega)) H03
                  have r7 := later (e2 7 (by omega)) H03
                  have r8 := later (e2 8 (by omega)) H03
                  rw [Nat.add_zero] at r0
                  have HNx := Lib.hid (nxF_of hblk)
                  have hkd := (HFO.out.2 _ (List.mem_of_getElem? hblk)).2
                  have hkd1 := hkd.1
                  have hkd2 := hkd.2.1
                  obtain ⟨A3, c3, hv3, _⟩ := own_slice hO
                  subst hv3
                  obtain ⟨v7, w7', hr7, ho7, hg7, _⟩ := append_one (P := Try.prog) (w := wr.alloc (.cells #[.slice A9 blk.ins.length cap9, .int .i64 blk.term.kind, .int .i64 blk.term.op, .int .i64 blk.term.a.reg, .int .i64 blk.term.a.num, .int .i64 blk.term.b.reg, .int .i64 blk.term.b.num, .int .i64 blk.term.to_, .int .i64 blk.term.els] 52)) wa.heap.size 22 3 (info_parts Try.infoInt).choose _ 8 Try.underlying22 (info_parts Try.infoInt).choose_spec.1 (info_parts Try.infoInt).choose_spec.2.1 (info_parts Try.infoInt).choose_spec.2.2.1 (info_parts Try.infoInt).choose_spec.2.2.2 rfl _ _ _ (World.ownsRow.alloc hO _) (.int .i64 (m : Nat)) (wr.heap.size + 1) (by simp) rfl (by have := befL_len (nxF f) m i0; have := HN6.out; unfold maxLen; omega) (by have := befL_len (nxF f) m i0; have := HN6.out; omega) (by have := HBm.out.size; simp; omega)
                  have HO7 := Lib.hid (show OwnI w7' wa.heap.size v7 (befL (nxF f) m i0 ++ [(m : Int)]) by unfold OwnI; rw [List.length_append, show iv (befL (nxF f) m i0 ++ [(m : Int)]) = iv (befL (nxF f) m i0) ++ [.int .i64 (m : Nat)] by simp [iv]]; exact ho7)
                  have HB7' := Lib.hid (below_of_grown (HBm.out.alloc HBm.out.size _) (Nat.le_refl _) hg7 (fun k hk => (hO.lt k hk).1))
                  have HOs := Lib.hid (World.ownsRow.alloc hO (.cells #[.slice A9 blk.ins.length cap9, .int .i64 blk.term.kind, .int .i64 blk.term.op, .int .i64 blk.term.a.reg, .int .i64 blk.term.a.num, .int .i64 blk.term.b.reg, .int .i64 blk.term.b.num, .int .i64 blk.term.to_, .int .i64 blk.term.els] 52))
                  have HBs := Lib.hid (HBm.out.alloc HBm.out.size (.cells #[.slice A9 blk.ins.length cap9, .int .i64 blk.term.kind, .int .i64 blk.term.op, .int .i64 blk.term.a.reg, .int .i64 blk.term.a.num, .int .i64 blk.term.b.reg, .int .i64 blk.term.b.num, .int .i64 blk.term.to_, .int .i64 blk.term.els] 52))
                  have HYes := Lib.hid (fun h : (i0 : Int) ∈ nextT blk.term => show befL (nxF f) (m + 1) i0 = befL (nxF f) m i0 ++ [(m : Int)] by rw [befL_succ, HNx.out, if_pos h])
                  have HNo := Lib.hid (fun h : ¬ (i0 : Int) ∈ nextT blk.term => show befL (nxF f) (m + 1) i0 = befL (nxF f) m i0 by rw [befL_succ, HNx.out, if_neg h])
                  clear e1 e2 y2 t1 t2 t3 t4 t5 t6 t7 t8 hblk H03 hkd hO ho7 hg7 HNx
                  obtain ⟨kd, hkd⟩ : ∃ z, z = blk.term.kind := ⟨_, rfl⟩
                  obtain ⟨kt, hkt⟩ : ∃ z, z = blk.term.to_ := ⟨_, rfl⟩
                  obtain ⟨ke, hke⟩ : ∃ z, z = blk.term.els := ⟨_, rfl⟩
                  have hnt : nextT blk.term = if kd = 1 then [kt] else if kd = 2 then [kt, ke] else [] := by rw [hkd, hkt, hke]; rfl
                  rw [hnt] at HYes HNo
                  rw [← hkd, ← hkt, ← hke] at hr7 HOs HBs
                  rw [← hkd] at r1 hkd1 hkd2
                  rw [← hkt] at r7
                  rw [← hke] at r8
                  clear hnt hkd hkt hke
                  have h3 : kd = 1 ∨ kd = 2 ∨ kd = 3 := by omega
                  clear hkd1 hkd2
                  rcases h3 with rfl | rfl | rfl
                  · by_cases e1 : kt = (i0 : Int)
                    · subst e1
                      have HY := Lib.hid (HYes.out (by simp))
                      clear HYes HNo
                      go_wp2_with (at_builtin; refine wpList_append_run' _ rfl _ _ _ rfl _ _ _ _ rfl rfl hr7 ?_)
                      go_roundw
                      case rel => exact ⟨m + 1, by omega, by go_num, by rw [HY.out]; exact HO7.out, HB7'.out⟩
                      case measure => simp [intOf]; omega
                    · have b1 : (kt == (i0 : Int)) = false := by simpa using e1
                      have HY := Lib.hid (HNo.out (by simp; omega))
                      clear HYes HNo e1 hr7
                      go_wp2_with fail
                      go_roundw
                      case rel => exact ⟨m + 1, by omega, by go_num, by rw [HY.out]; exact HOs.out, HBs.out⟩
                      case measure => simp [intOf]; omega
                  · by_cases e1 : kt = (i0 : Int)
                    · subst e1
                      have HY := Lib.hid (HYes.out (by simp))
                      clear HYes HNo
                      go_wp2_with (at_builtin; refine wpList_append_run' _ rfl _ _ _ rfl _ _ _ _ rfl rfl hr7 ?_)
                      go_roundw
                      case rel => exact ⟨m + 1, by omega, by go_num, by rw [HY.out]; exact HO7.out, HB7'.out⟩
                      case measure => simp [intOf]; omega
                    · have b1 : (kt == (i0 : Int)) = false := by simpa using e1
                      by_cases e2 : ke = (i0 : Int)
                      · subst e2
                        have HY := Lib.hid (HYes.out (by simp))
                        clear HYes HNo e1
                        go_wp2_with (at_builtin; refine wpList_append_run' _ rfl _ _ _ rfl _ _ _ _ rfl rfl hr7 ?_)
                        go_roundw
                        case rel => exact ⟨m + 1, by omega, by go_num, by rw [HY.out]; exact HO7.out, HB7'.out⟩
                        case measure => simp [intOf]; omega
                      · have b2 : (ke == (i0 : Int)) = false := by simpa using e2
                        have HY := Lib.hid (HNo.out (by simp; omega))
                        clear HYes HNo e1 e2 hr7
                        go_wp2_with fail
                        go_roundw
                        case rel => exact ⟨m + 1, by omega, by go_num, by rw [HY.out]; exact HOs.out, HBs.out⟩
                        case measure => simp [intOf]; omega
                  · have HY := Lib.hid (HNo.out (by simp))
                    clear HYes HNo hr7
                    go_wp2_with fail
                    go_roundw
                    case rel => exact ⟨m + 1, by omega, by go_num, by rw [HY.out]; exact HOs.out, HBs.out⟩
                    case measure => simp [intOf]; omega
                · have e : m = f.blocks.length := by omega
                  subst e
                  obtain ⟨A3, c3, hv3, hm3⟩ := own_slice hO
                  subst hv3
                  have HVm := Lib.hid (HVA.out.more (Nat.le_refl _) HBm.out)
                  obtain ⟨go, co, hov, _⟩ := own_form HVm.out.outer H0n.out
                  subst hov
                  obtain ⟨u, hu, hou, hcu, _⟩ := HVm.out.cell hlti
                  obtain ⟨A5, c5, hv5, hm5⟩ := own_slice hou
                  subst hv5
                  have HOu := Lib.hid hou
                  have hgo := World.block_lt_of_cell? _ _ hcu
                  unfold maxLen at hm3 hm5
                  generalize hbl : befL (nxF f) f.blocks.length i0 = bl at *
                  clear hO hu hou hbl
                  go_wp2_with fail
                  have HCU := Lib.hid hcu
                  clear hcu hgo
                  obtain ⟨wb, rfl⟩ : ∃ wo : World, wo = wr := ⟨_, rfl⟩
                  go_loopw [136] (fun i wr => ∃ q : Nat, q ≤ bl.length ∧ i = .int .i64 q ∧ Below wb.heap.size wb wr) (fun i _ => bl.length - (intOf i).toNat)
                  case atStart => exact ⟨0, by omega, rfl, Below.refl _ _⟩
                  case round =>
                    obtain ⟨q, hq, rfl, hB⟩ := hrel
                    have HBq := Lib.hid hB
                    clear hB
                    by_cases hltq : q < bl.length
                    · obtain ⟨x, hx⟩ : ∃ x, bl[q]? = some x := ⟨_, List.getElem?_eq_getElem hltq⟩
                      obtain ⟨g3, c3', e3, _⟩ := own_form HOm.out (by omega)
                      cases e3
                      obtain ⟨g5, c5', e5, _⟩ := own_form HOu.out (by omega)
                      cases e5
                      have q3 := later (HOm.out.cell hltq x hx) HBq.out
                      have q5 := later (HOu.out.cell hltq x hx) HBq.out
                      have qu := later HCU.out HBq.out
                      have l3 := World.block_lt_of_cell? _ _ q3
                      have l5 := World.block_lt_of_cell? _ _ q5
                      have lu := World.block_lt_of_cell? _ _ qu
                      clear hx
                      go_wp2_with fail
                      go_quiet (fail)
                      go_wp2_with fail
                      go_roundw
                      case rel => exact ⟨q + 1, by omega, by go_num, below_drewN HBq.out _⟩
                      case measure => simp [intOf]; omega
                    · have e : q = bl.length := by omega
                      subst e
                      go_wp2_with fail
                      go_roundw
                      case rel => exact ⟨i0 + 1, by omega, by go_num, HBm.out.bt HBq.out⟩
                      case measure => simp [intOf]; omega
            · have e : i0 = f.blocks.length := by omega
              subst e
              go_wp2_with fail
              go_roundw
              case rel => exact ⟨k + 1, by omega, by go_num, HBA.out.bt HB10.out⟩
              case measure => simp [intOf]; omega
    · have e : k = p.funcs.length := by omega
      subst e
      go_wp2_with fail
      go_returns
      exact ⟨rfl, HB5.out⟩
end Go.Proofs.Ytcljdhpdknecjaa
