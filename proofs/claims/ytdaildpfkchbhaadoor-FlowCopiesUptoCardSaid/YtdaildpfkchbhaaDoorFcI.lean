/- FlowCopies: (rtl.Ins).Show. No condition. -/
import Derived.Test.YtdaildpfkchbhaaDoorFcJ
import Derived.Deep.CutBlock
namespace Go.Proofs.YtdaildpfkchbhaaDoor
open Go.RowKit
set_option linter.unusedVariables false
set_option maxHeartbeats 4000000
set_option maxRecDepth 100000 in
theorem insshow_any (w : World) (hP : PowOk w) (hM : NmOk w) (op dst ar an br bn size : Int) (sg sec : Bool) (ref off : Int) (args : List ArgD) (va : Value) (hop : In64 op) (hdst : In64 dst) (href : In64 ref) (har : In64 ar ∧ In64 an) (hbr : In64 br ∧ In64 bn) (hva : SlR w 2 ArgR va args) (hal : args.length ≤ 1000000) (hoff : In64 off) (hreads : (readsD ⟨op, dst, ⟨ar, an⟩, ⟨br, bn⟩, size, sg, sec, ref, off, args⟩).length ≤ 1000001) (hsz : op = 22 ∨ op = 26 ∨ op = 27 → 1 ≤ size ∧ size ≤ 8) :
    Calls Tryd.prog 19 #[insV ⟨op, dst, ⟨ar, an⟩, ⟨br, bn⟩, size, sg, sec, ref, off, args⟩ va] w fun e w' => e = .returned (.string ⟨⟨insS ⟨op, dst, ⟨ar, an⟩, ⟨br, bn⟩, size, sg, sec, ref, off, args⟩⟩⟩) ∧ Below w.heap.size w w' := by
  have HP := Lib.hid hP
  have HM := Lib.hid hM
  have HAr := Lib.hid har
  have HBr := Lib.hid hbr
  have HVa := Lib.hid hva
  clear hP hM har hbr hva
  go_enter Tryd.func19, Tryd.ntmps19
  go_upto_if 9 with (fail)
  go_cut [3] (fun v wx => Mid w #[.int .i64 op, .int .i64 dst, .int .i64 ar, .int .i64 an, .int .i64 br, .int .i64 bn, .int .i64 size, .bool sg, .bool sec, .int .i64 ref, .int .i64 off, va] (wordsD ⟨op, dst, ⟨ar, an⟩, ⟨br, bn⟩, size, sg, sec, ref, off, args⟩) v wx)
  case first =>
    by_cases hd : 0 ≤ dst
    · have HE := Lib.hid (show wordsD ⟨op, dst, ⟨ar, an⟩, ⟨br, bn⟩, size, sg, sec, ref, off, args⟩ = [] ++ [114 :: numS dst ++ [32, 61]] from if_pos hd)
      have HI := Lib.hid (itoa_any _ (HP.out.below (below_alloc (.cells #[.int .i64 op, .int .i64 dst, .int .i64 ar, .int .i64 an, .int .i64 br, .int .i64 bn, .int .i64 size, .bool sg, .bool sec, .int .i64 ref, .int .i64 off, va] 45) (Below.refl w.heap.size w))) dst hdst)
      have hz := numB_size hdst
      clear hdst
      generalize hV : Value.slice none 0 0 = V0
      obtain ⟨A0, n0, c0, hV', hown⟩ : ∃ A n c, V0 = .slice A n c ∧ ∀ (w2 : World) (B : Nat), w2.ownsRow B 9 1 (.slice A n c) 0 [] ∧ (Value.slice A n c).ownBlock = none := ⟨none, 0, 0, hV.symm, fun w2 B => ⟨World.ownsRow_nil w2 B _ 1, rfl⟩⟩
      clear hV
      subst hV'
      have hown := Lib.hid hown
      go_wp2_with fail
      refine HI.out.mono ?_
      rintro e w2 ⟨rfl, kb⟩
      have hs2 := kb.size
      rw [alloc_sz] at hs2
      have hb2 := kb.block w.heap.size (by rw [alloc_sz]; omega)
      have HB := Lib.hid (below_over (below_alloc _ (Below.refl w.heap.size w)) kb)
      obtain ⟨v', w', r1, r2, r3⟩ := own_str (v := .slice A0 n0 c0) (l := []) (hown.out w2 (w.heap.size + 1)).1 (114 :: numS dst ++ [32, 61]) (by decide) hs2
      rw [← dst_text] at r1
      have HR := Lib.hid r2
      have HB2 := Lib.hid (below_of_grown HB.out (Nat.le_refl _) r3 (fun j hj => by rw [(hown.out w2 0).2] at hj; cases hj))
      have HX := Lib.hid (blk_kept (hb2.trans (blk_new w _)) r3 (Or.inl (hown.out w2 0).2))
      clear r2 r3 kb hb2
      go_wp2_with (at_builtin; refine wpList_append_run' _ rfl _ _ _ rfl _ _ _ _ rfl rfl r1 ?_)
      go_meet
      exact ⟨by rw [HE.out]; exact HR.out, HB2.out, HX.out⟩
    · have hw : wordsD ⟨op, dst, ⟨ar, an⟩, ⟨br, bn⟩, size, sg, sec, ref, off, args⟩ = [] := if_neg hd
      go_wp2_with fail
      go_meet
      exact ⟨by rw [hw]; exact World.ownsRow_nil _ _ _ _, below_alloc _ (Below.refl _ _), blk_new w _⟩
  case rest =>
    have HMid := Lib.hid hcut
    clear hcut
    have k0 := blk_cell (i := 0) (v := .int .i64 op) HMid.out.2.2 rfl
    go_upto_region 5 with fail
    go_cut [25] (fun z wx => z = .bool (decide (0 < op ∧ op < 31)) ∧ wx = wc)
    case first =>
      by_cases h0 : 0 < op
      · by_cases h1 : op < 31
        · go_wp2_with fail
          go_meet
          exact ⟨congrArg Value.bool (decide_eq_true (p := 0 < op ∧ op < 31) ⟨h0, h1⟩).symm, rfl⟩
        · go_wp2_with fail
          go_meet
          exact ⟨congrArg Value.bool (decide_eq_false (p := 0 < op ∧ op < 31) fun h => by omega).symm, rfl⟩
      · go_wp2_with fail
        go_meet
        exact ⟨congrArg Value.bool (decide_eq_false (p := 0 < op ∧ op < 31) fun h => by omega).symm, rfl⟩
    case rest =>
      obtain ⟨hc, hw⟩ := hcut
      subst hc hw
      go_upto_if 25 with (fail)
      go_cut [4] (fun z wx => z = .string ⟨⟨if 0 < op ∧ op < 31 then nameS op else [63]⟩⟩ ∧ wx = wc)
      case first =>
        by_cases hr : 0 < op ∧ op < 31
        · rw [decide_eq_true hr]
          have kn := (HM.out.below HMid.out.2.1).at_op op (by omega) (by omega)
          have kl0 : 0 ≤ op := by omega
          have kl1 : op < 31 := by omega
          go_wp2_with fail
          go_meet
          exact ⟨by rw [if_pos hr], rfl⟩
        · rw [decide_eq_false hr]
          go_wp2_with fail
          go_meet
          exact ⟨by rw [if_neg hr], rfl⟩
      case rest =>
        obtain ⟨hc, hw⟩ := hcut
        subst hc hw
        generalize hNM : (if 0 < op ∧ op < 31 then nameS op else [63]) = nm
        have HNM := Lib.hid hNM
        clear hNM
        go_upto_region 7 with fail
        go_cut [42] (fun z wx => z = .bool (decide (op = 22 ∨ op = 26 ∨ op = 27)) ∧ wx = wc)
        case first =>
          by_cases h0 : op = 22
          · go_wp2_with fail
            go_meet
            exact ⟨congrArg Value.bool (decide_eq_true (p := op = 22 ∨ op = 26 ∨ op = 27) (by omega)).symm, rfl⟩
          · by_cases h1 : op = 26
            · go_wp2_with fail
              go_meet
              exact ⟨congrArg Value.bool (decide_eq_true (p := op = 22 ∨ op = 26 ∨ op = 27) (by omega)).symm, rfl⟩
            · by_cases h2 : op = 27
              · go_wp2_with fail
                go_meet
                exact ⟨congrArg Value.bool (decide_eq_true (p := op = 22 ∨ op = 26 ∨ op = 27) (by omega)).symm, rfl⟩
              · go_wp2_with fail
                go_meet
                exact ⟨congrArg Value.bool (by simp [h0, h1, h2]), rfl⟩
        case rest =>
          obtain ⟨hc, hw⟩ := hcut
          subst hc hw
          go_upto_if 42 with (fail)
          go_cut [4] (fun z wx => z = .string ⟨⟨headS ⟨op, dst, ⟨ar, an⟩, ⟨br, bn⟩, size, sg, sec, ref, off, args⟩⟩⟩ ∧ Below wc.heap.size wc wx)
          case first =>
            by_cases hr : op = 22 ∨ op = 26 ∨ op = 27
            · rw [decide_eq_true hr]
              have kz := hsz hr
              have hz8 : In64 (8 * size) := ⟨by omega, by omega⟩
              have HI := Lib.hid (itoa_any wc (HP.out.below HMid.out.2.1) (8 * size) hz8)
              have hzz := numB_size hz8
              have k4 := blk_cell (i := 6) (v := .int .i64 size) HMid.out.2.2 rfl
              have k5 := blk_cell (i := 7) (v := .bool sg) HMid.out.2.2 rfl
              have kb1 : 8 * size ≤ 100 := by omega
              have kb0 : 0 ≤ 8 * size := by omega
              go_wp2_with fail
              refine HI.out.mono ?_
              rintro e w2 ⟨rfl, kb⟩
              have kzz : nm.length ≤ 6 := HNM.out ▸ (by split; exact nameS_len op; decide)
              have kzn : (⟨⟨nm⟩⟩ : ByteArray).size ≤ 6 := kzz
              obtain ⟨B1, eB1⟩ : ∃ B : ByteArray, B = ⟨⟨nm ++ numS (8 * size)⟩⟩ := ⟨_, rfl⟩
              have hap : (⟨⟨nm⟩⟩ ++ numB (8 * size) : ByteArray) = B1 := (app_eq _ _).trans eB1.symm
              have kap : B1.size ≤ 27 := by
                have h1 := numS_len hz8
                rw [eB1, mk_size, List.length_append]; omega
              have EB := Lib.hid eB1
              clear eB1
              have KB := Lib.hid kb
              have k5 := blk_cell (i := 7) (v := .bool sg) (blk_below HMid.out.2.2 kb) rfl
              clear kb hz8 kz kzz kb1 kb0
              cases sg with
              | true =>
                go_wp2_with fail
                go_meet
                refine ⟨?_, KB.out⟩
                rw [EB.out, show (⟨⟨nm ++ numS (8 * size)⟩⟩ ++ { data := #[115] } : ByteArray) = ⟨⟨(nm ++ numS (8 * size)) ++ [115]⟩⟩ from app_eq _ [115], headS, HNM.out, if_pos hr, if_pos rfl, List.append_assoc]
              | false =>
                go_wp2_with fail
                go_meet
                refine ⟨?_, KB.out⟩
                rw [EB.out, headS, HNM.out, if_pos hr, if_neg (by simp), List.append_nil]
            · rw [decide_eq_false hr]
              go_wp2_with fail
              go_meet
              refine ⟨?_, Below.refl _ _⟩
              rw [headS, HNM.out, if_neg hr, List.append_nil]
          case rest =>
            obtain ⟨hc, hb⟩ := hcut
            subst hc
            have HMid1 := Lib.hid (HMid.out.more hb)
            clear hb
            clear HMid k0 HNM
            obtain ⟨v2, w2, r1, r2, _⟩ := HMid1.out.app (Below.refl _ _) (headS ⟨op, dst, ⟨ar, an⟩, ⟨br, bn⟩, size, sg, sec, ref, off, args⟩) (by unfold wordsD; split <;> simp)
            have HMid2 := Lib.hid r2
            clear HMid1
            have k0 := blk_cell (i := 0) (v := .int .i64 op) r2.2.2 rfl
            clear r2
            go_upto_block 0 with (at_builtin; refine wpList_append_run' _ rfl _ _ _ rfl _ _ _ _ rfl rfl r1 ?_)
            clear r1
            go_cut [3] (fun v wx => Mid w #[.int .i64 op, .int .i64 dst, .int .i64 ar, .int .i64 an, .int .i64 br, .int .i64 bn, .int .i64 size, .bool sg, .bool sec, .int .i64 ref, .int .i64 off, va] (wordsD ⟨op, dst, ⟨ar, an⟩, ⟨br, bn⟩, size, sg, sec, ref, off, args⟩ ++ [headS ⟨op, dst, ⟨ar, an⟩, ⟨br, bn⟩, size, sg, sec, ref, off, args⟩] ++ wordsR ⟨op, dst, ⟨ar, an⟩, ⟨br, bn⟩, size, sg, sec, ref, off, args⟩) v wx)
            case first =>
              have HI := Lib.hid (itoa_any w2 (HP.out.below HMid2.out.2.1) ref href)
              have hzz := numB_size href
              have k7 := blk_cell (i := 9) (v := .int .i64 ref) HMid2.out.2.2 rfl
              clear href
              go_wp2_with fail
              all_goals first
                | (refine HI.out.mono ?_
                   rintro e w3 ⟨rfl, kb⟩
                   obtain ⟨v3, w4, r3, r4, _⟩ := HMid2.out.appB kb (35 :: numS ref) _ (pre_text 35 ref) (by unfold wordsD; split <;> simp)
                   have HM4 := Lib.hid r4
                   clear kb r4
                   go_wp2_with (at_builtin; refine wpList_append_run' _ rfl _ _ _ rfl _ _ _ _ rfl rfl r3 ?_)
                   go_meet
                   rw [show wordsR ⟨op, dst, ⟨ar, an⟩, ⟨br, bn⟩, size, sg, sec, ref, off, args⟩ = [35 :: numS ref] from if_pos (by simp_all)]
                   exact HM4.out)
                | (go_meet
                   rw [show wordsR ⟨op, dst, ⟨ar, an⟩, ⟨br, bn⟩, size, sg, sec, ref, off, args⟩ = [] from if_neg (by simp_all), List.append_nil]
                   exact HMid2.out)
            case rest =>
              obtain ⟨L3, hL3⟩ : ∃ L, L = wordsD ⟨op, dst, ⟨ar, an⟩, ⟨br, bn⟩, size, sg, sec, ref, off, args⟩ ++ [headS ⟨op, dst, ⟨ar, an⟩, ⟨br, bn⟩, size, sg, sec, ref, off, args⟩] ++ wordsR ⟨op, dst, ⟨ar, an⟩, ⟨br, bn⟩, size, sg, sec, ref, off, args⟩ := ⟨_, rfl⟩
              rw [← hL3] at hcut
              have hL3n : L3.length ≤ 3 := by rw [hL3]; unfold wordsD wordsR; split <;> split <;> simp
              have HL3 := Lib.hid hL3
              have HMid3 := Lib.hid hcut
              clear hcut HMid2 hL3 k0
              have c0 : wc.cell? ⟨w.heap.size, 0, none⟩ = some (.int .i64 op) := blk_cell HMid3.out.2.2 rfl
              have c1 : wc.cell? ⟨w.heap.size, 1, none⟩ = some (.int .i64 dst) := blk_cell HMid3.out.2.2 rfl
              have c2 : wc.cell? ⟨w.heap.size, 2, none⟩ = some (.int .i64 ar) := blk_cell HMid3.out.2.2 rfl
              have c3 : wc.cell? ⟨w.heap.size, 3, none⟩ = some (.int .i64 an) := blk_cell HMid3.out.2.2 rfl
              have c4 : wc.cell? ⟨w.heap.size, 4, none⟩ = some (.int .i64 br) := blk_cell HMid3.out.2.2 rfl
              have c5 : wc.cell? ⟨w.heap.size, 5, none⟩ = some (.int .i64 bn) := blk_cell HMid3.out.2.2 rfl
              have c6 : wc.cell? ⟨w.heap.size, 6, none⟩ = some (.int .i64 size) := blk_cell HMid3.out.2.2 rfl
              have c7 : wc.cell? ⟨w.heap.size, 7, none⟩ = some (.bool sg) := blk_cell HMid3.out.2.2 rfl
              have c8 : wc.cell? ⟨w.heap.size, 8, none⟩ = some (.bool sec) := blk_cell HMid3.out.2.2 rfl
              have c9 : wc.cell? ⟨w.heap.size, 9, none⟩ = some (.int .i64 ref) := blk_cell HMid3.out.2.2 rfl
              have c10 : wc.cell? ⟨w.heap.size, 10, none⟩ = some (.int .i64 off) := blk_cell HMid3.out.2.2 rfl
              have c11 : wc.cell? ⟨w.heap.size, 11, none⟩ = some (va) := blk_cell HMid3.out.2.2 rfl
              have HRd := Lib.hid (ireads_new wc ⟨op, dst, ⟨ar, an⟩, ⟨br, bn⟩, size, sg, sec, ref, off, args⟩ va hop HAr.out HBr.out (HVa.out.later (by decide) HMid3.out.2.1) hal)
              go_wp2_with fail
              refine HRd.out.mono ?_
              rintro e w5 ⟨rv, rfl, hrv, kb5, how⟩
              have HRA := Lib.hid (show RA w rv (readsD ⟨op, dst, ⟨ar, an⟩, ⟨br, bn⟩, size, sg, sec, ref, off, args⟩) w5 from ⟨hrv, by
                rcases how with rfl | how
                · rcases HVa.out.old with h0 | h0
                  · exact Or.inl (HVa.out.same_nil hrv h0)
                  · exact Or.inr (Or.inl h0)
                · exact Or.inr (Or.inr how)⟩)
              have HMid4 := Lib.hid (HMid3.out.more kb5)
              obtain ⟨n, hn⟩ : ∃ n, n = (readsD ⟨op, dst, ⟨ar, an⟩, ⟨br, bn⟩, size, sg, sec, ref, off, args⟩).length := ⟨_, rfl⟩
              obtain ⟨A, cap, hA, hl1, hl2, hl3⟩ := id hrv
              unfold maxLen at hl2
              rw [← hn] at hA hl1
              subst hA
              have hn1 : n ≤ 1000001 := by rw [hn]; exact hreads
              have HN := Lib.hid hn
              clear hrv hl1 hl2 hl3 how kb5 hn HRd c0 c1 c2 c3 c4 c5 c6 c7 c8 c9 c10 c11 HMid3
              go_wp2_with fail
              go_loopw [3, 74] (fun v i wr => ∃ k : Nat, k ≤ n ∧ i = .int .i64 k ∧ Mid w #[.int .i64 op, .int .i64 dst, .int .i64 ar, .int .i64 an, .int .i64 br, .int .i64 bn, .int .i64 size, .bool sg, .bool sec, .int .i64 ref, .int .i64 off, va] (L3 ++ wordsA ((readsD ⟨op, dst, ⟨ar, an⟩, ⟨br, bn⟩, size, sg, sec, ref, off, args⟩).take k)) v wr ∧ RA w (.slice A n cap) (readsD ⟨op, dst, ⟨ar, an⟩, ⟨br, bn⟩, size, sg, sec, ref, off, args⟩) wr) (fun _ i _ => n - (intOf i).toNat)
              case atStart => exact ⟨0, by omega, rfl, by rw [List.take_zero, wordsA, List.map_nil, List.append_nil]; exact HMid4.out, HRA.out⟩
              case round =>
                obtain ⟨k, hk, rfl, hm, hra⟩ := hrel
                have HMr := Lib.hid hm
                have HRr := Lib.hid hra
                clear hm hra
                by_cases hlt : k < n
                · have hlk : k < (readsD ⟨op, dst, ⟨ar, an⟩, ⟨br, bn⟩, size, sg, sec, ref, off, args⟩).length := by rw [← HN.out]; exact hlt
                  obtain ⟨a, ha⟩ : ∃ a, (readsD ⟨op, dst, ⟨ar, an⟩, ⟨br, bn⟩, size, sg, sec, ref, off, args⟩)[k]? = some a := ⟨_, List.getElem?_eq_getElem hlk⟩
                  obtain ⟨_, _, hA', _, _, hl3⟩ := HRr.out.1
                  cases hA'
                  obtain ⟨lb, lo, cs, rfl, e1, e2, e3, e4, e5⟩ := hl3 k a ha
                  subst e3
                  have q0 := e2 0 (by omega)
                  have q1 := e2 1 (by omega)
                  rw [Nat.add_zero] at q0
                  have hwA : wordsA ((readsD ⟨op, dst, ⟨ar, an⟩, ⟨br, bn⟩, size, sg, sec, ref, off, args⟩).take (k + 1)) = wordsA ((readsD ⟨op, dst, ⟨ar, an⟩, ⟨br, bn⟩, size, sg, sec, ref, off, args⟩).take k) ++ [argS a] := by
                    rw [List.take_add_one, ha, wordsA, wordsA, List.map_append]; rfl
                  have HW := Lib.hid hwA
                  have hb0 := World.block_lt_of_cell? _ _ q0
                  clear e1 e2 hlk hl3 hwA
                  have r1 := e4
                  have r2 := e5
                  have HAl := Lib.hid (show Below wr.heap.size wr (wr.alloc (.cells #[.int .i64 a.reg, .int .i64 a.num] 37)) from below_alloc _ (Below.refl _ _))
                  have HArg := Lib.hid (arg_any _ (HP.out.below (below_over HMr.out.2.1 HAl.out)) a r1 r2)
                  go_wp2_with fail
                  refine HArg.out.mono ?_
                  rintro e w6 ⟨rfl, kb6⟩
                  obtain ⟨v7, w7, r7, m7, g7⟩ := HMr.out.app (below_over HAl.out kb6) (argS a) (by rw [List.length_append, wordsA, List.length_map, List.length_take]; omega)
                  have HM7 := Lib.hid m7
                  have HR7 := Lib.hid ((HRr.out.below (below_over HAl.out kb6)).grown (own_below HMr.out.1 (below_over HAl.out kb6)) g7)
                  clear q0 q1 kb6 m7 g7
                  go_wp2_with (at_builtin; refine wpList_append_run' _ rfl _ _ _ rfl _ _ _ _ rfl rfl r7 ?_)
                  go_roundw
                  case rel => exact ⟨k + 1, by omega, by go_num, by rw [HW.out, ← List.append_assoc]; exact HM7.out, HR7.out⟩
                  case measure => simp [intOf]; omega
                · have e : k = n := by omega
                  subst e
                  rw [HN.out, List.take_length] at HMr
                  have c10 : wr.cell? ⟨w.heap.size, 10, none⟩ = some (.int .i64 off) := blk_cell HMr.out.2.2 rfl
                  go_upto_if 86 with (fail)
                  go_cut [3] (fun v wx => Mid w #[.int .i64 op, .int .i64 dst, .int .i64 ar, .int .i64 an, .int .i64 br, .int .i64 bn, .int .i64 size, .bool sg, .bool sec, .int .i64 ref, .int .i64 off, va] (L3 ++ wordsA (readsD ⟨op, dst, ⟨ar, an⟩, ⟨br, bn⟩, size, sg, sec, ref, off, args⟩) ++ wordsO ⟨op, dst, ⟨ar, an⟩, ⟨br, bn⟩, size, sg, sec, ref, off, args⟩) v wx)
                  case first =>
                    by_cases ho : off = 0
                    · have hw : wordsO ⟨op, dst, ⟨ar, an⟩, ⟨br, bn⟩, size, sg, sec, ref, off, args⟩ = [] := if_pos ho
                      go_wp2_with fail
                      go_meet
                      rw [hw, List.append_nil]
                      exact HMr.out
                    · have hw := Lib.hid (show wordsO ⟨op, dst, ⟨ar, an⟩, ⟨br, bn⟩, size, sg, sec, ref, off, args⟩ = [43 :: numS off] from if_neg ho)
                      have HI := Lib.hid (fmt_any wr (HP.out.below HMr.out.2.1) off hoff)
                      have hzz := numB_size hoff
                      clear hoff
                      go_wp2_with fail
                      refine HI.out.mono ?_
                      rintro e w6 ⟨rfl, kb6⟩
                      obtain ⟨v7, w7, r7, m7, g7⟩ := HMr.out.appB kb6 (43 :: numS off) _ (pre_text 43 off) (by rw [List.length_append, wordsA, List.length_map]; omega)
                      have HM7 := Lib.hid m7
                      clear kb6 m7 g7 c10
                      go_wp2_with (at_builtin; refine wpList_append_run' _ rfl _ _ _ rfl _ _ _ _ rfl rfl r7 ?_)
                      go_meet
                      rw [hw.out]
                      exact HM7.out
                  case rest =>
                    have HMo := Lib.hid hcut
                    clear hcut c10
                    have c8 : wc.cell? ⟨w.heap.size, 8, none⟩ = some (.bool sec) := blk_cell HMo.out.2.2 rfl
                    go_upto_if 95 with (fail)
                    go_cut [3] (fun v wx => Mid w #[.int .i64 op, .int .i64 dst, .int .i64 ar, .int .i64 an, .int .i64 br, .int .i64 bn, .int .i64 size, .bool sg, .bool sec, .int .i64 ref, .int .i64 off, va] (L3 ++ wordsA (readsD ⟨op, dst, ⟨ar, an⟩, ⟨br, bn⟩, size, sg, sec, ref, off, args⟩) ++ wordsO ⟨op, dst, ⟨ar, an⟩, ⟨br, bn⟩, size, sg, sec, ref, off, args⟩ ++ wordsS ⟨op, dst, ⟨ar, an⟩, ⟨br, bn⟩, size, sg, sec, ref, off, args⟩) v wx)
                    case first =>
                      cases sec with
                      | true =>
                        obtain ⟨v7, w7, r7, m7, g7⟩ := HMo.out.appB (Below.refl _ _) [115, 101, 99, 114, 101, 116] { data := #[115, 101, 99, 114, 101, 116] } rfl (by rw [List.length_append, List.length_append, wordsA, List.length_map]; have : (wordsO ⟨op, dst, ⟨ar, an⟩, ⟨br, bn⟩, size, sg, true, ref, off, args⟩).length ≤ 1 := (by unfold wordsO; split <;> simp); omega)
                        have HM7 := Lib.hid m7
                        clear m7 g7
                        go_wp2_with (at_builtin; refine wpList_append_run' _ rfl _ _ _ rfl _ _ _ _ rfl rfl r7 ?_)
                        go_meet
                        exact HM7.out
                      | false =>
                        go_wp2_with fail
                        go_meet
                        rw [show wordsS ⟨op, dst, ⟨ar, an⟩, ⟨br, bn⟩, size, sg, false, ref, off, args⟩ = [] from if_neg (by simp), List.append_nil]
                        exact HMo.out
                    case rest =>
                      rw [HL3.out, show wordsD ⟨op, dst, ⟨ar, an⟩, ⟨br, bn⟩, size, sg, sec, ref, off, args⟩ ++ [headS ⟨op, dst, ⟨ar, an⟩, ⟨br, bn⟩, size, sg, sec, ref, off, args⟩] ++ wordsR ⟨op, dst, ⟨ar, an⟩, ⟨br, bn⟩, size, sg, sec, ref, off, args⟩ ++ wordsA (readsD ⟨op, dst, ⟨ar, an⟩, ⟨br, bn⟩, size, sg, sec, ref, off, args⟩) ++ wordsO ⟨op, dst, ⟨ar, an⟩, ⟨br, bn⟩, size, sg, sec, ref, off, args⟩ ++ wordsS ⟨op, dst, ⟨ar, an⟩, ⟨br, bn⟩, size, sg, sec, ref, off, args⟩ = wordsI ⟨op, dst, ⟨ar, an⟩, ⟨br, bn⟩, size, sg, sec, ref, off, args⟩ from rfl] at hcut
                      have hlen := wordsI_length ⟨op, dst, ⟨ar, an⟩, ⟨br, bn⟩, size, sg, sec, ref, off, args⟩
                      have hle := wordsI_le (x := ⟨op, dst, ⟨ar, an⟩, ⟨br, bn⟩, size, sg, sec, ref, off, args⟩) hdst href hoff (fun h => by have := hsz h; exact ⟨by show _ ≤ 8 * size; omega, by show 8 * size ≤ _; omega⟩) HRr.out.1.argsIn
                      have hj := join_le (sep := [32]) hle
                      have hl : (wordsI ⟨op, dst, ⟨ar, an⟩, ⟨br, bn⟩, size, sg, sec, ref, off, args⟩).length ≤ 1000006 := by omega
                      have HJ := Lib.hid (join_any wc (w.heap.size + 1) _ (wordsI ⟨op, dst, ⟨ar, an⟩, ⟨br, bn⟩, size, sg, sec, ref, off, args⟩) [32] (by omega) (by simp only [List.length_cons, List.length_nil] at hj; omega) hcut.1)
                      have HB := Lib.hid hcut.2.1
                      clear hcut hle hj hl hlen c8
                      go_wp2_with fail
                      refine HJ.out.mono ?_
                      rintro e w6 ⟨rfl, kb6⟩
                      have HB6 := Lib.hid (below_over HB.out kb6)
                      clear kb6
                      go_wp2_with fail
                      go_returns
                      exact ⟨rfl, HB6.out⟩
end Go.Proofs.YtdaildpfkchbhaaDoor
