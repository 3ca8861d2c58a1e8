/- ReadTexts: the law walked. No condition. -/
import Derived.Test.YtmmpkkpmlaiapaaGreatDoorRtS
import Derived.Test.YtmmpkkpmlaiapaaGreatDoorQi
import Derived.Test.YtmmpkkpmlaiapaaGreatDoorQa
import Derived.Test.YtmmpkkpmlaiapaaGreatDoorQb
import Derived.Test.YtmmpkkpmlaiapaaGreatDoorQg
import Derived.Test.YtmmpkkpmlaiapaaGreatDoorFrS
import Derived.Deep.Cut
import Derived.Deep.CutRange
import Derived.Deep.DeepCutAuto
namespace Go.Proofs.YtmmpkkpmlaiapaaGreatDoor
open Go.RowKit
set_option linter.unusedVariables false
set_option maxHeartbeats 8000000
set_option maxRecDepth 100000
theorem mkAl_two {i j k : Nat} {x y z : Obj × (Nat → Value)} (h : mkAl [(j, x), (k, y)] i = some z) : (i = j ∧ x = z) ∨ (i = k ∧ y = z) := by
  unfold mkAl at h
  by_cases h1 : j = i
  · subst h1
    simp at h
    exact Or.inl ⟨rfl, h⟩
  · by_cases h2 : k = i
    · subst h2
      simp [h1] at h
      exact Or.inr ⟨rfl, h⟩
    · simp [h1, h2] at h
theorem run_alP (a : Act) (x : World) (o : Oper) (h : o.op = .alloc 34) : (execOp a.eval o).run Tryz.prog x = .ok (.value (.pointer (some ⟨x.heap.size, 0, none⟩))) (x.alloc (.cells #[.slice none 0 0, .slice none 0 0] 34)) := by
  unfold execOp
  rw [h]
  kernel_rfl
theorem run_alF (a : Act) (x : World) (o : Oper) (h : o.op = .alloc 38) : (execOp a.eval o).run Tryz.prog x = .ok (.value (.pointer (some ⟨x.heap.size, 0, none⟩))) (x.alloc (.cells #[.int .i64 0, .int .i64 0] 38)) := by
  unfold execOp
  rw [h]
  kernel_rfl
theorem parse_bad {w7 : World} (hR : RdOk w7) (hG : GsOk w7) {L : List ByteArray} {last x : ByteArray} {j : Nat} {st : PSt} (hjl : j < L.length) (hn : ∀ p ∈ L, NoNl p) (hr : runP (L ++ [last]) j = some st) (hx : L[j]? = some x) (hst : stepP st x.data.toList = none) (t : Bool) :
    ∀ (W : World) (S : ByteArray), Below w7.heap.size w7 W → S.data.toList = preL (L.take j) ++ (x.data.toList ++ [10]) ++ (if t then [] else teL ++ [10]) → S.size ≤ 900000 →
      Calls Tryz.prog 11 #[.string S] W fun e w' => e = .returned (.tuple #[.agg #[.slice none 0 0, .slice none 0 0], .agg #[.int .i64 30, .int .i64 ((j : Int) + 1)]]) ∧ Below W.heap.size W w' := fun W S hb hS hs => (parse_text W (hR.later hb) (hG.below hb) S hs).mono (by
  rintro e w' ⟨vd, vc, dvs, cs, fk, fa, rfl, hpar, hnil, _, _, _, kb⟩
  obtain ⟨rfl, rfl⟩ := pre_bad hjl hn hr hx hst t hS hpar
  obtain ⟨rfl, rfl⟩ := hnil (by decide)
  exact ⟨rfl, kb⟩)
theorem KS.two {b c : Nat} {obj ob2 : Obj} {x : World} (h : KS (upd1 (upd1 (fun _ => none) b obj) c ob2) x) (hn : upd1 (fun _ => none) b obj c = none) : x.heap[b]? = some obj ∧ x.heap[c]? = some ob2 ∧ b ≠ c := by
  have hbc : b ≠ c := fun e => by subst e; simp [upd1] at hn
  exact ⟨h b obj (by unfold upd1; rw [if_neg hbc, if_pos rfl]), h c ob2 (by unfold upd1; rw [if_pos rfl]), hbc⟩
theorem bad_true {T x : ByteArray} {l : List UInt8} (h : T = ⟨⟨l⟩⟩) : (T ++ x ++ ⟨#[10]⟩ ++ ⟨#[]⟩).data.toList = l ++ (x.data.toList ++ [10]) ++ (if true then [] else teL ++ [10]) := by
  subst h
  simp
theorem bad_false {T x : ByteArray} {l : List UInt8} (h : T = ⟨⟨l⟩⟩) : (T ++ x ++ ⟨#[10]⟩ ++ ⟨#[9, 46, 116, 101, 120, 116, 10]⟩).data.toList = l ++ (x.data.toList ++ [10]) ++ (if false then [] else teL ++ [10]) := by
  subst h
  simp [teL]
theorem bad_le {T x y z : ByteArray} (h : T.size ≤ 20000) (hx : x.size ≤ 20000) (hy : y.size + z.size ≤ 10) : (T ++ x ++ y ++ z).size ≤ 900000 := by
  rw [ByteArray.size_append, ByteArray.size_append, ByteArray.size_append]
  omega
theorem cut_pre {U T l : ByteArray} (h : U = T ++ l) : U.extract 0 T.size = T := by
  subst h
  apply ByteArray.ext
  apply Array.ext'
  have e : ∀ a b : ByteArray, (a ++ b).data.toList = a.data.toList ++ b.data.toList := fun a b => by simp
  simp only [ByteArray.data_extract, Array.toList_extract]
  rw [e, List.extract_eq_take_drop]
  simp
theorem texts_law (s : ByteArray) (w : World) (hN : GsOk w) (hR : RdOk w) :
    Calls Tryz.prog 5 #[.string s] w fun e w' => e = .returned (.bool true) ∧ Below w.heap.size w w' := by
  have HG := Lib.hid hN
  have HR := Lib.hid hR
  clear hN hR
  go_enter Tryz.func5, Tryz.ntmps5
  go_wp2_with fail
  refine (fit_vm w HG.out).mono ?_
  rintro e w1 ⟨rfl, kb⟩
  have HB1 := Lib.hid kb
  clear kb
  by_cases hs : 20000 < s.size
  · have d1 : decide ((s.size : Int) > 20000) = true := decide_eq_true (by omega)
    go_wp2_with fail
    go_returns
    exact ⟨rfl, by first | exact HB1.out | exact Below.drew HB1.out⟩
  have d1 : decide ((s.size : Int) > 20000) = false := decide_eq_false (by omega)
  have HS := Lib.hid (show s.size ≤ 20000 by omega)
  clear hs
  obtain ⟨L, last, hL1, hL2, hL3, hL4⟩ := lines_of s.size s.data.toList (Nat.le_refl _)
  have HL1 := Lib.hid (show linesB s = L ++ [last] from hL1)
  have HL2 := Lib.hid hL2
  have HL3 := Lib.hid hL3
  have HPL := Lib.hid (show (preL L).length ≤ 20000 by
    have h1 := congrArg List.length hL2
    rw [List.length_append] at h1
    have h2 : s.data.toList.length = s.size := rfl
    have := HS.out
    omega)
  clear hL1 hL2 hL3 hL4
  go_wp2_with fail
  refine (parse_text w1 (HR.out.later HB1.out) (HG.out.below HB1.out) s (Nat.le_trans HS.out (by decide))).mono ?_
  rintro e w2 ⟨vd, vc, dvs, cs, fk, fa, rfl, hpar, hnil, hrd, hru, hri, hb2⟩
  have HPAR := Lib.hid hpar
  have HNIL := Lib.hid hnil
  have HB2 := Lib.hid (HB1.out.bt hb2)
  obtain ⟨Ad, cd, hvd⟩ := RowD.slice hrd
  obtain ⟨nd, hnd⟩ : ∃ z, z = dvs.length := ⟨_, rfl⟩
  rw [← hnd] at hvd
  have HND := Lib.hid hnd
  clear hnd
  subst hvd
  obtain ⟨Ac, cc, hvc⟩ := RowI.slice hri
  obtain ⟨nc, hnc⟩ : ∃ z, z = cs.length := ⟨_, rfl⟩
  rw [← hnc] at hvc
  have HNC := Lib.hid hnc
  clear hnc
  subst hvc
  have HRD := Lib.hid hrd
  have HRU := Lib.hid hru
  have HRI := Lib.hid hri
  clear hpar hnil hrd hru hri hb2
  obtain ⟨w3, hw3⟩ : ∃ z, z = (w2.alloc (.cells #[.slice Ad nd cd, .slice Ac nc cc] 34)).alloc (.cells #[.int .i64 fk, .int .i64 fa] 38) := ⟨_, rfl⟩
  have hb3 : Below w2.heap.size w2 w3 := by rw [hw3]; exact below_alloc _ (below_alloc _ (Below.refl _ _))
  have HX := Lib.hid (show w3.heap[w2.heap.size]? = some (.cells #[.slice Ad nd cd, .slice Ac nc cc] 34 (0, 0)) by rw [hw3]; exact blk_alloc (blk_new w2 _) _)
  have HY := Lib.hid (show w3.heap[w2.heap.size + 1]? = some (.cells #[.int .i64 fk, .int .i64 fa] 38 (0, 0)) by rw [hw3]; have h := blk_new (w2.alloc (.cells #[.slice Ad nd cd, .slice Ac nc cc] 34)) (.cells #[.int .i64 fk, .int .i64 fa] 38); rw [World.size_alloc] at h; exact h)
  have HB3 := Lib.hid (HB2.out.bt hb3)
  have HRD := Lib.hid (own_below HRD.out hb3)
  have HRU := Lib.hid (show ∀ q ∈ dvs, RowU w3 w1.heap.size q.2 q.1.data from fun q hq => own_below (HRU.out q hq) hb3)
  have HRI := Lib.hid (own_below HRI.out hb3)
  go_upto_region 6 with (fail)
  rw [← hw3]
  obtain ⟨g3, hg3⟩ : ∃ z, z = w2.heap.size := ⟨_, rfl⟩
  obtain ⟨g4, hg4⟩ : ∃ z, z = w2.heap.size + 1 := ⟨_, rfl⟩
  rw [← hg3] at HX
  rw [← hg4] at HY
  rw [← hg4, ← hg3]
  clear hw3 hb3 hg3 hg4 HB2
  have y0 := blk_cell (i := 0) HY.out rfl
  have y1 := blk_cell (i := 1) HY.out rfl
  have yl := blk_lt HY.out
  have x0 := blk_cell (i := 0) HX.out rfl
  have x1 := blk_cell (i := 1) HX.out rfl
  have xl := blk_lt HX.out
  obtain ⟨M, hM, hP⟩ := HPAR.out
  obtain rfl : M = L.length := by rw [HL1.out] at hM; simp at hM; omega
  rw [HL1.out] at hP
  clear hM
  obtain ⟨n, hn⟩ : ∃ n, n = L.length := ⟨_, rfl⟩
  have HLN := Lib.hid hn
  clear hn
  rcases hP with ⟨hz, hp, rfl, hfa⟩ | ⟨hl0, hm0, ⟨j, st, x, hj, hrun, hx, hst, hp, rfl, hfa⟩ | ⟨st, hrun, hpt, hp, rfl, hfa⟩ | ⟨st, hrun, hpt, hp, rfl, hfa⟩⟩
  · rw [← HLN.out] at hfa
    subst hfa
    have e1 : dvs = [] := by have := congrArg XProgD.data hp; simpa [emP] using this
    have e2 : cs = [] := by have := congrArg XProgD.code hp; simpa [emP] using this
    obtain rfl : nd = 0 := by rw [HND.out, e1]; rfl
    obtain rfl : nc = 0 := by rw [HNC.out, e2]; rfl
    clear e1 e2 hp
    go_wp2_with fail
    refine (lines_any w3 s (Nat.le_trans HS.out (by decide))).mono ?_
    rintro e w5 ⟨v, L', last', rfl, q1, _, _, hrow, kb⟩
    have hLL := List.append_inj' (HL1.out.symm.trans q1) rfl
    obtain rfl : L = L' := hLL.1
    obtain rfl : last = last' := by simpa using hLL.2
    have HB5 := Lib.hid (HB3.out.bt kb)
    have HX5 := Lib.hid (blk_below HX.out kb)
    have HY5 := Lib.hid (blk_below HY.out kb)
    have HROW := Lib.hid hrow
    obtain ⟨A5, c5, hv⟩ := RowT.slice hrow
    rw [← HLN.out] at hv
    subst hv
    clear kb hrow q1 hLL x0 x1 xl y0 y1 yl
    have y0 := blk_cell (i := 0) HY5.out rfl
    have y1 := blk_cell (i := 1) HY5.out rfl
    have yl := blk_lt HY5.out
    have x0 := blk_cell (i := 0) HX5.out rfl
    have x1 := blk_cell (i := 1) HX5.out rfl
    have xl := blk_lt HX5.out
    have hend : decide (last.data.toList = [] ∧ s.size ≠ 0) = false := decide_eq_false (fun h => by
      rcases hz with hz | hz
      · refine hz ?_
        have h1 : (L ++ [last])[L.length]? = some last := by simp
        rw [h1]
        congr 1
        exact ByteArray.ext (Array.ext' h.1)
      · have h1 : L = [] := List.length_eq_zero_iff.1 hz
        have h2 := HL2.out
        rw [h1, h.1] at h2
        exact h.2 (List.length_eq_zero_iff.2 h2))
    rw [hend]
    clear hz hend
    go_wp2_with fail
    go_returns
    exact ⟨rfl, HB5.out⟩
  · subst hfa
    have hjn : j < n := by rw [HLN.out]; exact hj
    have HRUN := Lib.hid hrun
    have HXJ := Lib.hid (show L[j]? = some x by rw [← hx]; exact (List.getElem?_append_left hj).symm)
    have HST := Lib.hid hst
    have hn0 : 0 < n := by omega
    clear hrun hx hst hj
    have e1 : dvs = [] := by have := congrArg XProgD.data hp; simpa [emP] using this
    have e2 : cs = [] := by have := congrArg XProgD.code hp; simpa [emP] using this
    obtain rfl : nd = 0 := by rw [HND.out, e1]; rfl
    obtain rfl : nc = 0 := by rw [HNC.out, e2]; rfl
    clear e1 e2 hp
    go_wp2_with fail
    refine (lines_any w3 s (Nat.le_trans HS.out (by decide))).mono ?_
    rintro e w5 ⟨v, L', last', rfl, q1, _, _, hrow, kb⟩
    have hLL := List.append_inj' (HL1.out.symm.trans q1) rfl
    obtain rfl : L = L' := hLL.1
    obtain rfl : last = last' := by simpa using hLL.2
    have HB5 := Lib.hid (HB3.out.bt kb)
    have HX5 := Lib.hid (blk_below HX.out kb)
    have HY5 := Lib.hid (blk_below HY.out kb)
    have HROW := Lib.hid hrow
    obtain ⟨A5, c5, hv⟩ := RowT.slice hrow
    rw [← HLN.out] at hv
    subst hv
    clear kb hrow q1 hLL x0 x1 xl y0 y1 yl
    have y0 := blk_cell (i := 0) HY5.out rfl
    have y1 := blk_cell (i := 1) HY5.out rfl
    have yl := blk_lt HY5.out
    have x0 := blk_cell (i := 0) HX5.out rfl
    have x1 := blk_cell (i := 1) HX5.out rfl
    have xl := blk_lt HX5.out
    have hend : decide (last.data.toList = [] ∧ s.size ≠ 0) = true := decide_eq_true ⟨by
      have h1 : (L ++ [last])[L.length]? = some last := by simp
      rw [h1] at hl0
      rw [Option.some.inj hl0], fun h0 => by
      have h1 := congrArg List.length HL2.out
      have h2 : s.data.toList.length = s.size := rfl
      have h3 := preL_count L
      rw [List.length_append] at h1
      have := HLN.out
      omega⟩
    rw [hend]
    clear hend hl0
    have HJN := Lib.hid hjn
    obtain ⟨g5, cap5, he5, hc1, hc2, hc3, hc4⟩ := own_form HROW.out (by have := HLN.out; omega)
    obtain ⟨rfl, rfl⟩ : A5 = some ⟨g5, 0, none⟩ ∧ c5 = cap5 := by
      simp only [Value.slice.injEq] at he5
      exact ⟨he5.1, he5.2.2⟩
    clear he5 hc2 hc3 hc4
    have hc1 : n ≤ c5 := by have := HLN.out; omega
    have HCELL := Lib.hid (show ∀ k x, L[k]? = some x → w5.cell? ⟨g5, k, none⟩ = some (.string x) from fun k x hx => by
      have hk := (List.getElem?_eq_some_iff.1 hx).1
      have h0 : w5.ownsRow w3.heap.size 9 1 (.slice (some ⟨g5, 0, none⟩) n c5) n (L.map Value.string) := by
        have h := HROW.out
        unfold RowT at h
        rw [← HLN.out] at h
        exact h
      have h := World.ownsRow.cellAt h0 k (by have := HLN.out; omega)
      rw [h, List.getElem?_map, hx]; rfl)
    have HG5 := Lib.hid (show g5 < w5.heap.size from by
      obtain ⟨x0', hx0'⟩ : ∃ x, L[0]? = some x := ⟨_, List.getElem?_eq_getElem (by have := HLN.out; omega)⟩
      exact World.block_lt_of_cell? _ _ (HCELL.out 0 x0' hx0'))
    have hnb : n ≤ 20000 := by have h1 := preL_count L; have h2 := HPL.out; have := HLN.out; omega
    go_wp2_with fail
    go_loopw [8, 9, 73] (fun t x i wr => ∃ k : Nat, k ≤ j ∧ i = .int .i64 (k : Nat) ∧ t = .string ⟨⟨preL (L.take k)⟩⟩ ∧ x = .bool (txB L k) ∧ wr = w5) (fun _ _ i _ => j - (intOf i).toNat)
    case atStart => exact ⟨0, by omega, rfl, rfl, rfl, rfl⟩
    case round =>
      rename World => wr
      obtain ⟨k, hk, rfl, rfl, rfl, rfl⟩ := hrel
      obtain ⟨T, hT⟩ : ∃ T : ByteArray, T = ⟨⟨preL (L.take k)⟩⟩ := ⟨_, rfl⟩
      obtain ⟨tx, htx⟩ : ∃ t : Bool, t = txB L k := ⟨_, rfl⟩
      rw [← hT, ← htx]
      have HTX := Lib.hid htx
      have HTE := Lib.hid hT
      have hts : T.size ≤ 20000 := by rw [hT]; exact Nat.le_trans (preL_take_le L k) HPL.out
      clear hT htx
      by_cases hlt : k < j
      · obtain ⟨x, hx⟩ : ∃ x, L[k]? = some x := ⟨_, List.getElem?_eq_getElem (by have := HLN.out; omega)⟩
        have HXK := Lib.hid hx
        have c0 := HCELL.out k x hx
        have cl := HG5.out
        have hxs : x.size ≤ 20000 := by
          have h1 := preL_take_le L (k + 1)
          rw [take_more hx, preL_snoc] at h1
          simp only [List.length_append, List.length_cons, List.length_nil] at h1
          have h2 : x.data.toList.length = x.size := rfl
          have := HPL.out
          omega
        have HLT := Lib.hid hlt
        obtain ⟨bx, hbx⟩ : ∃ b : Bool, b = (x.toList == [9, 46, 116, 101, 120, 116]) := ⟨_, rfl⟩
        have dx : (x.toList == [9, 46, 116, 101, 120, 116]) = bx := hbx.symm
        have HNT := Lib.hid (show (⟨⟨preL (L.take (k + 1))⟩⟩ : ByteArray) = T ++ (x ++ ⟨#[10]⟩) by
          rw [take_more hx, preL_snoc, HTE.out, show (⟨#[10]⟩ : ByteArray) = ⟨⟨[10]⟩⟩ from rfl, app_lit, lit_app])
        have HNX := Lib.hid (show txB L (k + 1) = (tx || bx) by
          rw [txB_snoc hx, HTX.out, hbx, Lib.toList_data]; rfl)
        clear hx hbx
        cases tx with
        | true =>
          go_wp2_with fail
          go_roundw
          case rel => exact ⟨k + 1, by have := HLT.out; omega, by go_num, by first | rw [HNT.out] | simp [HNT.out], by first | (rw [HNX.out]; done) | (rw [HNX.out]; rfl) | simp [HNX.out], by first | rfl | trivial⟩
          case measure => have := HLT.out; simp [intOf]; omega
        | false =>
          cases bx with
          | true =>
            go_wp2_with fail
            go_roundw
            case rel => exact ⟨k + 1, by have := HLT.out; omega, by go_num, by first | rw [HNT.out] | simp [HNT.out], by first | (rw [HNX.out]; done) | (rw [HNX.out]; rfl) | simp [HNX.out], by first | rfl | trivial⟩
            case measure => have := HLT.out; simp [intOf]; omega
          | false =>
            go_wp2_with fail
            go_roundw
            case rel => exact ⟨k + 1, by have := HLT.out; omega, by go_num, by first | rw [HNT.out] | simp [HNT.out], by first | (rw [HNX.out]; done) | (rw [HNX.out]; rfl) | simp [HNX.out], by first | rfl | trivial⟩
            case measure => have := HLT.out; simp [intOf]; omega
      · have e : k = j := by omega
        subst e
        clear hlt
        have HKN := Lib.hid (show k ≤ n by have := HJN.out; omega)
        by_cases hk0 : k = 0
        · subst hk0
          have hst0 : st = ⟨0, [], []⟩ := by have h := HRUN.out; cases h; rfl
          have hxd : x.data.toList ≠ daL := fun h => by
            have h2 := HST.out
            rw [hst0] at h2
            unfold stepP at h2
            rw [if_pos rfl, if_pos h] at h2
            cases h2
          have dx : (x.toList == [9, 46, 100, 97, 116, 97]) = false := by rw [Lib.toList_data]; exact beq_eq_false_iff_ne.2 hxd
          have c0 := HCELL.out 0 x HXJ.out
          have cl := HG5.out
          have d0 : decide (0 < n) = true := decide_eq_true hn0
          have d0' : decide ((n : Int) > 0) = true := decide_eq_true (by omega)
          clear hst0 hxd
          go_wp2_with fail
          go_returns
          exact ⟨rfl, HB5.out⟩
        have HK0 := Lib.hid (show 0 < k by omega)
        have dk0 : ((k : Int) == 0) = false := by have := HK0.out; simp; omega
        have dkn : ((k : Int) == (n : Int)) = false := by have := HJN.out; simp; omega
        clear hk0
        cases tx with
        | true =>
          have HT1 := Lib.hid (show T.data.toList = preL (L.take k) ++ (if txB L k then [] else teL ++ [10]) by rw [← HTX.out, HTE.out]; simp)
          have HT1S := Lib.hid (show T.size ≤ 20007 by omega)
          go_wp2_with fail
          refine (parse_text wr (HR.out.later HB5.out) (HG.out.below HB5.out) (T) (Nat.le_trans HT1S.out (by decide))).mono ?_
          rintro e w6 ⟨vd2, vc2, dvs2, cs2, fk2, fa2, rfl, hpar2, _, hrd2, _, hri2, kb⟩
          obtain rfl : fk2 = 0 := pre_ok (s := T) (by have := HK0.out; omega) (by have := HLN.out; have := HKN.out; omega) HL3.out HRUN.out HT1.out hpar2
          obtain ⟨Ad2, cd2, hvd⟩ := RowD.slice hrd2
          obtain ⟨nd2, hnd⟩ : ∃ z, z = dvs2.length := ⟨_, rfl⟩
          rw [← hnd] at hvd
          clear hnd
          subst hvd
          obtain ⟨Ac2, cc2, hvc⟩ := RowI.slice hri2
          obtain ⟨nc2, hnc⟩ : ∃ z, z = cs2.length := ⟨_, rfl⟩
          rw [← hnc] at hvc
          clear hnc
          subst hvc
          have HB6 := Lib.hid (HB5.out.bt kb)
          have HY6 := Lib.hid (blk_below HY5.out kb)
          have HCELL6 := Lib.hid (show ∀ k x, L[k]? = some x → w6.cell? ⟨g5, k, none⟩ = some (.string x) from fun k x hx => laterR (HCELL.out k x hx) kb)
          have HG6 := Lib.hid (show g5 < w6.heap.size from Nat.lt_of_lt_of_le HG5.out kb.size)
          clear hpar2 hrd2 hri2 kb y0 y1 yl x0 x1 xl
          obtain ⟨w7, hw7⟩ : ∃ z, z = (w6.alloc (.cells #[.slice Ad2 nd2 cd2, .slice Ac2 nc2 cc2] 34)).alloc (.cells #[.int .i64 0, .int .i64 fa2] 38) := ⟨_, rfl⟩
          have hb7 : Below w6.heap.size w6 w7 := by rw [hw7]; exact below_alloc _ (below_alloc _ (Below.refl _ _))
          have HZ7 := Lib.hid (show w7.heap[w6.heap.size + 1]? = some (.cells #[.int .i64 0, .int .i64 fa2] 38 (0, 0)) by rw [hw7]; have h := blk_new (w6.alloc (.cells #[.slice Ad2 nd2 cd2, .slice Ac2 nc2 cc2] 34)) (.cells #[.int .i64 0, .int .i64 fa2] 38); rw [World.size_alloc] at h; exact h)
          have HB7 := Lib.hid (HB6.out.bt hb7)
          have HY7 := Lib.hid (blk_below HY6.out hb7)
          have HCELL7 := Lib.hid (show ∀ k x, L[k]? = some x → w7.cell? ⟨g5, k, none⟩ = some (.string x) from fun k x hx => laterR (HCELL6.out k x hx) hb7)
          have HG7 := Lib.hid (show g5 < w7.heap.size from Nat.lt_of_lt_of_le HG6.out hb7.size)
          go_upto_region 28 with (fail)
          rw [← hw7]
          obtain ⟨g13, hg13⟩ : ∃ z, z = w6.heap.size + 1 := ⟨_, rfl⟩
          rw [← hg13] at HZ7
          rw [← hg13]
          clear hw7 hb7 hg13 HB6 HY6 HCELL6 HG6
          have z0 := blk_cell (i := 0) HZ7.out rfl
          have zl := blk_lt HZ7.out
          have P3 := Lib.hid (parse_bad (HR.out.later HB7.out) (HG.out.below HB7.out) (by have := HLN.out; have := HJN.out; omega) HL3.out HRUN.out HXJ.out HST.out true)
          have y1 := blk_cell (i := 1) HY7.out rfl
          have yl := blk_lt HY7.out
          have c0 := HCELL7.out k x HXJ.out
          have cl := HG7.out
          have hxs : x.size ≤ 20000 := by
            have h1 := preL_take_le L (k + 1)
            rw [take_more HXJ.out, preL_snoc] at h1
            simp only [List.length_append, List.length_cons, List.length_nil] at h1
            have h2 : x.data.toList.length = x.size := rfl
            have := HPL.out
            omega
          go_upto_region 30 with (fail)
          refine wp_region_freshS 31 32 [0, 1, 2, 3, 4, 5, 6, 7, 8, 9, 10, 11, 12, 13, 14, 15, 16, 17, 18, 19, 20, 21, 22, 23, 24, 25, 26, 27, 28] [(29, .cells #[.slice none 0 0, .slice none 0 0] 34, fun b => .pointer (some ⟨b, 0, none⟩)), (30, .cells #[.int .i64 0, .int .i64 0] 38, fun b => .pointer (some ⟨b, 0, none⟩))] (by kernel_rfl) ?_ (by kernel_rfl) (by kernel_rfl) ?_
          · intro i obj mk hi
            rcases mkAl_two hi with ⟨rfl, h⟩ | ⟨rfl, h⟩
            · cases h
              exact ⟨_, rfl, rfl, fun a x => run_alP a x _ rfl⟩
            · cases h
              exact ⟨_, rfl, rfl, fun a x => run_alF a x _ rfl⟩
          apply Exists.intro
          refine ⟨fun V hV hne => ?_, ?_⟩
          · change wpQuiet _ _ _ _ (_ :: _ :: _ :: _ :: _ :: _ :: _ :: _ :: _ :: _ :: _ :: _ :: _ :: _ :: _ :: _ :: _ :: _ :: _ :: _ :: _ :: _ :: _ :: _ :: _ :: _ :: _ :: _ :: _ :: []) _
            repeat (go_big_quiet_step (first
              | (go_at_call 15; exact calls_ext hV _ (one_law _ _))
              | (go_at_call 16; exact calls_ext hV _ (rest_law _ _))
              | (go_at_call 11; exact calls_ext hV _ (P3.out _ _ (ExtF.below _) (by exact bad_true HTE.out) (by exact bad_le (by omega) (by omega) (by decide))))))
            refine wpQuiet_nil ?_
            exact rfl
          · intro g14 hg14 _ g15 hg15 hne
            have hn14 : g14 ≠ g15 := fun e => by subst e; simp [upd1] at hne
            clear hne
            simp only [List.getElem?_toArray, List.getElem?_cons_succ, List.getElem?_cons_zero, Option.bind_some]
            refine ⟨_, g14, _, _, rfl, hg14, by unfold upd1; rw [if_neg hn14, if_pos rfl], SM.mk' (by rfl) (by rfl) 34 _ _ (by rfl) (by rfl) (by rfl) (by rfl) (by kernel_rfl) (by kernel_rfl), fun x1 hx hk => ?_⟩
            have kg := hk g14 _ (by unfold upd1; rw [if_pos rfl])
            have kf := hk g15 (.cells #[.int .i64 0, .int .i64 0] 38) (by unfold upd1; rw [if_neg hn14.symm, if_pos rfl])
            clear hk
            change wpList _ _ _ (_ :: []) _ _
            conv => arg 5; simp [Act.put]
            refine wpList_store_blk (by rfl) 38 _ _ (by rfl) g15 (by rfl) (by rfl) kf (by rfl) (by kernel_rfl) (by kernel_rfl) ?_
            intro x3 k3 hb3 hz3 ho3
            have kb := hb3 _ _ (Nat.le_trans HB7.out.size hg15) (HB7.out.bt hx)
            have ky := (ho3 g4 (fun e => absurd (blk_lt HY7.out) (by omega))).trans (blk_below HY7.out hx)
            have kz := (ho3 g13 (fun e => absurd (blk_lt HZ7.out) (by omega))).trans (blk_below HZ7.out hx)
            clear kg kf hb3 hz3 ho3 hx hn14 hg14 hg15 c0 cl y1 yl z0 zl hxs hts P3
            have y1 := blk_cell (i := 1) ky rfl
            have yl := blk_lt ky
            have z0 := blk_cell (i := 0) kz rfl
            have zl := blk_lt kz
            have q0 := blk_cell (i := 0) k3 rfl
            have q1 := blk_cell (i := 1) k3 rfl
            have ql := blk_lt k3
            clear ky kz k3
            go_wp2_with fail
            go_returns
            exact ⟨rfl, kb⟩
        | false =>
          go_wp2_with fail
          obtain ⟨U, hU⟩ : ∃ U : ByteArray, U = T ++ ⟨#[9, 46, 116, 101, 120, 116, 10]⟩ := ⟨_, rfl⟩
          rw [← hU]
          have HT1 := Lib.hid (show U.data.toList = preL (L.take k) ++ (if txB L k then [] else teL ++ [10]) by rw [hU, ← HTX.out, HTE.out]; rfl)
          have hus : U.size = T.size + 7 := by rw [hU, ByteArray.size_append]; rfl
          have HT1S := Lib.hid (show U.size ≤ 20007 by rw [hus]; omega)
          have HUS := Lib.hid hus
          have HUT := Lib.hid hU
          have HTS := Lib.hid hts
          clear hU hts hus
          refine (parse_text wr (HR.out.later HB5.out) (HG.out.below HB5.out) (U) (Nat.le_trans HT1S.out (by decide))).mono ?_
          rintro e w6 ⟨vd2, vc2, dvs2, cs2, fk2, fa2, rfl, hpar2, _, hrd2, _, hri2, kb⟩
          obtain rfl : fk2 = 0 := pre_ok (s := U) (by have := HK0.out; omega) (by have := HLN.out; have := HKN.out; omega) HL3.out HRUN.out HT1.out hpar2
          obtain ⟨Ad2, cd2, hvd⟩ := RowD.slice hrd2
          obtain ⟨nd2, hnd⟩ : ∃ z, z = dvs2.length := ⟨_, rfl⟩
          rw [← hnd] at hvd
          clear hnd
          subst hvd
          obtain ⟨Ac2, cc2, hvc⟩ := RowI.slice hri2
          obtain ⟨nc2, hnc⟩ : ∃ z, z = cs2.length := ⟨_, rfl⟩
          rw [← hnc] at hvc
          clear hnc
          subst hvc
          have HB6 := Lib.hid (HB5.out.bt kb)
          have HY6 := Lib.hid (blk_below HY5.out kb)
          have HCELL6 := Lib.hid (show ∀ k x, L[k]? = some x → w6.cell? ⟨g5, k, none⟩ = some (.string x) from fun k x hx => laterR (HCELL.out k x hx) kb)
          have HG6 := Lib.hid (show g5 < w6.heap.size from Nat.lt_of_lt_of_le HG5.out kb.size)
          clear hpar2 hrd2 hri2 kb y0 y1 yl x0 x1 xl
          obtain ⟨w7, hw7⟩ : ∃ z, z = (w6.alloc (.cells #[.slice Ad2 nd2 cd2, .slice Ac2 nc2 cc2] 34)).alloc (.cells #[.int .i64 0, .int .i64 fa2] 38) := ⟨_, rfl⟩
          have hb7 : Below w6.heap.size w6 w7 := by rw [hw7]; exact below_alloc _ (below_alloc _ (Below.refl _ _))
          have HZ7 := Lib.hid (show w7.heap[w6.heap.size + 1]? = some (.cells #[.int .i64 0, .int .i64 fa2] 38 (0, 0)) by rw [hw7]; have h := blk_new (w6.alloc (.cells #[.slice Ad2 nd2 cd2, .slice Ac2 nc2 cc2] 34)) (.cells #[.int .i64 0, .int .i64 fa2] 38); rw [World.size_alloc] at h; exact h)
          have HB7 := Lib.hid (HB6.out.bt hb7)
          have HY7 := Lib.hid (blk_below HY6.out hb7)
          have HCELL7 := Lib.hid (show ∀ k x, L[k]? = some x → w7.cell? ⟨g5, k, none⟩ = some (.string x) from fun k x hx => laterR (HCELL6.out k x hx) hb7)
          have HG7 := Lib.hid (show g5 < w7.heap.size from Nat.lt_of_lt_of_le HG6.out hb7.size)
          go_upto_region 28 with (fail)
          rw [← hw7]
          obtain ⟨g13, hg13⟩ : ∃ z, z = w6.heap.size + 1 := ⟨_, rfl⟩
          rw [← hg13] at HZ7
          rw [← hg13]
          clear hw7 hb7 hg13 HB6 HY6 HCELL6 HG6
          have z0 := blk_cell (i := 0) HZ7.out rfl
          have zl := blk_lt HZ7.out
          obtain ⟨bx, hbx⟩ : ∃ b : Bool, b = (x.toList == [9, 46, 116, 101, 120, 116]) := ⟨_, rfl⟩
          have dx : (x.toList == [9, 46, 116, 101, 120, 116]) = bx := hbx.symm
          clear hbx
          have hus := HUS.out
          have hts := HTS.out
          have HCUT := Lib.hid (cut_pre HUT.out)
          cases bx with
          | true =>
            have P3 := Lib.hid (parse_bad (HR.out.later HB7.out) (HG.out.below HB7.out) (by have := HLN.out; have := HJN.out; omega) HL3.out HRUN.out HXJ.out HST.out true)
            have y1 := blk_cell (i := 1) HY7.out rfl
            have yl := blk_lt HY7.out
            have c0 := HCELL7.out k x HXJ.out
            have cl := HG7.out
            have hxs : x.size ≤ 20000 := by
              have h1 := preL_take_le L (k + 1)
              rw [take_more HXJ.out, preL_snoc] at h1
              simp only [List.length_append, List.length_cons, List.length_nil] at h1
              have h2 : x.data.toList.length = x.size := rfl
              have := HPL.out
              omega
            go_upto_region 30 with (fail)
            refine wp_region_freshS 31 32 [0, 1, 2, 3, 4, 5, 6, 7, 8, 9, 10, 11, 12, 13, 14, 15, 16, 17, 18, 19, 20, 21, 22, 23, 24, 25, 26, 27, 28] [(29, .cells #[.slice none 0 0, .slice none 0 0] 34, fun b => .pointer (some ⟨b, 0, none⟩)), (30, .cells #[.int .i64 0, .int .i64 0] 38, fun b => .pointer (some ⟨b, 0, none⟩))] (by kernel_rfl) ?_ (by kernel_rfl) (by kernel_rfl) ?_
            · intro i obj mk hi
              rcases mkAl_two hi with ⟨rfl, h⟩ | ⟨rfl, h⟩
              · cases h
                exact ⟨_, rfl, rfl, fun a x => run_alP a x _ rfl⟩
              · cases h
                exact ⟨_, rfl, rfl, fun a x => run_alF a x _ rfl⟩
            apply Exists.intro
            refine ⟨fun V hV hne => ?_, ?_⟩
            · change wpQuiet _ _ _ _ (_ :: _ :: _ :: _ :: _ :: _ :: _ :: _ :: _ :: _ :: _ :: _ :: _ :: _ :: _ :: _ :: _ :: _ :: _ :: _ :: _ :: _ :: _ :: _ :: _ :: _ :: _ :: _ :: _ :: []) _
              repeat (go_big_quiet_step (first
                | (go_at_call 15; exact calls_ext hV _ (one_law _ _))
                | (go_at_call 16; exact calls_ext hV _ (rest_law _ _))
                | (go_at_call 11; exact calls_ext hV _ (P3.out _ _ (ExtF.below _) (by rw [HCUT.out]; exact bad_true HTE.out) (by rw [HCUT.out]; exact bad_le (by omega) (by omega) (by decide))))))
              refine wpQuiet_nil ?_
              exact rfl
            · intro g14 hg14 _ g15 hg15 hne
              have hn14 : g14 ≠ g15 := fun e => by subst e; simp [upd1] at hne
              clear hne
              simp only [List.getElem?_toArray, List.getElem?_cons_succ, List.getElem?_cons_zero, Option.bind_some]
              refine ⟨_, g14, _, _, rfl, hg14, by unfold upd1; rw [if_neg hn14, if_pos rfl], SM.mk' (by rfl) (by rfl) 34 _ _ (by rfl) (by rfl) (by rfl) (by rfl) (by kernel_rfl) (by kernel_rfl), fun x1 hx hk => ?_⟩
              have kg := hk g14 _ (by unfold upd1; rw [if_pos rfl])
              have kf := hk g15 (.cells #[.int .i64 0, .int .i64 0] 38) (by unfold upd1; rw [if_neg hn14.symm, if_pos rfl])
              clear hk
              change wpList _ _ _ (_ :: []) _ _
              conv => arg 5; simp [Act.put]
              refine wpList_store_blk (by rfl) 38 _ _ (by rfl) g15 (by rfl) (by rfl) kf (by rfl) (by kernel_rfl) (by kernel_rfl) ?_
              intro x3 k3 hb3 hz3 ho3
              have kb := hb3 _ _ (Nat.le_trans HB7.out.size hg15) (HB7.out.bt hx)
              have ky := (ho3 g4 (fun e => absurd (blk_lt HY7.out) (by omega))).trans (blk_below HY7.out hx)
              have kz := (ho3 g13 (fun e => absurd (blk_lt HZ7.out) (by omega))).trans (blk_below HZ7.out hx)
              clear kg kf hb3 hz3 ho3 hx hn14 hg14 hg15 c0 cl y1 yl z0 zl hxs hts P3
              have y1 := blk_cell (i := 1) ky rfl
              have yl := blk_lt ky
              have z0 := blk_cell (i := 0) kz rfl
              have zl := blk_lt kz
              have q0 := blk_cell (i := 0) k3 rfl
              have q1 := blk_cell (i := 1) k3 rfl
              have ql := blk_lt k3
              clear ky kz k3
              go_wp2_with fail
              go_returns
              exact ⟨rfl, kb⟩
          | false =>
            have P3 := Lib.hid (parse_bad (HR.out.later HB7.out) (HG.out.below HB7.out) (by have := HLN.out; have := HJN.out; omega) HL3.out HRUN.out HXJ.out HST.out false)
            have y1 := blk_cell (i := 1) HY7.out rfl
            have yl := blk_lt HY7.out
            have c0 := HCELL7.out k x HXJ.out
            have cl := HG7.out
            have hxs : x.size ≤ 20000 := by
              have h1 := preL_take_le L (k + 1)
              rw [take_more HXJ.out, preL_snoc] at h1
              simp only [List.length_append, List.length_cons, List.length_nil] at h1
              have h2 : x.data.toList.length = x.size := rfl
              have := HPL.out
              omega
            go_upto_region 30 with (fail)
            refine wp_region_freshS 31 32 [0, 1, 2, 3, 4, 5, 6, 7, 8, 9, 10, 11, 12, 13, 14, 15, 16, 17, 18, 19, 20, 21, 22, 23, 24, 25, 26, 27, 28] [(29, .cells #[.slice none 0 0, .slice none 0 0] 34, fun b => .pointer (some ⟨b, 0, none⟩)), (30, .cells #[.int .i64 0, .int .i64 0] 38, fun b => .pointer (some ⟨b, 0, none⟩))] (by kernel_rfl) ?_ (by kernel_rfl) (by kernel_rfl) ?_
            · intro i obj mk hi
              rcases mkAl_two hi with ⟨rfl, h⟩ | ⟨rfl, h⟩
              · cases h
                exact ⟨_, rfl, rfl, fun a x => run_alP a x _ rfl⟩
              · cases h
                exact ⟨_, rfl, rfl, fun a x => run_alF a x _ rfl⟩
            apply Exists.intro
            refine ⟨fun V hV hne => ?_, ?_⟩
            · change wpQuiet _ _ _ _ (_ :: _ :: _ :: _ :: _ :: _ :: _ :: _ :: _ :: _ :: _ :: _ :: _ :: _ :: _ :: _ :: _ :: _ :: _ :: _ :: _ :: _ :: _ :: _ :: _ :: _ :: _ :: _ :: _ :: []) _
              repeat (go_big_quiet_step (first
                | (go_at_call 15; exact calls_ext hV _ (one_law _ _))
                | (go_at_call 16; exact calls_ext hV _ (rest_law _ _))
                | (go_at_call 11; exact calls_ext hV _ (P3.out _ _ (ExtF.below _) (by rw [HCUT.out]; exact bad_false HTE.out) (by rw [HCUT.out]; exact bad_le (by omega) (by omega) (by decide))))))
              refine wpQuiet_nil ?_
              exact rfl
            · intro g14 hg14 _ g15 hg15 hne
              have hn14 : g14 ≠ g15 := fun e => by subst e; simp [upd1] at hne
              clear hne
              simp only [List.getElem?_toArray, List.getElem?_cons_succ, List.getElem?_cons_zero, Option.bind_some]
              refine ⟨_, g14, _, _, rfl, hg14, by unfold upd1; rw [if_neg hn14, if_pos rfl], SM.mk' (by rfl) (by rfl) 34 _ _ (by rfl) (by rfl) (by rfl) (by rfl) (by kernel_rfl) (by kernel_rfl), fun x1 hx hk => ?_⟩
              have kg := hk g14 _ (by unfold upd1; rw [if_pos rfl])
              have kf := hk g15 (.cells #[.int .i64 0, .int .i64 0] 38) (by unfold upd1; rw [if_neg hn14.symm, if_pos rfl])
              clear hk
              change wpList _ _ _ (_ :: []) _ _
              conv => arg 5; simp [Act.put]
              refine wpList_store_blk (by rfl) 38 _ _ (by rfl) g15 (by rfl) (by rfl) kf (by rfl) (by kernel_rfl) (by kernel_rfl) ?_
              intro x3 k3 hb3 hz3 ho3
              have kb := hb3 _ _ (Nat.le_trans HB7.out.size hg15) (HB7.out.bt hx)
              have ky := (ho3 g4 (fun e => absurd (blk_lt HY7.out) (by omega))).trans (blk_below HY7.out hx)
              have kz := (ho3 g13 (fun e => absurd (blk_lt HZ7.out) (by omega))).trans (blk_below HZ7.out hx)
              clear kg kf hb3 hz3 ho3 hx hn14 hg14 hg15 c0 cl y1 yl z0 zl hxs hts P3
              have y1 := blk_cell (i := 1) ky rfl
              have yl := blk_lt ky
              have z0 := blk_cell (i := 0) kz rfl
              have zl := blk_lt kz
              have q0 := blk_cell (i := 0) k3 rfl
              have q1 := blk_cell (i := 1) k3 rfl
              have ql := blk_lt k3
              clear ky kz k3
              go_wp2_with fail
              go_returns
              exact ⟨rfl, kb⟩
  · rw [← HLN.out] at hfa
    subst hfa
    obtain ⟨j, hjj⟩ : ∃ j, j = n := ⟨_, rfl⟩
    have hjn : j ≤ n := by omega
    have HJ := Lib.hid hjj
    have HRUN := Lib.hid (show runP (L ++ [last]) j = some st by rw [hjj, HLN.out]; exact hrun)
    have hn0 : 0 < n := by rw [HLN.out]; omega
    rw [← hjj] at HY y1
    clear hrun hjj
    have e1 : dvs = [] := by have := congrArg XProgD.data hp; simpa [emP] using this
    have e2 : cs = [] := by have := congrArg XProgD.code hp; simpa [emP] using this
    obtain rfl : nd = 0 := by rw [HND.out, e1]; rfl
    obtain rfl : nc = 0 := by rw [HNC.out, e2]; rfl
    clear e1 e2 hp
    go_wp2_with fail
    refine (lines_any w3 s (Nat.le_trans HS.out (by decide))).mono ?_
    rintro e w5 ⟨v, L', last', rfl, q1, _, _, hrow, kb⟩
    have hLL := List.append_inj' (HL1.out.symm.trans q1) rfl
    obtain rfl : L = L' := hLL.1
    obtain rfl : last = last' := by simpa using hLL.2
    have HB5 := Lib.hid (HB3.out.bt kb)
    have HX5 := Lib.hid (blk_below HX.out kb)
    have HY5 := Lib.hid (blk_below HY.out kb)
    have HROW := Lib.hid hrow
    obtain ⟨A5, c5, hv⟩ := RowT.slice hrow
    rw [← HLN.out] at hv
    subst hv
    clear kb hrow q1 hLL x0 x1 xl y0 y1 yl
    have y0 := blk_cell (i := 0) HY5.out rfl
    have y1 := blk_cell (i := 1) HY5.out rfl
    have yl := blk_lt HY5.out
    have x0 := blk_cell (i := 0) HX5.out rfl
    have x1 := blk_cell (i := 1) HX5.out rfl
    have xl := blk_lt HX5.out
    have hend : decide (last.data.toList = [] ∧ s.size ≠ 0) = true := decide_eq_true ⟨by
      have h1 : (L ++ [last])[L.length]? = some last := by simp
      rw [h1] at hl0
      rw [Option.some.inj hl0], fun h0 => by
      have h1 := congrArg List.length HL2.out
      have h2 : s.data.toList.length = s.size := rfl
      have h3 := preL_count L
      rw [List.length_append] at h1
      have := HLN.out
      omega⟩
    rw [hend]
    clear hend hl0
    have HJN := Lib.hid hjn
    obtain ⟨g5, cap5, he5, hc1, hc2, hc3, hc4⟩ := own_form HROW.out (by have := HLN.out; omega)
    obtain ⟨rfl, rfl⟩ : A5 = some ⟨g5, 0, none⟩ ∧ c5 = cap5 := by
      simp only [Value.slice.injEq] at he5
      exact ⟨he5.1, he5.2.2⟩
    clear he5 hc2 hc3 hc4
    have hc1 : n ≤ c5 := by have := HLN.out; omega
    have HCELL := Lib.hid (show ∀ k x, L[k]? = some x → w5.cell? ⟨g5, k, none⟩ = some (.string x) from fun k x hx => by
      have hk := (List.getElem?_eq_some_iff.1 hx).1
      have h0 : w5.ownsRow w3.heap.size 9 1 (.slice (some ⟨g5, 0, none⟩) n c5) n (L.map Value.string) := by
        have h := HROW.out
        unfold RowT at h
        rw [← HLN.out] at h
        exact h
      have h := World.ownsRow.cellAt h0 k (by have := HLN.out; omega)
      rw [h, List.getElem?_map, hx]; rfl)
    have HG5 := Lib.hid (show g5 < w5.heap.size from by
      obtain ⟨x0', hx0'⟩ : ∃ x, L[0]? = some x := ⟨_, List.getElem?_eq_getElem (by have := HLN.out; omega)⟩
      exact World.block_lt_of_cell? _ _ (HCELL.out 0 x0' hx0'))
    have hnb : n ≤ 20000 := by have h1 := preL_count L; have h2 := HPL.out; have := HLN.out; omega
    go_wp2_with fail
    go_loopw [8, 9, 73] (fun t x i wr => ∃ k : Nat, k ≤ j ∧ i = .int .i64 (k : Nat) ∧ t = .string ⟨⟨preL (L.take k)⟩⟩ ∧ x = .bool (txB L k) ∧ wr = w5) (fun _ _ i _ => j - (intOf i).toNat)
    case atStart => exact ⟨0, by omega, rfl, rfl, rfl, rfl⟩
    case round =>
      rename World => wr
      obtain ⟨k, hk, rfl, rfl, rfl, rfl⟩ := hrel
      obtain ⟨T, hT⟩ : ∃ T : ByteArray, T = ⟨⟨preL (L.take k)⟩⟩ := ⟨_, rfl⟩
      obtain ⟨tx, htx⟩ : ∃ t : Bool, t = txB L k := ⟨_, rfl⟩
      rw [← hT, ← htx]
      have HTX := Lib.hid htx
      have HTE := Lib.hid hT
      have hts : T.size ≤ 20000 := by rw [hT]; exact Nat.le_trans (preL_take_le L k) HPL.out
      clear hT htx
      by_cases hlt : k < j
      · obtain ⟨x, hx⟩ : ∃ x, L[k]? = some x := ⟨_, List.getElem?_eq_getElem (by have := HLN.out; omega)⟩
        have HXK := Lib.hid hx
        have c0 := HCELL.out k x hx
        have cl := HG5.out
        have hxs : x.size ≤ 20000 := by
          have h1 := preL_take_le L (k + 1)
          rw [take_more hx, preL_snoc] at h1
          simp only [List.length_append, List.length_cons, List.length_nil] at h1
          have h2 : x.data.toList.length = x.size := rfl
          have := HPL.out
          omega
        have HLT := Lib.hid hlt
        obtain ⟨bx, hbx⟩ : ∃ b : Bool, b = (x.toList == [9, 46, 116, 101, 120, 116]) := ⟨_, rfl⟩
        have dx : (x.toList == [9, 46, 116, 101, 120, 116]) = bx := hbx.symm
        have HNT := Lib.hid (show (⟨⟨preL (L.take (k + 1))⟩⟩ : ByteArray) = T ++ (x ++ ⟨#[10]⟩) by
          rw [take_more hx, preL_snoc, HTE.out, show (⟨#[10]⟩ : ByteArray) = ⟨⟨[10]⟩⟩ from rfl, app_lit, lit_app])
        have HNX := Lib.hid (show txB L (k + 1) = (tx || bx) by
          rw [txB_snoc hx, HTX.out, hbx, Lib.toList_data]; rfl)
        clear hx hbx
        cases tx with
        | true =>
          go_wp2_with fail
          go_roundw
          case rel => exact ⟨k + 1, by have := HLT.out; omega, by go_num, by first | rw [HNT.out] | simp [HNT.out], by first | (rw [HNX.out]; done) | (rw [HNX.out]; rfl) | simp [HNX.out], by first | rfl | trivial⟩
          case measure => have := HLT.out; simp [intOf]; omega
        | false =>
          cases bx with
          | true =>
            go_wp2_with fail
            go_roundw
            case rel => exact ⟨k + 1, by have := HLT.out; omega, by go_num, by first | rw [HNT.out] | simp [HNT.out], by first | (rw [HNX.out]; done) | (rw [HNX.out]; rfl) | simp [HNX.out], by first | rfl | trivial⟩
            case measure => have := HLT.out; simp [intOf]; omega
          | false =>
            go_wp2_with fail
            go_roundw
            case rel => exact ⟨k + 1, by have := HLT.out; omega, by go_num, by first | rw [HNT.out] | simp [HNT.out], by first | (rw [HNX.out]; done) | (rw [HNX.out]; rfl) | simp [HNX.out], by first | rfl | trivial⟩
            case measure => have := HLT.out; simp [intOf]; omega
      · have e : k = j := by omega
        subst e
        clear hlt
        have HK0 := Lib.hid (show 0 < k by have := HJ.out; omega)
        have HKN := Lib.hid (show k ≤ n by have := HJ.out; omega)
        obtain rfl : tx = false := by
          cases tx with
          | false => rfl
          | true => exact absurd ((part_tx (by have := HK0.out; omega) (by have := HLN.out; have := HKN.out; omega) HRUN.out).1 HTX.out.symm) hpt
        have dk0 : ((k : Int) == 0) = false := by have := HK0.out; simp; omega
        have dkn : ((k : Int) == (n : Int)) = true := by rw [HJ.out]; simp
        go_wp2_with fail
        obtain ⟨U, hU⟩ : ∃ U : ByteArray, U = T ++ ⟨#[9, 46, 116, 101, 120, 116, 10]⟩ := ⟨_, rfl⟩
        rw [← hU]
        have HT1 := Lib.hid (show U.data.toList = preL (L.take k) ++ (if txB L k then [] else teL ++ [10]) by rw [hU, ← HTX.out, HTE.out]; rfl)
        have HT1S := Lib.hid (show U.size ≤ 20007 by rw [hU, ByteArray.size_append]; exact Nat.add_le_add_right hts 7)
        clear hU hts
        refine (parse_text wr (HR.out.later HB5.out) (HG.out.below HB5.out) (U) (Nat.le_trans HT1S.out (by decide))).mono ?_
        rintro e w6 ⟨vd2, vc2, dvs2, cs2, fk2, fa2, rfl, hpar2, _, hrd2, _, hri2, kb⟩
        obtain rfl : fk2 = 0 := pre_ok (s := U) (by have := HK0.out; omega) (by have := HLN.out; have := HKN.out; omega) HL3.out HRUN.out HT1.out hpar2
        obtain ⟨Ad2, cd2, hvd⟩ := RowD.slice hrd2
        obtain ⟨nd2, hnd⟩ : ∃ z, z = dvs2.length := ⟨_, rfl⟩
        rw [← hnd] at hvd
        clear hnd
        subst hvd
        obtain ⟨Ac2, cc2, hvc⟩ := RowI.slice hri2
        obtain ⟨nc2, hnc⟩ : ∃ z, z = cs2.length := ⟨_, rfl⟩
        rw [← hnc] at hvc
        clear hnc
        subst hvc
        have HB6 := Lib.hid (HB5.out.bt kb)
        have HY6 := Lib.hid (blk_below HY5.out kb)
        have HCELL6 := Lib.hid (show ∀ k x, L[k]? = some x → w6.cell? ⟨g5, k, none⟩ = some (.string x) from fun k x hx => laterR (HCELL.out k x hx) kb)
        have HG6 := Lib.hid (show g5 < w6.heap.size from Nat.lt_of_lt_of_le HG5.out kb.size)
        clear hpar2 hrd2 hri2 kb y0 y1 yl x0 x1 xl
        obtain ⟨w7, hw7⟩ : ∃ z, z = (w6.alloc (.cells #[.slice Ad2 nd2 cd2, .slice Ac2 nc2 cc2] 34)).alloc (.cells #[.int .i64 0, .int .i64 fa2] 38) := ⟨_, rfl⟩
        have hb7 : Below w6.heap.size w6 w7 := by rw [hw7]; exact below_alloc _ (below_alloc _ (Below.refl _ _))
        have HZ7 := Lib.hid (show w7.heap[w6.heap.size + 1]? = some (.cells #[.int .i64 0, .int .i64 fa2] 38 (0, 0)) by rw [hw7]; have h := blk_new (w6.alloc (.cells #[.slice Ad2 nd2 cd2, .slice Ac2 nc2 cc2] 34)) (.cells #[.int .i64 0, .int .i64 fa2] 38); rw [World.size_alloc] at h; exact h)
        have HB7 := Lib.hid (HB6.out.bt hb7)
        have HY7 := Lib.hid (blk_below HY6.out hb7)
        have HCELL7 := Lib.hid (show ∀ k x, L[k]? = some x → w7.cell? ⟨g5, k, none⟩ = some (.string x) from fun k x hx => laterR (HCELL6.out k x hx) hb7)
        have HG7 := Lib.hid (show g5 < w7.heap.size from Nat.lt_of_lt_of_le HG6.out hb7.size)
        go_upto_region 28 with (fail)
        rw [← hw7]
        obtain ⟨g13, hg13⟩ : ∃ z, z = w6.heap.size + 1 := ⟨_, rfl⟩
        rw [← hg13] at HZ7
        rw [← hg13]
        clear hw7 hb7 hg13 HB6 HY6 HCELL6 HG6
        have z0 := blk_cell (i := 0) HZ7.out rfl
        have zl := blk_lt HZ7.out
        go_wp2_with fail
        go_returns
        exact ⟨rfl, HB7.out⟩
  · -- it was read
    have hlast : last = ⟨⟨[]⟩⟩ := by
      have : (L ++ [last])[L.length]? = some last := by simp
      rw [this] at hl0
      exact Option.some.inj hl0
    have hpre : s.data.toList = preL L := by rw [HL2.out, hlast]; simp
    have hLne : 0 < L.length := by omega
    have htk : (L ++ [last]).take L.length = L := by simp
    obtain ⟨ht, hdg, hcg, hlen⟩ := run_text L.length st hLne hrun
    obtain ⟨kd, kc, hct⟩ := good_prog hLne hrun hpt (by rw [htk]; exact HPL.out) (by have h1 := preL_count L; have h2 := HPL.out; omega)
    rw [htk, ← hpre] at hct
    have e1 : dvs.map (·.1) = st.ds := by have := congrArg XProgD.data hp; exact this
    have e2 : cs = st.cs := by have := congrArg XProgD.code hp; exact this
    have HPR := Lib.hid (print_any w3 (HG.out.below HB3.out) ((HR.out.later HB3.out).pw) ⟨st.ds, st.cs⟩ (.slice Ad nd cd) (.slice Ac nc cc) (by
      show SlR w3 4 (XDatumR w3) _ st.ds
      rw [← e1]
      exact rowD_SlR HRD.out HRU.out (by rw [e1]; exact hdg) (fun d hd => by
        rw [e1] at hd
        obtain ⟨i, hi, rfl⟩ := List.mem_iff_getElem.1 hd
        exact kd.dat (List.getElem?_eq_getElem hi))) (by
      show SlR w3 9 XItemR _ st.cs
      rw [← e2]
      exact rowI_SlR HRI.out (by rw [e2]; exact hcg)) kd kc)
    have HCT := Lib.hid (show (⟨⟨codT st.ds st.cs⟩⟩ : ByteArray) = s by rw [hct])
    rw [HCT.out] at HPR
    have dss : (s.toList == s.toList) = true := beq_self_eq_true _
    clear hl0 hm0 hrun hpt hp hlast hpre hLne htk ht hdg hcg hlen kd kc hct e1 e2 hfa
    go_wp2_with fail
    refine HPR.out.mono ?_
    rintro e w5 ⟨rfl, kb⟩
    have HB5 := Lib.hid (HB3.out.bt kb)
    clear kb
    go_wp2_with fail
    go_returns
    exact ⟨rfl, HB5.out⟩
end Go.Proofs.YtmmpkkpmlaiapaaGreatDoor
