/- read.conditional. No condition. -/
import Derived.Test.YtmmpkkpmlaiapaaGreatDoorRlR
import Derived.Test.YtmmpkkpmlaiapaaGreatDoorQd
namespace Go.Proofs.YtmmpkkpmlaiapaaGreatDoor
open Go.RowKit
set_option linter.unusedVariables false
set_option maxHeartbeats 4000000
set_option maxRecDepth 100000
def cd1 (s : List UInt8) : List UInt8 := 115 :: 101 :: 116 :: s
def cd2 (s : List UInt8) : List UInt8 := 99 :: 109 :: 111 :: 118 :: (s ++ [113])
def cd3 (s : List UInt8) : List UInt8 := 106 :: s
def cdS (c : Int) : List Opd → Option XInsD
  | [o] => some { insZ with op := 31, cond := c, dst := o.reg }
  | _ => none
def cdM (c : Int) : List Opd → Option XInsD
  | [o, q] => some { insZ with op := 32, cond := c, src := o.reg, dst := q.reg }
  | _ => none
def cdJ (c : Int) : List Opd → Option XInsD
  | [o] => some { insZ with op := 34, cond := c, to_ := ⟨⟨o.name⟩⟩ }
  | _ => none
def cdG (n : List UInt8) (l : List Opd) (j : Nat) : Option XInsD :=
  if n = cd1 (condF (j : Int)) ∧ kindsB l [1] = true then cdS j l else if n = cd2 (condF (j : Int)) ∧ kindsB l [1, 1] = true then cdM j l else if n = cd3 (condF (j : Int)) ∧ kindsB l [5] = true then cdJ j l else none
def condiF (n : List UInt8) (l : List Opd) : Option XInsD := firstF (cdG n l) 10
theorem condi_any (w : World) (hG : GsOk w) (name : ByteArray) (B : Nat) (v : Value) (l : List Opd) (hl : RowO w B v l) (hlen : l.length ≤ 100000000) :
    Calls Tryz.prog 48 #[.string name, v] w (BldO (condiF name.data.toList l) w) := by
  have HROW := Lib.hid hl
  have HLEN := Lib.hid hlen
  have HG := Lib.hid hG
  clear hl hlen hG
  obtain ⟨Av, cv, hv⟩ := HROW.out.slice
  obtain ⟨nv, hnv⟩ : ∃ z, z = l.length := ⟨_, rfl⟩
  have HNV := Lib.hid hnv
  rw [← hnv] at hv
  clear hnv
  have HX0 := Lib.hid (blk_new w (.cells (insV insZ).toArray 23))
  have HB0 := Lib.hid (below_alloc (.cells (insV insZ).toArray 23) (Below.refl w.heap.size w))
  subst hv
  go_enter Tryz.func48, Tryz.ntmps48
  go_upto_region 1 with (fail)
  obtain ⟨w1, hw1⟩ : ∃ z, z = w.alloc (.cells (insV insZ).toArray 23) := ⟨_, rfl⟩
  change Code.wp _ _ _ _ (w.alloc (.cells (insV insZ).toArray 23))
  obtain ⟨g, hg⟩ : ∃ z, z = w.heap.size := ⟨_, rfl⟩
  have HGE := Lib.hid (show w.heap.size ≤ g by rw [hg]; exact Nat.le_refl _)
  rw [← hw1] at HX0 HB0 ⊢
  rw [← hg] at HX0 ⊢
  clear hw1 hg
  go_wp2_with fail
  go_loopw [6] (fun i wr => ∃ (j : Nat), j ≤ 10 ∧ i = .int .i64 (j : Nat) ∧ firstF (cdG name.data.toList l) j = none ∧ wr.heap[g]? = some (.cells (insV insZ).toArray 23 (0, 0)) ∧ Below w.heap.size w wr) (fun i _ => 10 - (intOf i).toNat)
  case atStart => exact ⟨0, by omega, rfl, rfl, HX0.out, HB0.out⟩
  case round =>
    rename World => wr
    obtain ⟨j, hj, rfl, hf, hx, hb⟩ := hrel
    have HF := Lib.hid hf
    have HX := Lib.hid hx
    have HB := Lib.hid hb
    clear hf hx hb HX0 HB0
    by_cases hlt : j < 10
    · have HLT := Lib.hid hlt
      have d9 : decide ((j : Int) ≤ 9) = true := decide_eq_true (by omega)
      go_wp2_with fail
      refine (cond_all wr (HG.out.below HB.out) (j : Int)).mono ?_
      obtain ⟨s, hs⟩ : ∃ s : ByteArray, s = ⟨⟨condF (j : Int)⟩⟩ := ⟨_, rfl⟩
      rw [← hs]
      have HS := Lib.hid (show s.data.toList = condF (j : Int) by rw [hs])
      have hsz : s.size ≤ 2 := by rw [hs]; exact cond_len _
      clear hs
      rintro e w1 ⟨rfl, hb2⟩
      have HB1 := Lib.hid (HB.out.trans (hb2.mono HB.out.size))
      have HX1 := Lib.hid (blk_below HX.out hb2)
      clear hb2 HB HX d9
      by_cases h1 : name.data.toList = cd1 (condF (j : Int))
      · skip
        have H1 := Lib.hid h1
        have N2 := Lib.hid (show name.data.toList ≠ cd2 (condF (j : Int)) by rw [h1]; simp [cd1, cd2])
        have N3 := Lib.hid (show name.data.toList ≠ cd3 (condF (j : Int)) by rw [h1]; simp [cd1, cd3])
        clear h1
        have d1 : (name.toList == (⟨#[115, 101, 116]⟩ ++ s : ByteArray).toList) = true := by rw [Lib.toList_data, Lib.toList_data, H1.out, ← HS.out]; simp [cd1, cd2, cd3]
        have d2 : (name.toList == (⟨#[99, 109, 111, 118]⟩ ++ s ++ ⟨#[113]⟩ : ByteArray).toList) = false := by rw [Lib.toList_data, Lib.toList_data]; exact beq_eq_false_iff_ne.2 (fun h => N2.out (by rw [h, ← HS.out]; simp [cd1, cd2, cd3]))
        have d3 : (name.toList == (⟨#[106]⟩ ++ s : ByteArray).toList) = false := by rw [Lib.toList_data, Lib.toList_data]; exact beq_eq_false_iff_ne.2 (fun h => N3.out (by rw [h, ← HS.out]; simp [cd1, cd2, cd3]))
        have hb1 := below_alloc (.cells #[.int .i64 1] 3) (Below.refl w1.heap.size w1)
        have HBa := Lib.hid (HB1.out.trans (hb1.mono HB1.out.size))
        have HXa := Lib.hid (blk_below HX1.out hb1)
        clear hb1
        go_wp2_with fail
        refine (kinds_any _ B (.slice Av nv cv) l (own_below HROW.out HBa.out) HLEN.out [1] (by decide) w1.heap.size 1 #[.int .i64 1] rfl rfl (blk_new w1 _)).mono ?_
        rintro e w2 ⟨rfl, hb2⟩
        have HB2 := Lib.hid (HBa.out.trans (hb2.mono HBa.out.size))
        have HX2 := Lib.hid (blk_below HXa.out hb2)
        clear hb2
        cases hk : kindsB l [1] with
        | true =>
          obtain ⟨o, rfl, hok⟩ := kinds_one hk
          have HOK := Lib.hid hok
          clear hok
          obtain rfl : nv = 1 := HNV.out
          obtain ⟨gl, rfl, hcell⟩ := RowO.cells (own_below HROW.out HB2.out) rfl (i := 0) rfl
          have r1 : w2.cell? ⟨gl, 1, none⟩ = some (.int .i64 o.reg) := hcell 1 (by decide)
          have rl := World.block_lt_of_cell? _ _ r1
          clear hcell
          go_wp2_with (refine wsx g rfl rfl rfl rfl HX2 (by kernel_rfl) ?_; intro x7 k7 hb7 hz7 ho7; obtain ⟨q0, q1, q2, q3, q4, q5, q6, q7⟩ := cq k7)
          refine bodyPost_ret (by simp [results, Tryz.results48, go_sem, q0, q1, q2, q3, q4, q5, q6, q7]; try rfl) rfl ?_
          have h1 : cdG name.data.toList [o] j = some { insZ with op := 31, cond := (j : Int), dst := o.reg } := by unfold cdG; rw [if_pos ⟨H1.out, hk⟩]; rfl
          have hf : condiF name.data.toList [o] = some { insZ with op := 31, cond := (j : Int), dst := o.reg } := firstF_hit HF.out h1 HLT.out
          exact ⟨_, true, rfl, (fun y hy => by rw [hf] at hy; cases hy; exact ⟨rfl, rfl⟩), (fun h => by rw [hf] at h; cases h), hb7 _ _ HGE.out (by first | exact HB2.out | exact Below.drew HB2.out)⟩
        | false =>
          have HK := Lib.hid hk
          clear hk
          go_wp2_with fail
          go_roundw
          case rel => exact ⟨j + 1, by have := HLT.out; omega, by go_num, firstF_next HF.out (by unfold cdG; rw [if_neg (fun h => by have h2 := h.2; rw [HK.out] at h2; cases h2), if_neg (fun h => N2.out h.1), if_neg (fun h => N3.out h.1)]), HX2.out, by first | exact HB2.out | exact Below.drew HB2.out⟩
          case measure => have := HLT.out; simp [intOf]; omega
      by_cases h2 : name.data.toList = cd2 (condF (j : Int))
      · skip
        have H2 := Lib.hid h2
        have N1 := Lib.hid h1
        have N3 := Lib.hid (show name.data.toList ≠ cd3 (condF (j : Int)) by rw [h2]; simp [cd2, cd3])
        clear h1 h2
        have d1 : (name.toList == (⟨#[115, 101, 116]⟩ ++ s : ByteArray).toList) = false := by rw [Lib.toList_data, Lib.toList_data]; exact beq_eq_false_iff_ne.2 (fun h => N1.out (by rw [h, ← HS.out]; simp [cd1, cd2, cd3]))
        have d2 : (name.toList == (⟨#[99, 109, 111, 118]⟩ ++ s ++ ⟨#[113]⟩ : ByteArray).toList) = true := by rw [Lib.toList_data, Lib.toList_data, H2.out, ← HS.out]; simp [cd1, cd2, cd3]
        have d3 : (name.toList == (⟨#[106]⟩ ++ s : ByteArray).toList) = false := by rw [Lib.toList_data, Lib.toList_data]; exact beq_eq_false_iff_ne.2 (fun h => N3.out (by rw [h, ← HS.out]; simp [cd1, cd2, cd3]))
        have hb1 := below_alloc (.cells #[.int .i64 1, .int .i64 1] 3) (Below.refl w1.heap.size w1)
        have HBa := Lib.hid (HB1.out.trans (hb1.mono HB1.out.size))
        have HXa := Lib.hid (blk_below HX1.out hb1)
        clear hb1
        go_wp2_with fail
        refine (kinds_any _ B (.slice Av nv cv) l (own_below HROW.out HBa.out) HLEN.out [1, 1] (by decide) w1.heap.size 2 #[.int .i64 1, .int .i64 1] rfl rfl (blk_new w1 _)).mono ?_
        rintro e w2 ⟨rfl, hb2⟩
        have HB2 := Lib.hid (HBa.out.trans (hb2.mono HBa.out.size))
        have HX2 := Lib.hid (blk_below HXa.out hb2)
        clear hb2
        cases hk : kindsB l [1, 1] with
        | true =>
          obtain ⟨o, q, rfl, hok, hqk⟩ := kinds_two hk
          have HOK := Lib.hid hok
          have HQK := Lib.hid hqk
          clear hok hqk
          obtain rfl : nv = 2 := HNV.out
          obtain ⟨gl, rfl, hcell⟩ := RowO.cells (own_below HROW.out HB2.out) rfl (i := 0) rfl
          obtain ⟨gl2, e2, hcell2⟩ := RowO.cells (own_below HROW.out HB2.out) rfl (i := 1) rfl
          cases e2
          have r1 : w2.cell? ⟨gl, 1, none⟩ = some (.int .i64 o.reg) := hcell 1 (by decide)
          have r6 : w2.cell? ⟨gl, 6, none⟩ = some (.int .i64 q.reg) := hcell2 1 (by decide)
          have rl := World.block_lt_of_cell? _ _ r1
          clear hcell hcell2
          go_upto_region 8 with (fail)
          refine upto_begin 10 (fun w' => w'.cell? ⟨gl, 1, none⟩ = some (.int .i64 o.reg) ∧ w'.cell? ⟨gl, 6, none⟩ = some (.int .i64 q.reg)) (by kernel_rfl) ?_ (fun hU0 => ?_)
          · exact ⟨r1, r6⟩
          refine ur 0 (v := ?_) hU0 rfl (by kernel_rfl) (fun _ _ _ h => h) rfl ?_ ?_
          rotate_left
          focus intro w _; go_simp; first | done | with_reducible rfl
          try simp only [Act.put, List.setIfInBounds_toArray, List.set_cons_zero, List.set_cons_succ]
          refine ur 1 (v := ?_) hU0 rfl (by kernel_rfl) (fun _ _ _ h => h) rfl ?_ ?_
          rotate_left
          focus intro w _; go_simp; first | done | with_reducible rfl
          try simp only [Act.put, List.setIfInBounds_toArray, List.set_cons_zero, List.set_cons_succ]
          refine ur 2 (v := ?_) hU0 rfl (by kernel_rfl) (fun _ _ _ h => h) rfl ?_ ?_
          rotate_left
          focus intro w _; go_simp; first | done | with_reducible rfl
          try simp only [Act.put, List.setIfInBounds_toArray, List.set_cons_zero, List.set_cons_succ]
          refine ur 3 (v := ?_) hU0 rfl (by kernel_rfl) (fun _ _ _ h => h) rfl ?_ ?_
          rotate_left
          focus intro w _; go_simp; first | done | with_reducible rfl
          try simp only [Act.put, List.setIfInBounds_toArray, List.set_cons_zero, List.set_cons_succ]
          refine urd 4 (v := ?_) hU0 rfl (by kernel_rfl) (fun _ _ _ h => h) rfl ?_ ?_
          rotate_left
          focus intro w hSw; (try dsimp only at hSw); go_simp; first | done | with_reducible rfl
          try simp only [Act.put, List.setIfInBounds_toArray, List.set_cons_zero, List.set_cons_succ]
          refine ur 5 (v := ?_) hU0 rfl (by kernel_rfl) (fun _ _ _ h => h) rfl ?_ ?_
          rotate_left
          focus intro w _; go_simp; first | done | with_reducible rfl
          try simp only [Act.put, List.setIfInBounds_toArray, List.set_cons_zero, List.set_cons_succ]
          refine ur 6 (v := ?_) hU0 rfl (by kernel_rfl) (fun _ _ _ h => h) rfl ?_ ?_
          rotate_left
          focus intro w _; go_simp; first | done | with_reducible rfl
          try simp only [Act.put, List.setIfInBounds_toArray, List.set_cons_zero, List.set_cons_succ]
          refine ur 7 (v := ?_) hU0 rfl (by kernel_rfl) (fun _ _ _ h => h) rfl ?_ ?_
          rotate_left
          focus intro w _; go_simp; first | done | with_reducible rfl
          try simp only [Act.put, List.setIfInBounds_toArray, List.set_cons_zero, List.set_cons_succ]
          refine urd 8 (v := ?_) hU0 rfl (by kernel_rfl) (fun _ _ _ h => h) rfl ?_ ?_
          rotate_left
          focus intro w hSw; (try dsimp only at hSw); go_simp; first | done | with_reducible rfl
          try simp only [Act.put, List.setIfInBounds_toArray, List.set_cons_zero, List.set_cons_succ]
          refine ur 9 (v := ?_) hU0 rfl (by kernel_rfl) (fun _ _ _ h => h) rfl ?_ ?_
          rotate_left
          focus intro w _; go_simp; first | done | with_reducible rfl
          try simp only [Act.put, List.setIfInBounds_toArray, List.set_cons_zero, List.set_cons_succ]
          refine upto_next 10 rfl (by kernel_rfl) (fun K hK => ?_)
          refine step_store_blk rfl 23 _ _ rfl g rfl rfl HX2.out rfl (by kernel_rfl) (by kernel_rfl) ?_
          intro x7 k7 hb7 hz7 ho7
          obtain ⟨q0, q1, q2, q3, q4, q5, q6, q7⟩ := cq k7
          try go_simp
          first | refine hK.out _ _ ?_ fun hU1 => ?_ | (go_wp2_with fail; refine hK.out _ _ ?_ fun hU1 => ?_)
          · exact Or.inl (by kernel_rfl)
          clear hK K
          clear hU0
          try simp only [Act.put, List.setIfInBounds_toArray, List.set_cons_zero, List.set_cons_succ]
          refine ur 11 (v := ?_) hU1 rfl (by kernel_rfl) (fun _ _ _ h => h) rfl ?_ ?_
          rotate_left
          focus intro w _; go_simp; first | done | with_reducible rfl
          try simp only [Act.put, List.setIfInBounds_toArray, List.set_cons_zero, List.set_cons_succ]
          refine upto_done (by kernel_rfl) ?_ _
          clear r1 r6 rl
          go_wp2_with fail
          refine bodyPost_ret (by simp [results, Tryz.results48, go_sem, q0, q1, q2, q3, q4, q5, q6, q7]; try rfl) rfl ?_
          have h1 : cdG name.data.toList [o, q] j = some { insZ with op := 32, cond := (j : Int), src := o.reg, dst := q.reg } := by unfold cdG; rw [if_neg (fun h => N1.out h.1), if_pos ⟨H2.out, hk⟩]; rfl
          have hf : condiF name.data.toList [o, q] = some { insZ with op := 32, cond := (j : Int), src := o.reg, dst := q.reg } := firstF_hit HF.out h1 HLT.out
          exact ⟨_, true, rfl, (fun y hy => by rw [hf] at hy; cases hy; exact ⟨rfl, rfl⟩), (fun h => by rw [hf] at h; cases h), hb7 _ _ HGE.out (by first | exact HB2.out | exact Below.drew HB2.out)⟩
        | false =>
          have HK := Lib.hid hk
          clear hk
          go_wp2_with fail
          go_roundw
          case rel => exact ⟨j + 1, by have := HLT.out; omega, by go_num, firstF_next HF.out (by unfold cdG; rw [if_neg (fun h => N1.out h.1), if_neg (fun h => by have h2 := h.2; rw [HK.out] at h2; cases h2), if_neg (fun h => N3.out h.1)]), HX2.out, by first | exact HB2.out | exact Below.drew HB2.out⟩
          case measure => have := HLT.out; simp [intOf]; omega
      by_cases h3 : name.data.toList = cd3 (condF (j : Int))
      · skip
        have H3 := Lib.hid h3
        have N1 := Lib.hid h1
        have N2 := Lib.hid h2
        clear h1 h2 h3
        have d1 : (name.toList == (⟨#[115, 101, 116]⟩ ++ s : ByteArray).toList) = false := by rw [Lib.toList_data, Lib.toList_data]; exact beq_eq_false_iff_ne.2 (fun h => N1.out (by rw [h, ← HS.out]; simp [cd1, cd2, cd3]))
        have d2 : (name.toList == (⟨#[99, 109, 111, 118]⟩ ++ s ++ ⟨#[113]⟩ : ByteArray).toList) = false := by rw [Lib.toList_data, Lib.toList_data]; exact beq_eq_false_iff_ne.2 (fun h => N2.out (by rw [h, ← HS.out]; simp [cd1, cd2, cd3]))
        have d3 : (name.toList == (⟨#[106]⟩ ++ s : ByteArray).toList) = true := by rw [Lib.toList_data, Lib.toList_data, H3.out, ← HS.out]; simp [cd1, cd2, cd3]
        have hb1 := below_alloc (.cells #[.int .i64 5] 3) (Below.refl w1.heap.size w1)
        have HBa := Lib.hid (HB1.out.trans (hb1.mono HB1.out.size))
        have HXa := Lib.hid (blk_below HX1.out hb1)
        clear hb1
        go_wp2_with fail
        refine (kinds_any _ B (.slice Av nv cv) l (own_below HROW.out HBa.out) HLEN.out [5] (by decide) w1.heap.size 1 #[.int .i64 5] rfl rfl (blk_new w1 _)).mono ?_
        rintro e w2 ⟨rfl, hb2⟩
        have HB2 := Lib.hid (HBa.out.trans (hb2.mono HBa.out.size))
        have HX2 := Lib.hid (blk_below HXa.out hb2)
        clear hb2
        cases hk : kindsB l [5] with
        | true =>
          obtain ⟨o, rfl, hok⟩ := kinds_one hk
          have HOK := Lib.hid hok
          clear hok
          obtain rfl : nv = 1 := HNV.out
          obtain ⟨gl, rfl, hcell⟩ := RowO.cells (own_below HROW.out HB2.out) rfl (i := 0) rfl
          have r1 : w2.cell? ⟨gl, 4, none⟩ = some (.string ⟨⟨o.name⟩⟩) := hcell 4 (by decide)
          have rl := World.block_lt_of_cell? _ _ r1
          clear hcell
          go_wp2_with (refine wsx g rfl rfl rfl rfl HX2 (by kernel_rfl) ?_; intro x7 k7 hb7 hz7 ho7; obtain ⟨q0, q1, q2, q3, q4, q5, q6, q7⟩ := cq k7)
          refine bodyPost_ret (by simp [results, Tryz.results48, go_sem, q0, q1, q2, q3, q4, q5, q6, q7]; try rfl) rfl ?_
          have h1 : cdG name.data.toList [o] j = some { insZ with op := 34, cond := (j : Int), to_ := ⟨⟨o.name⟩⟩ } := by unfold cdG; rw [if_neg (fun h => N1.out h.1), if_neg (fun h => N2.out h.1), if_pos ⟨H3.out, hk⟩]; rfl
          have hf : condiF name.data.toList [o] = some { insZ with op := 34, cond := (j : Int), to_ := ⟨⟨o.name⟩⟩ } := firstF_hit HF.out h1 HLT.out
          exact ⟨_, true, rfl, (fun y hy => by rw [hf] at hy; cases hy; exact ⟨rfl, rfl⟩), (fun h => by rw [hf] at h; cases h), hb7 _ _ HGE.out (by first | exact HB2.out | exact Below.drew HB2.out)⟩
        | false =>
          have HK := Lib.hid hk
          clear hk
          go_wp2_with fail
          go_roundw
          case rel => exact ⟨j + 1, by have := HLT.out; omega, by go_num, firstF_next HF.out (by unfold cdG; rw [if_neg (fun h => N1.out h.1), if_neg (fun h => N2.out h.1), if_neg (fun h => by have h2 := h.2; rw [HK.out] at h2; cases h2)]), HX2.out, by first | exact HB2.out | exact Below.drew HB2.out⟩
          case measure => have := HLT.out; simp [intOf]; omega
      have N1 := Lib.hid h1
      have N2 := Lib.hid h2
      have N3 := Lib.hid h3
      clear h1 h2 h3
      have d1 : (name.toList == (⟨#[115, 101, 116]⟩ ++ s : ByteArray).toList) = false := by rw [Lib.toList_data, Lib.toList_data]; exact beq_eq_false_iff_ne.2 (fun h => N1.out (by rw [h, ← HS.out]; simp [cd1, cd2, cd3]))
      have d2 : (name.toList == (⟨#[99, 109, 111, 118]⟩ ++ s ++ ⟨#[113]⟩ : ByteArray).toList) = false := by rw [Lib.toList_data, Lib.toList_data]; exact beq_eq_false_iff_ne.2 (fun h => N2.out (by rw [h, ← HS.out]; simp [cd1, cd2, cd3]))
      have d3 : (name.toList == (⟨#[106]⟩ ++ s : ByteArray).toList) = false := by rw [Lib.toList_data, Lib.toList_data]; exact beq_eq_false_iff_ne.2 (fun h => N3.out (by rw [h, ← HS.out]; simp [cd1, cd2, cd3]))
      go_wp2_with fail
      go_roundw
      case rel => exact ⟨j + 1, by have := HLT.out; omega, by go_num, firstF_next HF.out (by unfold cdG; rw [if_neg (fun h => N1.out h.1), if_neg (fun h => N2.out h.1), if_neg (fun h => N3.out h.1)]), HX1.out, by first | exact HB1.out | exact Below.drew HB1.out⟩
      case measure => have := HLT.out; simp [intOf]; omega
    · have e : j = 10 := by omega
      subst e
      clear hlt hj
      go_wp2_with (refine wsx g rfl rfl rfl rfl HX (by kernel_rfl) ?_; intro x7 k7 hb7 hz7 ho7; obtain ⟨q0, q1, q2, q3, q4, q5, q6, q7⟩ := cq k7)
      refine bodyPost_ret (by simp [results, Tryz.results48, go_sem, q0, q1, q2, q3, q4, q5, q6, q7]; try rfl) rfl ?_
      have hf : condiF name.data.toList l = none := HF.out
      exact ⟨insZ, false, rfl, (fun y hy => by rw [hf] at hy; cases hy), fun _ => rfl, hb7 _ _ HGE.out HB.out⟩
end Go.Proofs.YtmmpkkpmlaiapaaGreatDoor
