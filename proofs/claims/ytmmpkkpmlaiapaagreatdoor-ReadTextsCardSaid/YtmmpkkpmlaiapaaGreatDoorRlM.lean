/- read.move. No condition. -/
import Derived.Test.YtmmpkkpmlaiapaaGreatDoorQe
import Derived.Test.YtmmpkkpmlaiapaaGreatDoorHu
import Derived.Deep.Cut
import Derived.Deep.CutRange
import Derived.Deep.DeepCutAuto
namespace Go.Proofs.YtmmpkkpmlaiapaaGreatDoor
open Go.RowKit
set_option linter.unusedVariables false
set_option maxHeartbeats 4000000
set_option maxRecDepth 100000
def mvS (n : List UInt8) : Int × Bool :=
  if n = [109, 111, 118, 115, 98, 113] then (1, true) else if n = [109, 111, 118, 122, 98, 113] then (1, false) else if n = [109, 111, 118, 115, 119, 113] then (2, true) else if n = [109, 111, 118, 122, 119, 113] then (2, false)
  else if n = [109, 111, 118, 115, 108, 113] then (4, true) else if n = [109, 111, 118, 108] then (4, false) else if n = [109, 111, 118, 119] then (2, false) else if n = [109, 111, 118, 98] then (1, false) else (8, false)
theorem nm_eq {name : ByteArray} {l : List UInt8} (h : name.data.toList = l) : name = ⟨⟨l⟩⟩ := by
  subst h; rfl
theorem kinds_two {l : List Opd} {k m : Int} (h : kindsB l [k, m] = true) : ∃ o q, l = [o, q] ∧ o.kind = k ∧ q.kind = m := by
  unfold kindsB at h
  have h := of_decide_eq_true h
  match l, h with
  | [o, q], h => exact ⟨o, q, rfl, by simpa using (List.cons.inj h).1, by simpa using (List.cons.inj (List.cons.inj h).2).1⟩
def move2 (sz : Int) (sg : Bool) (o q : Opd) : Option XInsD :=
  if o.kind = 3 ∧ q.kind = 1 then some { insZ with op := 3, dst := q.reg, src := o.reg, imm := o.num, size := sz, signed := sg }
  else if o.kind = 1 ∧ q.kind = 3 then some { insZ with op := 4, dst := q.reg, src := o.reg, imm := q.num, size := sz }
  else if o.kind = 2 ∧ q.kind = 1 then some { insZ with op := 2, dst := q.reg, imm := o.num }
  else if o.kind = 1 ∧ q.kind = 1 then (if sz = 8 then some { insZ with op := 1, dst := q.reg, src := o.reg } else some { insZ with op := 30, dst := q.reg, src := o.reg, size := sz, signed := sg })
  else none
def rmoveF (sz : Int) (sg : Bool) : List Opd → Option XInsD
  | [o, q] => move2 sz sg o q
  | _ => none
theorem kinds_not {o q : Opd} {a b : Int} (h : kindsB [o, q] [a, b] = false) : ¬ (o.kind = a ∧ q.kind = b) := fun hh => by
  have h1 := of_decide_eq_false h
  exact h1 (by simp [hh.1, hh.2])
theorem move_none {sz : Int} {sg : Bool} {l : List Opd} (h1 : kindsB l [3, 1] = false) (h2 : kindsB l [1, 3] = false) (h3 : kindsB l [2, 1] = false) (h4 : kindsB l [1, 1] = false) : rmoveF sz sg l = none := by
  match l, h1, h2, h3, h4 with
  | [], _, _, _, _ => rfl
  | [o], _, _, _, _ => rfl
  | [o, q], h1, h2, h3, h4 =>
    show move2 sz sg o q = none
    unfold move2
    rw [if_neg (kinds_not h1), if_neg (kinds_not h2), if_neg (kinds_not h3), if_neg (kinds_not h4)]
  | o :: q :: r :: s, _, _, _, _ => rfl
theorem move_any (w : World) (name : ByteArray) (B : Nat) (v : Value) (l : List Opd) (hl : RowO w B v l) (hlen : l.length ≤ 100000000) :
    Calls Tryz.prog 46 #[.string name, v] w (BldO (rmoveF (mvS name.data.toList).1 (mvS name.data.toList).2 l) w) := by
  have HROW := Lib.hid hl
  have HLEN := Lib.hid hlen
  clear hl hlen
  obtain ⟨Av, cv, hv⟩ := HROW.out.slice
  obtain ⟨nv, hnv⟩ : ∃ z, z = l.length := ⟨_, rfl⟩
  have HNV := Lib.hid hnv
  rw [← hnv] at hv
  clear hnv
  have HX0 := Lib.hid (blk_new w (.cells #[.int .i64 0, .int .i64 0, .int .i64 0, .int .i64 0, .int .i64 0, .bool false, .int .i64 0, .string ⟨#[]⟩] 23))
  have HB0 := Lib.hid (below_alloc (.cells #[.int .i64 0, .int .i64 0, .int .i64 0, .int .i64 0, .int .i64 0, .bool false, .int .i64 0, .string ⟨#[]⟩] 23) (Below.refl w.heap.size w))
  subst hv
  go_enter Tryz.func46, Tryz.ntmps46
  go_upto_region 2 with (fail)
  obtain ⟨w1, hw1⟩ : ∃ z, z = w.alloc (.cells #[.int .i64 0, .int .i64 0, .int .i64 0, .int .i64 0, .int .i64 0, .bool false, .int .i64 0, .string ⟨#[]⟩] 23) := ⟨_, rfl⟩
  obtain ⟨g, hg⟩ : ∃ z, z = w.heap.size := ⟨_, rfl⟩
  have HGE := Lib.hid (show w.heap.size ≤ g by rw [hg]; exact Nat.le_refl _)
  rw [← hw1] at HX0 HB0 ⊢
  rw [← hg] at HX0 ⊢
  clear hw1 hg
  obtain ⟨sz, hsz⟩ : ∃ z, z = (mvS name.data.toList).1 := ⟨_, rfl⟩
  obtain ⟨sg, hsg⟩ : ∃ z, z = (mvS name.data.toList).2 := ⟨_, rfl⟩
  rw [← hsz, ← hsg]
  have HSZ := Lib.hid hsz
  have HSG := Lib.hid hsg
  clear hsz hsg
  go_upto_block 0 with (fail)
  go_cut [6, 7] (fun x y wx => x = .int .i64 sz ∧ y = .bool sg ∧ wx = w1)
  case first =>
    by_cases h0 : name.data.toList = [109, 111, 118, 115, 98, 113]
    · obtain rfl := nm_eq h0
      go_wp2_with fail
      go_meet
      exact ⟨by rw [HSZ.out]; rfl, by rw [HSG.out]; rfl, rfl⟩
    have d0 : (name.toList == [109, 111, 118, 115, 98, 113]) = false := by rw [Lib.toList_data]; exact beq_eq_false_iff_ne.2 h0
    by_cases h1 : name.data.toList = [109, 111, 118, 122, 98, 113]
    · obtain rfl := nm_eq h1
      go_wp2_with fail
      go_meet
      exact ⟨by rw [HSZ.out]; rfl, by rw [HSG.out]; rfl, rfl⟩
    have d1 : (name.toList == [109, 111, 118, 122, 98, 113]) = false := by rw [Lib.toList_data]; exact beq_eq_false_iff_ne.2 h1
    by_cases h2 : name.data.toList = [109, 111, 118, 115, 119, 113]
    · obtain rfl := nm_eq h2
      go_wp2_with fail
      go_meet
      exact ⟨by rw [HSZ.out]; rfl, by rw [HSG.out]; rfl, rfl⟩
    have d2 : (name.toList == [109, 111, 118, 115, 119, 113]) = false := by rw [Lib.toList_data]; exact beq_eq_false_iff_ne.2 h2
    by_cases h3 : name.data.toList = [109, 111, 118, 122, 119, 113]
    · obtain rfl := nm_eq h3
      go_wp2_with fail
      go_meet
      exact ⟨by rw [HSZ.out]; rfl, by rw [HSG.out]; rfl, rfl⟩
    have d3 : (name.toList == [109, 111, 118, 122, 119, 113]) = false := by rw [Lib.toList_data]; exact beq_eq_false_iff_ne.2 h3
    by_cases h4 : name.data.toList = [109, 111, 118, 115, 108, 113]
    · obtain rfl := nm_eq h4
      go_wp2_with fail
      go_meet
      exact ⟨by rw [HSZ.out]; rfl, by rw [HSG.out]; rfl, rfl⟩
    have d4 : (name.toList == [109, 111, 118, 115, 108, 113]) = false := by rw [Lib.toList_data]; exact beq_eq_false_iff_ne.2 h4
    by_cases h5 : name.data.toList = [109, 111, 118, 108]
    · obtain rfl := nm_eq h5
      go_wp2_with fail
      go_meet
      exact ⟨by rw [HSZ.out]; rfl, by rw [HSG.out]; rfl, rfl⟩
    have d5 : (name.toList == [109, 111, 118, 108]) = false := by rw [Lib.toList_data]; exact beq_eq_false_iff_ne.2 h5
    by_cases h6 : name.data.toList = [109, 111, 118, 119]
    · obtain rfl := nm_eq h6
      go_wp2_with fail
      go_meet
      exact ⟨by rw [HSZ.out]; rfl, by rw [HSG.out]; rfl, rfl⟩
    have d6 : (name.toList == [109, 111, 118, 119]) = false := by rw [Lib.toList_data]; exact beq_eq_false_iff_ne.2 h6
    by_cases h7 : name.data.toList = [109, 111, 118, 98]
    · obtain rfl := nm_eq h7
      go_wp2_with fail
      go_meet
      exact ⟨by rw [HSZ.out]; rfl, by rw [HSG.out]; rfl, rfl⟩
    have d7 : (name.toList == [109, 111, 118, 98]) = false := by rw [Lib.toList_data]; exact beq_eq_false_iff_ne.2 h7
    have e1 : mvS name.data.toList = (8, false) := by unfold mvS; rw [if_neg h0, if_neg h1, if_neg h2, if_neg h3, if_neg h4, if_neg h5, if_neg h6, if_neg h7]
    have HE := Lib.hid e1
    clear e1 h0 h1 h2 h3 h4 h5 h6 h7
    go_wp2_with fail
    go_meet
    exact ⟨by rw [HSZ.out, HE.out], by rw [HSG.out, HE.out], rfl⟩
  case rest =>
    obtain ⟨hc1, hc2, hw⟩ := hcut
    subst hc1 hc2 hw
    have hb1 := below_alloc (.cells #[.int .i64 3, .int .i64 1] 3) (Below.refl wc.heap.size wc)
    have HBa := Lib.hid (HB0.out.trans (hb1.mono HB0.out.size))
    have HXa := Lib.hid (blk_below HX0.out hb1)
    clear hb1
    go_wp2_with fail
    refine (kinds_any _ B (.slice Av nv cv) l (own_below HROW.out HBa.out) HLEN.out [3, 1] (by decide) wc.heap.size 2 #[.int .i64 3, .int .i64 1] rfl rfl (blk_new wc _)).mono ?_
    rintro e w2 ⟨rfl, hb2⟩
    have HB2 := Lib.hid (HBa.out.trans (hb2.mono HBa.out.size))
    have HX2 := Lib.hid (blk_below HXa.out hb2)
    clear hb2
    cases hk : kindsB l [3, 1] with
    | true =>
      obtain ⟨o, q, rfl, hok, hqk⟩ := kinds_two hk
      have HOK := Lib.hid hok
      have HQK := Lib.hid hqk
      clear hok hqk hk
      obtain rfl : nv = 2 := HNV.out
      obtain ⟨gl, rfl, hcell⟩ := RowO.cells (own_below HROW.out HB2.out) rfl (i := 0) rfl
      obtain ⟨gl2, e2, hcell2⟩ := RowO.cells (own_below HROW.out HB2.out) rfl (i := 1) rfl
      cases e2
      have r1 : w2.cell? ⟨gl, 1, none⟩ = some (.int .i64 o.reg) := hcell 1 (by decide)
      have r3 : w2.cell? ⟨gl, 3, none⟩ = some (.int .i64 o.num) := hcell 3 (by decide)
      have r6 : w2.cell? ⟨gl, 6, none⟩ = some (.int .i64 q.reg) := hcell2 1 (by decide)
      have r8 : w2.cell? ⟨gl, 8, none⟩ = some (.int .i64 q.num) := hcell2 3 (by decide)
      have rl := World.block_lt_of_cell? _ _ r1
      clear hcell hcell2
      go_upto_region 20 with (fail)
      refine upto_begin 15 (fun w' => w'.cell? ⟨gl, 1, none⟩ = some (.int .i64 o.reg) ∧ w'.cell? ⟨gl, 3, none⟩ = some (.int .i64 o.num) ∧ w'.cell? ⟨gl, 6, none⟩ = some (.int .i64 q.reg) ∧ w'.cell? ⟨gl, 8, none⟩ = some (.int .i64 q.num)) (by kernel_rfl) ?_ (fun hU0 => ?_)
      · exact ⟨r1, r3, r6, r8⟩
      refine ur 0 (v := ?_) hU0 rfl (by kernel_rfl) (fun _ _ _ h => h) rfl ?_ ?_
      rotate_left
      focus intro w _; go_simp; first | done | with_reducible rfl
      try simp only [Act.put, List.setIfInBounds_toArray, List.set_cons_zero, List.set_cons_succ]
      refine ur 1 (v := ?_) hU0 rfl (by kernel_rfl) (fun _ _ _ h => h) rfl ?_ ?_
      rotate_left
      focus intro w _; go_simp; first | done | with_reducible rfl
      try simp only [Act.put, List.setIfInBounds_toArray, List.set_cons_zero, List.set_cons_succ]
      refine ur 2 (v := ?_) hU0 rfl (by kernel_rfl) (fun _ _ _ h => h) rfl ?_ ?_
      rotate_left
      focus intro w _; go_simp; first | done | with_reducible rfl
      try simp only [Act.put, List.setIfInBounds_toArray, List.set_cons_zero, List.set_cons_succ]
      refine ur 3 (v := ?_) hU0 rfl (by kernel_rfl) (fun _ _ _ h => h) rfl ?_ ?_
      rotate_left
      focus intro w _; go_simp; first | done | with_reducible rfl
      try simp only [Act.put, List.setIfInBounds_toArray, List.set_cons_zero, List.set_cons_succ]
      refine ur 4 (v := ?_) hU0 rfl (by kernel_rfl) (fun _ _ _ h => h) rfl ?_ ?_
      rotate_left
      focus intro w _; go_simp; first | done | with_reducible rfl
      try simp only [Act.put, List.setIfInBounds_toArray, List.set_cons_zero, List.set_cons_succ]
      refine urd 5 (v := ?_) hU0 rfl (by kernel_rfl) (fun _ _ _ h => h) rfl ?_ ?_
      rotate_left
      focus intro w hSw; (try dsimp only at hSw); go_simp; first | done | with_reducible rfl
      try simp only [Act.put, List.setIfInBounds_toArray, List.set_cons_zero, List.set_cons_succ]
      refine ur 6 (v := ?_) hU0 rfl (by kernel_rfl) (fun _ _ _ h => h) rfl ?_ ?_
      rotate_left
      focus intro w _; go_simp; first | done | with_reducible rfl
      try simp only [Act.put, List.setIfInBounds_toArray, List.set_cons_zero, List.set_cons_succ]
      refine ur 7 (v := ?_) hU0 rfl (by kernel_rfl) (fun _ _ _ h => h) rfl ?_ ?_
      rotate_left
      focus intro w _; go_simp; first | done | with_reducible rfl
      try simp only [Act.put, List.setIfInBounds_toArray, List.set_cons_zero, List.set_cons_succ]
      refine ur 8 (v := ?_) hU0 rfl (by kernel_rfl) (fun _ _ _ h => h) rfl ?_ ?_
      rotate_left
      focus intro w _; go_simp; first | done | with_reducible rfl
      try simp only [Act.put, List.setIfInBounds_toArray, List.set_cons_zero, List.set_cons_succ]
      refine urd 9 (v := ?_) hU0 rfl (by kernel_rfl) (fun _ _ _ h => h) rfl ?_ ?_
      rotate_left
      focus intro w hSw; (try dsimp only at hSw); go_simp; first | done | with_reducible rfl
      try simp only [Act.put, List.setIfInBounds_toArray, List.set_cons_zero, List.set_cons_succ]
      refine ur 10 (v := ?_) hU0 rfl (by kernel_rfl) (fun _ _ _ h => h) rfl ?_ ?_
      rotate_left
      focus intro w _; go_simp; first | done | with_reducible rfl
      try simp only [Act.put, List.setIfInBounds_toArray, List.set_cons_zero, List.set_cons_succ]
      refine ur 11 (v := ?_) hU0 rfl (by kernel_rfl) (fun _ _ _ h => h) rfl ?_ ?_
      rotate_left
      focus intro w _; go_simp; first | done | with_reducible rfl
      try simp only [Act.put, List.setIfInBounds_toArray, List.set_cons_zero, List.set_cons_succ]
      refine ur 12 (v := ?_) hU0 rfl (by kernel_rfl) (fun _ _ _ h => h) rfl ?_ ?_
      rotate_left
      focus intro w _; go_simp; first | done | with_reducible rfl
      try simp only [Act.put, List.setIfInBounds_toArray, List.set_cons_zero, List.set_cons_succ]
      refine urd 13 (v := ?_) hU0 rfl (by kernel_rfl) (fun _ _ _ h => h) rfl ?_ ?_
      rotate_left
      focus intro w hSw; (try dsimp only at hSw); go_simp; first | done | with_reducible rfl
      try simp only [Act.put, List.setIfInBounds_toArray, List.set_cons_zero, List.set_cons_succ]
      refine ur 14 (v := ?_) hU0 rfl (by kernel_rfl) (fun _ _ _ h => h) rfl ?_ ?_
      rotate_left
      focus intro w _; go_simp; first | done | with_reducible rfl
      try simp only [Act.put, List.setIfInBounds_toArray, List.set_cons_zero, List.set_cons_succ]
      refine upto_next 15 rfl (by kernel_rfl) (fun K hK => ?_)
      refine step_store_blk rfl 23 _ _ rfl g rfl rfl HX2.out rfl (by kernel_rfl) (by kernel_rfl) ?_
      intro x7 k7 hb7 hz7 ho7
      obtain ⟨q0, q1, q2, q3, q4, q5, q6, q7⟩ := cq k7
      try go_simp
      first | refine hK.out _ _ ?_ fun hU1 => ?_ | (go_wp2_with fail; refine hK.out _ _ ?_ fun hU1 => ?_)
      · exact Or.inl (by kernel_rfl)
      clear hK K
      clear hU0
      try simp only [Act.put, List.setIfInBounds_toArray, List.set_cons_zero, List.set_cons_succ]
      refine ur 16 (v := ?_) hU1 rfl (by kernel_rfl) (fun _ _ _ h => h) rfl ?_ ?_
      rotate_left
      focus intro w _; go_simp; first | done | with_reducible rfl
      try simp only [Act.put, List.setIfInBounds_toArray, List.set_cons_zero, List.set_cons_succ]
      refine upto_done (by kernel_rfl) ?_ _
      clear r1 r3 r6 r8 rl
      go_wp2_with fail
      refine bodyPost_ret (by simp [results, Tryz.results46, go_sem, q0, q1, q2, q3, q4, q5, q6, q7]; try rfl) rfl ?_
      have hf : rmoveF (mvS name.data.toList).1 (mvS name.data.toList).2 [o, q] = some { insZ with op := 3, dst := q.reg, src := o.reg, imm := o.num, size := sz, signed := sg } := by rw [← HSZ.out, ← HSG.out]; show move2 sz sg o q = _; unfold move2; rw [if_pos ⟨HOK.out, HQK.out⟩] <;> try rfl
      exact ⟨_, true, rfl, (fun y hy => by rw [hf] at hy; cases hy; exact ⟨rfl, rfl⟩), (fun h => by rw [hf] at h; cases h), hb7 _ _ HGE.out (Below.drew HB2.out)⟩
    | false =>
      have HK31 := Lib.hid hk
      clear hk
      have hb1 := below_alloc (.cells #[.int .i64 1, .int .i64 3] 3) (Below.refl w2.heap.size w2)
      have HBa := Lib.hid (HB2.out.trans (hb1.mono HB2.out.size))
      have HXa := Lib.hid (blk_below HX2.out hb1)
      clear hb1
      go_wp2_with fail
      refine (kinds_any _ B (.slice Av nv cv) l (own_below HROW.out HBa.out) HLEN.out [1, 3] (by decide) w2.heap.size 2 #[.int .i64 1, .int .i64 3] rfl rfl (blk_new w2 _)).mono ?_
      rintro e w3 ⟨rfl, hb2⟩
      have HB3 := Lib.hid (HBa.out.trans (hb2.mono HBa.out.size))
      have HX3 := Lib.hid (blk_below HXa.out hb2)
      clear hb2
      cases hk : kindsB l [1, 3] with
      | true =>
        obtain ⟨o, q, rfl, hok, hqk⟩ := kinds_two hk
        have HOK := Lib.hid hok
        have HQK := Lib.hid hqk
        clear hok hqk hk
        obtain rfl : nv = 2 := HNV.out
        obtain ⟨gl, rfl, hcell⟩ := RowO.cells (own_below HROW.out HB3.out) rfl (i := 0) rfl
        obtain ⟨gl2, e2, hcell2⟩ := RowO.cells (own_below HROW.out HB3.out) rfl (i := 1) rfl
        cases e2
        have r1 : w3.cell? ⟨gl, 1, none⟩ = some (.int .i64 o.reg) := hcell 1 (by decide)
        have r3 : w3.cell? ⟨gl, 3, none⟩ = some (.int .i64 o.num) := hcell 3 (by decide)
        have r6 : w3.cell? ⟨gl, 6, none⟩ = some (.int .i64 q.reg) := hcell2 1 (by decide)
        have r8 : w3.cell? ⟨gl, 8, none⟩ = some (.int .i64 q.num) := hcell2 3 (by decide)
        have rl := World.block_lt_of_cell? _ _ r1
        clear hcell hcell2
        go_upto_region 22 with (fail)
        refine upto_begin 14 (fun w' => w'.cell? ⟨gl, 1, none⟩ = some (.int .i64 o.reg) ∧ w'.cell? ⟨gl, 3, none⟩ = some (.int .i64 o.num) ∧ w'.cell? ⟨gl, 6, none⟩ = some (.int .i64 q.reg) ∧ w'.cell? ⟨gl, 8, none⟩ = some (.int .i64 q.num)) (by kernel_rfl) ?_ (fun hU0 => ?_)
        · exact ⟨r1, r3, r6, r8⟩
        refine ur 0 (v := ?_) hU0 rfl (by kernel_rfl) (fun _ _ _ h => h) rfl ?_ ?_
        rotate_left
        focus intro w _; go_simp; first | done | with_reducible rfl
        try simp only [Act.put, List.setIfInBounds_toArray, List.set_cons_zero, List.set_cons_succ]
        refine ur 1 (v := ?_) hU0 rfl (by kernel_rfl) (fun _ _ _ h => h) rfl ?_ ?_
        rotate_left
        focus intro w _; go_simp; first | done | with_reducible rfl
        try simp only [Act.put, List.setIfInBounds_toArray, List.set_cons_zero, List.set_cons_succ]
        refine ur 2 (v := ?_) hU0 rfl (by kernel_rfl) (fun _ _ _ h => h) rfl ?_ ?_
        rotate_left
        focus intro w _; go_simp; first | done | with_reducible rfl
        try simp only [Act.put, List.setIfInBounds_toArray, List.set_cons_zero, List.set_cons_succ]
        refine ur 3 (v := ?_) hU0 rfl (by kernel_rfl) (fun _ _ _ h => h) rfl ?_ ?_
        rotate_left
        focus intro w _; go_simp; first | done | with_reducible rfl
        try simp only [Act.put, List.setIfInBounds_toArray, List.set_cons_zero, List.set_cons_succ]
        refine urd 4 (v := ?_) hU0 rfl (by kernel_rfl) (fun _ _ _ h => h) rfl ?_ ?_
        rotate_left
        focus intro w hSw; (try dsimp only at hSw); go_simp; first | done | with_reducible rfl
        try simp only [Act.put, List.setIfInBounds_toArray, List.set_cons_zero, List.set_cons_succ]
        refine ur 5 (v := ?_) hU0 rfl (by kernel_rfl) (fun _ _ _ h => h) rfl ?_ ?_
        rotate_left
        focus intro w _; go_simp; first | done | with_reducible rfl
        try simp only [Act.put, List.setIfInBounds_toArray, List.set_cons_zero, List.set_cons_succ]
        refine ur 6 (v := ?_) hU0 rfl (by kernel_rfl) (fun _ _ _ h => h) rfl ?_ ?_
        rotate_left
        focus intro w _; go_simp; first | done | with_reducible rfl
        try simp only [Act.put, List.setIfInBounds_toArray, List.set_cons_zero, List.set_cons_succ]
        refine ur 7 (v := ?_) hU0 rfl (by kernel_rfl) (fun _ _ _ h => h) rfl ?_ ?_
        rotate_left
        focus intro w _; go_simp; first | done | with_reducible rfl
        try simp only [Act.put, List.setIfInBounds_toArray, List.set_cons_zero, List.set_cons_succ]
        refine urd 8 (v := ?_) hU0 rfl (by kernel_rfl) (fun _ _ _ h => h) rfl ?_ ?_
        rotate_left
        focus intro w hSw; (try dsimp only at hSw); go_simp; first | done | with_reducible rfl
        try simp only [Act.put, List.setIfInBounds_toArray, List.set_cons_zero, List.set_cons_succ]
        refine ur 9 (v := ?_) hU0 rfl (by kernel_rfl) (fun _ _ _ h => h) rfl ?_ ?_
        rotate_left
        focus intro w _; go_simp; first | done | with_reducible rfl
        try simp only [Act.put, List.setIfInBounds_toArray, List.set_cons_zero, List.set_cons_succ]
        refine ur 10 (v := ?_) hU0 rfl (by kernel_rfl) (fun _ _ _ h => h) rfl ?_ ?_
        rotate_left
        focus intro w _; go_simp; first | done | with_reducible rfl
        try simp only [Act.put, List.setIfInBounds_toArray, List.set_cons_zero, List.set_cons_succ]
        refine ur 11 (v := ?_) hU0 rfl (by kernel_rfl) (fun _ _ _ h => h) rfl ?_ ?_
        rotate_left
        focus intro w _; go_simp; first | done | with_reducible rfl
        try simp only [Act.put, List.setIfInBounds_toArray, List.set_cons_zero, List.set_cons_succ]
        refine urd 12 (v := ?_) hU0 rfl (by kernel_rfl) (fun _ _ _ h => h) rfl ?_ ?_
        rotate_left
        focus intro w hSw; (try dsimp only at hSw); go_simp; first | done | with_reducible rfl
        try simp only [Act.put, List.setIfInBounds_toArray, List.set_cons_zero, List.set_cons_succ]
        refine ur 13 (v := ?_) hU0 rfl (by kernel_rfl) (fun _ _ _ h => h) rfl ?_ ?_
        rotate_left
        focus intro w _; go_simp; first | done | with_reducible rfl
        try simp only [Act.put, List.setIfInBounds_toArray, List.set_cons_zero, List.set_cons_succ]
        refine upto_next 14 rfl (by kernel_rfl) (fun K hK => ?_)
        refine step_store_blk rfl 23 _ _ rfl g rfl rfl HX3.out rfl (by kernel_rfl) (by kernel_rfl) ?_
        intro x7 k7 hb7 hz7 ho7
        obtain ⟨q0, q1, q2, q3, q4, q5, q6, q7⟩ := cq k7
        try go_simp
        first | refine hK.out _ _ ?_ fun hU1 => ?_ | (go_wp2_with fail; refine hK.out _ _ ?_ fun hU1 => ?_)
        · exact Or.inl (by kernel_rfl)
        clear hK K
        clear hU0
        try simp only [Act.put, List.setIfInBounds_toArray, List.set_cons_zero, List.set_cons_succ]
        refine ur 15 (v := ?_) hU1 rfl (by kernel_rfl) (fun _ _ _ h => h) rfl ?_ ?_
        rotate_left
        focus intro w _; go_simp; first | done | with_reducible rfl
        try simp only [Act.put, List.setIfInBounds_toArray, List.set_cons_zero, List.set_cons_succ]
        refine upto_done (by kernel_rfl) ?_ _
        clear r1 r3 r6 r8 rl
        go_wp2_with fail
        refine bodyPost_ret (by simp [results, Tryz.results46, go_sem, q0, q1, q2, q3, q4, q5, q6, q7]; try rfl) rfl ?_
        have hf : rmoveF (mvS name.data.toList).1 (mvS name.data.toList).2 [o, q] = some { insZ with op := 4, dst := q.reg, src := o.reg, imm := q.num, size := sz } := by rw [← HSZ.out, ← HSG.out]; show move2 sz sg o q = _; unfold move2; rw [if_neg (by rw [HOK.out]; simp), if_pos ⟨HOK.out, HQK.out⟩] <;> try rfl
        exact ⟨_, true, rfl, (fun y hy => by rw [hf] at hy; cases hy; exact ⟨rfl, rfl⟩), (fun h => by rw [hf] at h; cases h), hb7 _ _ HGE.out (Below.drew HB3.out)⟩
      | false =>
        have HK13 := Lib.hid hk
        clear hk
        have hb1 := below_alloc (.cells #[.int .i64 2, .int .i64 1] 3) (Below.refl w3.heap.size w3)
        have HBa := Lib.hid (HB3.out.trans (hb1.mono HB3.out.size))
        have HXa := Lib.hid (blk_below HX3.out hb1)
        clear hb1
        go_wp2_with fail
        refine (kinds_any _ B (.slice Av nv cv) l (own_below HROW.out HBa.out) HLEN.out [2, 1] (by decide) w3.heap.size 2 #[.int .i64 2, .int .i64 1] rfl rfl (blk_new w3 _)).mono ?_
        rintro e w4 ⟨rfl, hb2⟩
        have HB4 := Lib.hid (HBa.out.trans (hb2.mono HBa.out.size))
        have HX4 := Lib.hid (blk_below HXa.out hb2)
        clear hb2
        cases hk : kindsB l [2, 1] with
        | true =>
          obtain ⟨o, q, rfl, hok, hqk⟩ := kinds_two hk
          have HOK := Lib.hid hok
          have HQK := Lib.hid hqk
          clear hok hqk hk
          obtain rfl : nv = 2 := HNV.out
          obtain ⟨gl, rfl, hcell⟩ := RowO.cells (own_below HROW.out HB4.out) rfl (i := 0) rfl
          obtain ⟨gl2, e2, hcell2⟩ := RowO.cells (own_below HROW.out HB4.out) rfl (i := 1) rfl
          cases e2
          have r1 : w4.cell? ⟨gl, 1, none⟩ = some (.int .i64 o.reg) := hcell 1 (by decide)
          have r3 : w4.cell? ⟨gl, 3, none⟩ = some (.int .i64 o.num) := hcell 3 (by decide)
          have r6 : w4.cell? ⟨gl, 6, none⟩ = some (.int .i64 q.reg) := hcell2 1 (by decide)
          have r8 : w4.cell? ⟨gl, 8, none⟩ = some (.int .i64 q.num) := hcell2 3 (by decide)
          have rl := World.block_lt_of_cell? _ _ r1
          clear hcell hcell2
          go_upto_region 24 with (fail)
          refine upto_begin 9 (fun w' => w'.cell? ⟨gl, 1, none⟩ = some (.int .i64 o.reg) ∧ w'.cell? ⟨gl, 3, none⟩ = some (.int .i64 o.num) ∧ w'.cell? ⟨gl, 6, none⟩ = some (.int .i64 q.reg) ∧ w'.cell? ⟨gl, 8, none⟩ = some (.int .i64 q.num)) (by kernel_rfl) ?_ (fun hU0 => ?_)
          · exact ⟨r1, r3, r6, r8⟩
          refine ur 0 (v := ?_) hU0 rfl (by kernel_rfl) (fun _ _ _ h => h) rfl ?_ ?_
          rotate_left
          focus intro w _; go_simp; first | done | with_reducible rfl
          try simp only [Act.put, List.setIfInBounds_toArray, List.set_cons_zero, List.set_cons_succ]
          refine ur 1 (v := ?_) hU0 rfl (by kernel_rfl) (fun _ _ _ h => h) rfl ?_ ?_
          rotate_left
          focus intro w _; go_simp; first | done | with_reducible rfl
          try simp only [Act.put, List.setIfInBounds_toArray, List.set_cons_zero, List.set_cons_succ]
          refine ur 2 (v := ?_) hU0 rfl (by kernel_rfl) (fun _ _ _ h => h) rfl ?_ ?_
          rotate_left
          focus intro w _; go_simp; first | done | with_reducible rfl
          try simp only [Act.put, List.setIfInBounds_toArray, List.set_cons_zero, List.set_cons_succ]
          refine urd 3 (v := ?_) hU0 rfl (by kernel_rfl) (fun _ _ _ h => h) rfl ?_ ?_
          rotate_left
          focus intro w hSw; (try dsimp only at hSw); go_simp; first | done | with_reducible rfl
          try simp only [Act.put, List.setIfInBounds_toArray, List.set_cons_zero, List.set_cons_succ]
          refine ur 4 (v := ?_) hU0 rfl (by kernel_rfl) (fun _ _ _ h => h) rfl ?_ ?_
          rotate_left
          focus intro w _; go_simp; first | done | with_reducible rfl
          try simp only [Act.put, List.setIfInBounds_toArray, List.set_cons_zero, List.set_cons_succ]
          refine ur 5 (v := ?_) hU0 rfl (by kernel_rfl) (fun _ _ _ h => h) rfl ?_ ?_
          rotate_left
          focus intro w _; go_simp; first | done | with_reducible rfl
          try simp only [Act.put, List.setIfInBounds_toArray, List.set_cons_zero, List.set_cons_succ]
          refine ur 6 (v := ?_) hU0 rfl (by kernel_rfl) (fun _ _ _ h => h) rfl ?_ ?_
          rotate_left
          focus intro w _; go_simp; first | done | with_reducible rfl
          try simp only [Act.put, List.setIfInBounds_toArray, List.set_cons_zero, List.set_cons_succ]
          refine urd 7 (v := ?_) hU0 rfl (by kernel_rfl) (fun _ _ _ h => h) rfl ?_ ?_
          rotate_left
          focus intro w hSw; (try dsimp only at hSw); go_simp; first | done | with_reducible rfl
          try simp only [Act.put, List.setIfInBounds_toArray, List.set_cons_zero, List.set_cons_succ]
          refine ur 8 (v := ?_) hU0 rfl (by kernel_rfl) (fun _ _ _ h => h) rfl ?_ ?_
          rotate_left
          focus intro w _; go_simp; first | done | with_reducible rfl
          try simp only [Act.put, List.setIfInBounds_toArray, List.set_cons_zero, List.set_cons_succ]
          refine upto_next 9 rfl (by kernel_rfl) (fun K hK => ?_)
          refine step_store_blk rfl 23 _ _ rfl g rfl rfl HX4.out rfl (by kernel_rfl) (by kernel_rfl) ?_
          intro x7 k7 hb7 hz7 ho7
          obtain ⟨q0, q1, q2, q3, q4, q5, q6, q7⟩ := cq k7
          try go_simp
          first | refine hK.out _ _ ?_ fun hU1 => ?_ | (go_wp2_with fail; refine hK.out _ _ ?_ fun hU1 => ?_)
          · exact Or.inl (by kernel_rfl)
          clear hK K
          clear hU0
          try simp only [Act.put, List.setIfInBounds_toArray, List.set_cons_zero, List.set_cons_succ]
          refine ur 10 (v := ?_) hU1 rfl (by kernel_rfl) (fun _ _ _ h => h) rfl ?_ ?_
          rotate_left
          focus intro w _; go_simp; first | done | with_reducible rfl
          try simp only [Act.put, List.setIfInBounds_toArray, List.set_cons_zero, List.set_cons_succ]
          refine upto_done (by kernel_rfl) ?_ _
          clear r1 r3 r6 r8 rl
          go_wp2_with fail
          refine bodyPost_ret (by simp [results, Tryz.results46, go_sem, q0, q1, q2, q3, q4, q5, q6, q7]; try rfl) rfl ?_
          have hf : rmoveF (mvS name.data.toList).1 (mvS name.data.toList).2 [o, q] = some { insZ with op := 2, dst := q.reg, imm := o.num } := by rw [← HSZ.out, ← HSG.out]; show move2 sz sg o q = _; unfold move2; rw [if_neg (by rw [HOK.out]; simp), if_neg (by rw [HOK.out]; simp), if_pos ⟨HOK.out, HQK.out⟩] <;> try rfl
          exact ⟨_, true, rfl, (fun y hy => by rw [hf] at hy; cases hy; exact ⟨rfl, rfl⟩), (fun h => by rw [hf] at h; cases h), hb7 _ _ HGE.out (Below.drew HB4.out)⟩
        | false =>
          have HK21 := Lib.hid hk
          clear hk
          have hb1 := below_alloc (.cells #[.int .i64 1, .int .i64 1] 3) (Below.refl w4.heap.size w4)
          have HBa := Lib.hid (HB4.out.trans (hb1.mono HB4.out.size))
          have HXa := Lib.hid (blk_below HX4.out hb1)
          clear hb1
          go_wp2_with fail
          refine (kinds_any _ B (.slice Av nv cv) l (own_below HROW.out HBa.out) HLEN.out [1, 1] (by decide) w4.heap.size 2 #[.int .i64 1, .int .i64 1] rfl rfl (blk_new w4 _)).mono ?_
          rintro e w5 ⟨rfl, hb2⟩
          have HB5 := Lib.hid (HBa.out.trans (hb2.mono HBa.out.size))
          have HX5 := Lib.hid (blk_below HXa.out hb2)
          clear hb2
          cases hk : kindsB l [1, 1] with
          | true =>
            by_cases h8 : sz = 8
            · have d8 : (sz == 8) = true := by simpa using h8
              have H8 := Lib.hid h8
              clear h8
              obtain ⟨o, q, rfl, hok, hqk⟩ := kinds_two hk
              have HOK := Lib.hid hok
              have HQK := Lib.hid hqk
              clear hok hqk hk
              obtain rfl : nv = 2 := HNV.out
              obtain ⟨gl, rfl, hcell⟩ := RowO.cells (own_below HROW.out HB5.out) rfl (i := 0) rfl
              obtain ⟨gl2, e2, hcell2⟩ := RowO.cells (own_below HROW.out HB5.out) rfl (i := 1) rfl
              cases e2
              have r1 : w5.cell? ⟨gl, 1, none⟩ = some (.int .i64 o.reg) := hcell 1 (by decide)
              have r3 : w5.cell? ⟨gl, 3, none⟩ = some (.int .i64 o.num) := hcell 3 (by decide)
              have r6 : w5.cell? ⟨gl, 6, none⟩ = some (.int .i64 q.reg) := hcell2 1 (by decide)
              have r8 : w5.cell? ⟨gl, 8, none⟩ = some (.int .i64 q.num) := hcell2 3 (by decide)
              have rl := World.block_lt_of_cell? _ _ r1
              clear hcell hcell2
              go_upto_region 26 with (fail)
              refine upto_begin 9 (fun w' => w'.cell? ⟨gl, 1, none⟩ = some (.int .i64 o.reg) ∧ w'.cell? ⟨gl, 3, none⟩ = some (.int .i64 o.num) ∧ w'.cell? ⟨gl, 6, none⟩ = some (.int .i64 q.reg) ∧ w'.cell? ⟨gl, 8, none⟩ = some (.int .i64 q.num)) (by kernel_rfl) ?_ (fun hU0 => ?_)
              · exact ⟨r1, r3, r6, r8⟩
              refine ur 0 (v := ?_) hU0 rfl (by kernel_rfl) (fun _ _ _ h => h) rfl ?_ ?_
              rotate_left
              focus intro w _; go_simp; first | done | with_reducible rfl
              try simp only [Act.put, List.setIfInBounds_toArray, List.set_cons_zero, List.set_cons_succ]
              refine ur 1 (v := ?_) hU0 rfl (by kernel_rfl) (fun _ _ _ h => h) rfl ?_ ?_
              rotate_left
              focus intro w _; go_simp; first | done | with_reducible rfl
              try simp only [Act.put, List.setIfInBounds_toArray, List.set_cons_zero, List.set_cons_succ]
              refine ur 2 (v := ?_) hU0 rfl (by kernel_rfl) (fun _ _ _ h => h) rfl ?_ ?_
              rotate_left
              focus intro w _; go_simp; first | done | with_reducible rfl
              try simp only [Act.put, List.setIfInBounds_toArray, List.set_cons_zero, List.set_cons_succ]
              refine urd 3 (v := ?_) hU0 rfl (by kernel_rfl) (fun _ _ _ h => h) rfl ?_ ?_
              rotate_left
              focus intro w hSw; (try dsimp only at hSw); go_simp; first | done | with_reducible rfl
              try simp only [Act.put, List.setIfInBounds_toArray, List.set_cons_zero, List.set_cons_succ]
              refine ur 4 (v := ?_) hU0 rfl (by kernel_rfl) (fun _ _ _ h => h) rfl ?_ ?_
              rotate_left
              focus intro w _; go_simp; first | done | with_reducible rfl
              try simp only [Act.put, List.setIfInBounds_toArray, List.set_cons_zero, List.set_cons_succ]
              refine ur 5 (v := ?_) hU0 rfl (by kernel_rfl) (fun _ _ _ h => h) rfl ?_ ?_
              rotate_left
              focus intro w _; go_simp; first | done | with_reducible rfl
              try simp only [Act.put, List.setIfInBounds_toArray, List.set_cons_zero, List.set_cons_succ]
              refine ur 6 (v := ?_) hU0 rfl (by kernel_rfl) (fun _ _ _ h => h) rfl ?_ ?_
              rotate_left
              focus intro w _; go_simp; first | done | with_reducible rfl
              try simp only [Act.put, List.setIfInBounds_toArray, List.set_cons_zero, List.set_cons_succ]
              refine urd 7 (v := ?_) hU0 rfl (by kernel_rfl) (fun _ _ _ h => h) rfl ?_ ?_
              rotate_left
              focus intro w hSw; (try dsimp only at hSw); go_simp; first | done | with_reducible rfl
              try simp only [Act.put, List.setIfInBounds_toArray, List.set_cons_zero, List.set_cons_succ]
              refine ur 8 (v := ?_) hU0 rfl (by kernel_rfl) (fun _ _ _ h => h) rfl ?_ ?_
              rotate_left
              focus intro w _; go_simp; first | done | with_reducible rfl
              try simp only [Act.put, List.setIfInBounds_toArray, List.set_cons_zero, List.set_cons_succ]
              refine upto_next 9 rfl (by kernel_rfl) (fun K hK => ?_)
              refine step_store_blk rfl 23 _ _ rfl g rfl rfl HX5.out rfl (by kernel_rfl) (by kernel_rfl) ?_
              intro x7 k7 hb7 hz7 ho7
              obtain ⟨q0, q1, q2, q3, q4, q5, q6, q7⟩ := cq k7
              try go_simp
              first | refine hK.out _ _ ?_ fun hU1 => ?_ | (go_wp2_with fail; refine hK.out _ _ ?_ fun hU1 => ?_)
              · exact Or.inl (by kernel_rfl)
              clear hK K
              clear hU0
              try simp only [Act.put, List.setIfInBounds_toArray, List.set_cons_zero, List.set_cons_succ]
              refine ur 10 (v := ?_) hU1 rfl (by kernel_rfl) (fun _ _ _ h => h) rfl ?_ ?_
              rotate_left
              focus intro w _; go_simp; first | done | with_reducible rfl
              try simp only [Act.put, List.setIfInBounds_toArray, List.set_cons_zero, List.set_cons_succ]
              refine upto_done (by kernel_rfl) ?_ _
              clear r1 r3 r6 r8 rl
              go_wp2_with fail
              refine bodyPost_ret (by simp [results, Tryz.results46, go_sem, q0, q1, q2, q3, q4, q5, q6, q7]; try rfl) rfl ?_
              have hf : rmoveF (mvS name.data.toList).1 (mvS name.data.toList).2 [o, q] = some { insZ with op := 1, dst := q.reg, src := o.reg } := by rw [← HSZ.out, ← HSG.out]; show move2 sz sg o q = _; unfold move2; rw [if_neg (by rw [HOK.out]; simp), if_neg (by rw [HQK.out]; simp), if_neg (by rw [HOK.out]; simp), if_pos ⟨HOK.out, HQK.out⟩, if_pos H8.out] <;> try rfl
              exact ⟨_, true, rfl, (fun y hy => by rw [hf] at hy; cases hy; exact ⟨rfl, rfl⟩), (fun h => by rw [hf] at h; cases h), hb7 _ _ HGE.out (Below.drew HB5.out)⟩
            · have d8 : (sz == 8) = false := by simpa using h8
              have H8 := Lib.hid h8
              have HK11 := Lib.hid hk
              clear h8 hk
              have hb1 := below_alloc (.cells #[.int .i64 1, .int .i64 1] 3) (Below.refl w5.heap.size w5)
              have HBa := Lib.hid (HB5.out.trans (hb1.mono HB5.out.size))
              have HXa := Lib.hid (blk_below HX5.out hb1)
              clear hb1
              go_wp2_with fail
              refine (kinds_any _ B (.slice Av nv cv) l (own_below HROW.out HBa.out) HLEN.out [1, 1] (by decide) w5.heap.size 2 #[.int .i64 1, .int .i64 1] rfl rfl (blk_new w5 _)).mono ?_
              rintro e w6 ⟨rfl, hb2⟩
              have HB6 := Lib.hid (HBa.out.trans (hb2.mono HBa.out.size))
              have HX6 := Lib.hid (blk_below HXa.out hb2)
              clear hb2
              rw [HK11.out]
              have hk := HK11.out
              clear HK11
              obtain ⟨o, q, rfl, hok, hqk⟩ := kinds_two hk
              have HOK := Lib.hid hok
              have HQK := Lib.hid hqk
              clear hok hqk hk
              obtain rfl : nv = 2 := HNV.out
              obtain ⟨gl, rfl, hcell⟩ := RowO.cells (own_below HROW.out HB6.out) rfl (i := 0) rfl
              obtain ⟨gl2, e2, hcell2⟩ := RowO.cells (own_below HROW.out HB6.out) rfl (i := 1) rfl
              cases e2
              have r1 : w6.cell? ⟨gl, 1, none⟩ = some (.int .i64 o.reg) := hcell 1 (by decide)
              have r3 : w6.cell? ⟨gl, 3, none⟩ = some (.int .i64 o.num) := hcell 3 (by decide)
              have r6 : w6.cell? ⟨gl, 6, none⟩ = some (.int .i64 q.reg) := hcell2 1 (by decide)
              have r8 : w6.cell? ⟨gl, 8, none⟩ = some (.int .i64 q.num) := hcell2 3 (by decide)
              have rl := World.block_lt_of_cell? _ _ r1
              clear hcell hcell2
              go_upto_region 28 with (fail)
              refine upto_begin 11 (fun w' => w'.cell? ⟨gl, 1, none⟩ = some (.int .i64 o.reg) ∧ w'.cell? ⟨gl, 3, none⟩ = some (.int .i64 o.num) ∧ w'.cell? ⟨gl, 6, none⟩ = some (.int .i64 q.reg) ∧ w'.cell? ⟨gl, 8, none⟩ = some (.int .i64 q.num)) (by kernel_rfl) ?_ (fun hU0 => ?_)
              · exact ⟨r1, r3, r6, r8⟩
              refine ur 0 (v := ?_) hU0 rfl (by kernel_rfl) (fun _ _ _ h => h) rfl ?_ ?_
              rotate_left
              focus intro w _; go_simp; first | done | with_reducible rfl
              try simp only [Act.put, List.setIfInBounds_toArray, List.set_cons_zero, List.set_cons_succ]
              refine ur 1 (v := ?_) hU0 rfl (by kernel_rfl) (fun _ _ _ h => h) rfl ?_ ?_
              rotate_left
              focus intro w _; go_simp; first | done | with_reducible rfl
              try simp only [Act.put, List.setIfInBounds_toArray, List.set_cons_zero, List.set_cons_succ]
              refine ur 2 (v := ?_) hU0 rfl (by kernel_rfl) (fun _ _ _ h => h) rfl ?_ ?_
              rotate_left
              focus intro w _; go_simp; first | done | with_reducible rfl
              try simp only [Act.put, List.setIfInBounds_toArray, List.set_cons_zero, List.set_cons_succ]
              refine ur 3 (v := ?_) hU0 rfl (by kernel_rfl) (fun _ _ _ h => h) rfl ?_ ?_
              rotate_left
              focus intro w _; go_simp; first | done | with_reducible rfl
              try simp only [Act.put, List.setIfInBounds_toArray, List.set_cons_zero, List.set_cons_succ]
              refine ur 4 (v := ?_) hU0 rfl (by kernel_rfl) (fun _ _ _ h => h) rfl ?_ ?_
              rotate_left
              focus intro w _; go_simp; first | done | with_reducible rfl
              try simp only [Act.put, List.setIfInBounds_toArray, List.set_cons_zero, List.set_cons_succ]
              refine urd 5 (v := ?_) hU0 rfl (by kernel_rfl) (fun _ _ _ h => h) rfl ?_ ?_
              rotate_left
              focus intro w hSw; (try dsimp only at hSw); go_simp; first | done | with_reducible rfl
              try simp only [Act.put, List.setIfInBounds_toArray, List.set_cons_zero, List.set_cons_succ]
              refine ur 6 (v := ?_) hU0 rfl (by kernel_rfl) (fun _ _ _ h => h) rfl ?_ ?_
              rotate_left
              focus intro w _; go_simp; first | done | with_reducible rfl
              try simp only [Act.put, List.setIfInBounds_toArray, List.set_cons_zero, List.set_cons_succ]
              refine ur 7 (v := ?_) hU0 rfl (by kernel_rfl) (fun _ _ _ h => h) rfl ?_ ?_
              rotate_left
              focus intro w _; go_simp; first | done | with_reducible rfl
              try simp only [Act.put, List.setIfInBounds_toArray, List.set_cons_zero, List.set_cons_succ]
              refine ur 8 (v := ?_) hU0 rfl (by kernel_rfl) (fun _ _ _ h => h) rfl ?_ ?_
              rotate_left
              focus intro w _; go_simp; first | done | with_reducible rfl
              try simp only [Act.put, List.setIfInBounds_toArray, List.set_cons_zero, List.set_cons_succ]
              refine urd 9 (v := ?_) hU0 rfl (by kernel_rfl) (fun _ _ _ h => h) rfl ?_ ?_
              rotate_left
              focus intro w hSw; (try dsimp only at hSw); go_simp; first | done | with_reducible rfl
              try simp only [Act.put, List.setIfInBounds_toArray, List.set_cons_zero, List.set_cons_succ]
              refine ur 10 (v := ?_) hU0 rfl (by kernel_rfl) (fun _ _ _ h => h) rfl ?_ ?_
              rotate_left
              focus intro w _; go_simp; first | done | with_reducible rfl
              try simp only [Act.put, List.setIfInBounds_toArray, List.set_cons_zero, List.set_cons_succ]
              refine upto_next 11 rfl (by kernel_rfl) (fun K hK => ?_)
              refine step_store_blk rfl 23 _ _ rfl g rfl rfl HX6.out rfl (by kernel_rfl) (by kernel_rfl) ?_
              intro x7 k7 hb7 hz7 ho7
              obtain ⟨q0, q1, q2, q3, q4, q5, q6, q7⟩ := cq k7
              try go_simp
              first | refine hK.out _ _ ?_ fun hU1 => ?_ | (go_wp2_with fail; refine hK.out _ _ ?_ fun hU1 => ?_)
              · exact Or.inl (by kernel_rfl)
              clear hK K
              clear hU0
              try simp only [Act.put, List.setIfInBounds_toArray, List.set_cons_zero, List.set_cons_succ]
              refine ur 12 (v := ?_) hU1 rfl (by kernel_rfl) (fun _ _ _ h => h) rfl ?_ ?_
              rotate_left
              focus intro w _; go_simp; first | done | with_reducible rfl
              try simp only [Act.put, List.setIfInBounds_toArray, List.set_cons_zero, List.set_cons_succ]
              refine upto_done (by kernel_rfl) ?_ _
              clear r1 r3 r6 r8 rl
              go_wp2_with fail
              refine bodyPost_ret (by simp [results, Tryz.results46, go_sem, q0, q1, q2, q3, q4, q5, q6, q7]; try rfl) rfl ?_
              have hf : rmoveF (mvS name.data.toList).1 (mvS name.data.toList).2 [o, q] = some { insZ with op := 30, dst := q.reg, src := o.reg, size := sz, signed := sg } := by rw [← HSZ.out, ← HSG.out]; show move2 sz sg o q = _; unfold move2; rw [if_neg (by rw [HOK.out]; simp), if_neg (by rw [HQK.out]; simp), if_neg (by rw [HOK.out]; simp), if_pos ⟨HOK.out, HQK.out⟩, if_neg H8.out] <;> try rfl
              exact ⟨_, true, rfl, (fun y hy => by rw [hf] at hy; cases hy; exact ⟨rfl, rfl⟩), (fun h => by rw [hf] at h; cases h), hb7 _ _ HGE.out (Below.drew HB6.out)⟩
          | false =>
            have HK11 := Lib.hid hk
            clear hk
            have hb1 := below_alloc (.cells #[.int .i64 1, .int .i64 1] 3) (Below.refl w5.heap.size w5)
            have HBa := Lib.hid (HB5.out.trans (hb1.mono HB5.out.size))
            have HXa := Lib.hid (blk_below HX5.out hb1)
            clear hb1
            go_wp2_with fail
            refine (kinds_any _ B (.slice Av nv cv) l (own_below HROW.out HBa.out) HLEN.out [1, 1] (by decide) w5.heap.size 2 #[.int .i64 1, .int .i64 1] rfl rfl (blk_new w5 _)).mono ?_
            rintro e w6 ⟨rfl, hb2⟩
            have HB6 := Lib.hid (HBa.out.trans (hb2.mono HBa.out.size))
            have HX6 := Lib.hid (blk_below HXa.out hb2)
            clear hb2
            rw [HK11.out]
            go_wp2_with (refine wsx g rfl rfl rfl rfl HX6 (by kernel_rfl) ?_; intro x7 k7 hb7 hz7 ho7; obtain ⟨q0, q1, q2, q3, q4, q5, q6, q7⟩ := cq k7)
            refine bodyPost_ret (by simp [results, Tryz.results46, go_sem, q0, q1, q2, q3, q4, q5, q6, q7]; try rfl) rfl ?_
            have hf : rmoveF (mvS name.data.toList).1 (mvS name.data.toList).2 l = none := move_none HK31.out HK13.out HK21.out HK11.out
            exact ⟨insZ, false, rfl, (fun y hy => by rw [hf] at hy; cases hy), fun _ => rfl, hb7 _ _ HGE.out HB6.out⟩
end Go.Proofs.YtmmpkkpmlaiapaaGreatDoor
