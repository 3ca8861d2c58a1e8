/- read.reckon. No condition. -/
import Derived.Test.YtmmpkkpmlaiapaaGreatDoorRlM
namespace Go.Proofs.YtmmpkkpmlaiapaaGreatDoor
open Go.RowKit
set_option linter.unusedVariables false
set_option maxHeartbeats 4000000
set_option maxRecDepth 100000
def firstF {α : Type} (g : Nat → Option α) : Nat → Option α
  | 0 => none
  | n + 1 => match firstF g n with
    | some x => some x
    | none => g n
theorem firstF_next {α : Type} {g : Nat → Option α} {j : Nat} (h0 : firstF g j = none) (h : g j = none) : firstF g (j + 1) = none := by
  unfold firstF; rw [h0]; exact h
theorem firstF_hit {α : Type} {g : Nat → Option α} {j : Nat} {x : α} (h0 : firstF g j = none) (h : g j = some x) : ∀ {m : Nat}, j < m → firstF g m = some x := by
  intro m
  induction m with
  | zero => intro hm; omega
  | succ m ih =>
    intro hm
    by_cases e : j = m
    · subst e
      unfold firstF; rw [h0]; exact h
    · unfold firstF; rw [ih (by omega)]
def names7 : List (List UInt8) := [[97, 100, 100, 113], [115, 117, 98, 113], [97, 110, 100, 113], [111, 114, 113], [120, 111, 114, 113], [105, 109, 117, 108, 113], [99, 109, 112, 113]]
def names3 : List (List UInt8) := [[115, 104, 108, 113], [115, 97, 114, 113], [115, 104, 114, 113]]
theorem names7_at (j : Nat) (h : j < 7) : (names7.map fun x => Value.string ⟨⟨x⟩⟩).toArray[j]? = some (.string ⟨⟨names7.getD j []⟩⟩) := by
  match j, h with
  | 0, _ => rfl
  | 1, _ => rfl
  | 2, _ => rfl
  | 3, _ => rfl
  | 4, _ => rfl
  | 5, _ => rfl
  | 6, _ => rfl
theorem names3_at (j : Nat) (h : j < 3) : (names3.map fun x => Value.string ⟨⟨x⟩⟩).toArray[j]? = some (.string ⟨⟨names3.getD j []⟩⟩) := by
  match j, h with
  | 0, _ => rfl
  | 1, _ => rfl
  | 2, _ => rfl
def rkE (two : Bool) (a b : Int) : List Opd → Option XInsD
  | [o, q] => if o.kind = 1 ∧ q.kind = 1 then some { insZ with op := a, src := if two then o.reg else 0, dst := q.reg } else if o.kind = 2 ∧ q.kind = 1 then some { insZ with op := b, imm := o.num, dst := q.reg } else none
  | _ => none
theorem rkE_none {two : Bool} {a b : Int} {l : List Opd} (h1 : kindsB l [1, 1] = false) (h2 : kindsB l [2, 1] = false) : rkE two a b l = none := by
  match l, h1, h2 with
  | [], _, _ => rfl
  | [o], _, _ => rfl
  | [o, q], h1, h2 =>
    show (if _ then _ else _) = none
    rw [if_neg (kinds_not h1), if_neg (kinds_not h2)]
  | o :: q :: r :: s, _, _ => rfl
def rkG (two : Bool) (a b : Int) (names : List (List UInt8)) (n : List UInt8) (l : List Opd) (j : Nat) : Option XInsD := if names.getD j [] = n then rkE two (a + (j : Int)) (b + (j : Int)) l else none
theorem rkG_no {two : Bool} {a b : Int} {names : List (List UInt8)} {n : List UInt8} {l : List Opd} {j : Nat} (h1 : kindsB l [1, 1] = false) (h2 : kindsB l [2, 1] = false) : rkG two a b names n l j = none := by
  unfold rkG
  split
  · exact rkE_none h1 h2
  · rfl
theorem rkG_ne {two : Bool} {a b : Int} {names : List (List UInt8)} {n : List UInt8} {l : List Opd} {j : Nat} (h : names.getD j [] ≠ n) : rkG two a b names n l j = none := if_neg h
def reckonF (n : List UInt8) (l : List Opd) : Option XInsD := match firstF (rkG true 7 14 names7 n l) 7 with
  | some x => some x
  | none => firstF (rkG false 21 24 names3 n l) 3
def spB : Bool := (List.range 256).all fun c => decide (t1[c]? = some (if Lib.isSp (UInt8.ofNat c) then 1 else 0))
theorem sp_all : spB = true := by kernel_rfl
theorem space_at {w : World} (h : GsOk w) (c : Nat) (hc : c < 256) : w.cell? ⟨1, c, none⟩ = some (.int .u8 (if Lib.isSp (UInt8.ofNat c) then 1 else 0)) := by
  have h1 := sp_all
  simp only [spB, List.all_eq_true, List.mem_range, decide_eq_true_eq] at h1
  refine h.1 (1, t1.map (Value.int .u8)) (by unfold gs; simp) c _ ?_
  rw [List.getElem?_map, h1 c hc]
  rfl
theorem fields_any (w : World) (hG : GsOk w) (s : ByteArray) (hs : s.size < 1000) (ha : (s.data.toList.all fun b => decide (b.toNat < 128)) = true) (fs : List (List UInt8)) (n : Nat) (hf : Lib.fields s.data.toList = fs) (hn : fs.length = n) :
    Calls Tryz.prog 70 #[.string s] w fun e w' => e = .returned (.slice (some ⟨w.heap.size, 0, none⟩) n n) ∧ w' = w.alloc (.cells (fs.map fun x => Value.string ⟨⟨x⟩⟩).toArray 9) := by
  subst hf hn
  refine Any.strings_Fields_core Tryz.lays157 (by kernel_rfl) s w (by omega) (fun j b hb => ?_) (fun c hc => space_at hG c hc)
  have := List.mem_of_getElem? hb
  simpa using List.all_eq_true.1 ha b this
theorem reckon_any (w : World) (hG : GsOk w) (name : ByteArray) (B : Nat) (v : Value) (l : List Opd) (hl : RowO w B v l) (hlen : l.length ≤ 100000000) :
    Calls Tryz.prog 47 #[.string name, v] w (BldO (reckonF name.data.toList l) w) := by
  have HROW := Lib.hid hl
  have HLEN := Lib.hid hlen
  have HG := Lib.hid hG
  clear hl hlen hG
  obtain ⟨Av, cv, hv⟩ := HROW.out.slice
  obtain ⟨nv, hnv⟩ : ∃ z, z = l.length := ⟨_, rfl⟩
  have HNV := Lib.hid hnv
  rw [← hnv] at hv
  clear hnv
  have HX0 := Lib.hid (blk_new w (.cells (insV insZ).toArray 23))
  have HB0 := Lib.hid (below_alloc (.cells (insV insZ).toArray 23) (Below.refl w.heap.size w))
  subst hv
  go_enter Tryz.func47, Tryz.ntmps47
  go_upto_region 1 with (fail)
  obtain ⟨w1, hw1⟩ : ∃ z, z = w.alloc (.cells (insV insZ).toArray 23) := ⟨_, rfl⟩
  change Code.wp _ _ _ _ (w.alloc (.cells (insV insZ).toArray 23))
  obtain ⟨g, hg⟩ : ∃ z, z = w.heap.size := ⟨_, rfl⟩
  have HGE := Lib.hid (show w.heap.size ≤ g by rw [hg]; exact Nat.le_refl _)
  rw [← hw1] at HX0 HB0 ⊢
  rw [← hg] at HX0 ⊢
  clear hw1 hg
  have HFC := Lib.hid (fields_any w1 (HG.out.below HB0.out) ⟨#[97, 100, 100, 113, 32, 115, 117, 98, 113, 32, 97, 110, 100, 113, 32, 111, 114, 113, 32, 120, 111, 114, 113, 32, 105, 109, 117, 108, 113, 32, 99, 109, 112, 113]⟩ (by decide) (by kernel_rfl) names7 7 (by kernel_rfl) rfl)
  go_wp2_with fail
  refine HFC.out.mono ?_
  rintro e w2 ⟨rfl, hw2⟩
  have hb2 : Below w1.heap.size w1 w2 := by rw [hw2]; exact below_alloc _ (Below.refl _ _)
  have HN := Lib.hid (show w2.heap[w1.heap.size]? = some (.cells (names7.map fun x => Value.string ⟨⟨x⟩⟩).toArray 9 (0, 0)) by rw [hw2]; exact blk_new _ _)
  have HX := Lib.hid (blk_below HX0.out hb2)
  have HB := Lib.hid (HB0.out.trans (hb2.mono HB0.out.size))
  obtain ⟨gn, hgn⟩ : ∃ z, z = w1.heap.size := ⟨_, rfl⟩
  rw [← hgn] at HN ⊢
  clear hw2 hb2 hgn HFC HX0 HB0 w1
  go_wp2_with fail
  obtain ⟨wq, hwq⟩ : ∃ wq, wq = w2 := ⟨_, rfl⟩
  rw [← hwq] at HX HN HB ⊢
  clear hwq w2
  go_loopw [12] (fun i wr => ∃ (j : Nat), j ≤ 7 ∧ i = .int .i64 (j : Nat) ∧ firstF (rkG true 7 14 names7 name.data.toList l) j = none ∧ wr.heap[g]? = some (.cells (insV insZ).toArray 23 (0, 0)) ∧ wr.heap[gn]? = some (.cells (names7.map fun x => Value.string ⟨⟨x⟩⟩).toArray 9 (0, 0)) ∧ Below w.heap.size w wr) (fun i _ => 7 - (intOf i).toNat)
  case atStart => exact ⟨0, by omega, rfl, rfl, HX.out, HN.out, HB.out⟩
  case round =>
    rename World => wr
    clear HX HN HB
    obtain ⟨j, hj, rfl, hf, hx, hn, hb⟩ := hrel
    have HF := Lib.hid hf
    have HX := Lib.hid hx
    have HN := Lib.hid hn
    have HB := Lib.hid hb
    clear hf hx hn hb
    by_cases hlt : j < 7
    · obtain ⟨s, hs⟩ : ∃ s : ByteArray, s = ⟨⟨names7.getD j []⟩⟩ := ⟨_, rfl⟩
      have c0 : wr.cell? ⟨gn, j, none⟩ = some (.string s) := blk_cell HN.out (by rw [hs]; exact names7_at j hlt)
      have cl := blk_lt HN.out
      have HS := Lib.hid hs
      have HLT := Lib.hid hlt
      have d7 : decide ((j : Int) < 7) = true := decide_eq_true (by omega)
      clear hs
      by_cases he : s = name
      · have dn : (s.toList == name.toList) = true := by rw [he]; simp
        have HSN := Lib.hid (show s.data.toList = name.data.toList by rw [he])
        clear he
        have hb1 := below_alloc (.cells #[.int .i64 1, .int .i64 1] 3) (Below.refl wr.heap.size wr)
        have HBa := Lib.hid (HB.out.trans (hb1.mono HB.out.size))
        have HXa := Lib.hid (blk_below HX.out hb1)
        have HNa := Lib.hid (blk_below HN.out hb1)
        clear hb1
        go_wp2_with fail
        refine (kinds_any _ B (.slice Av nv cv) l (own_below HROW.out HBa.out) HLEN.out [1, 1] (by decide) wr.heap.size 2 #[.int .i64 1, .int .i64 1] rfl rfl (blk_new wr _)).mono ?_
        rintro e w2 ⟨rfl, hb2⟩
        have HB2 := Lib.hid (HBa.out.trans (hb2.mono HBa.out.size))
        have HX2 := Lib.hid (blk_below HXa.out hb2)
        have HN2 := Lib.hid (blk_below HNa.out hb2)
        clear hb2
        clear HB HX HN dn c0 cl
        cases hk : kindsB l [1, 1] with
        | true =>
          obtain ⟨o, q, rfl, hok, hqk⟩ := kinds_two hk
          have HOK := Lib.hid hok
          have HQK := Lib.hid hqk
          clear hok hqk hk
          obtain rfl : nv = 2 := HNV.out
          obtain ⟨gl, rfl, hcell⟩ := RowO.cells (own_below HROW.out HB2.out) rfl (i := 0) rfl
          obtain ⟨gl2, e2, hcell2⟩ := RowO.cells (own_below HROW.out HB2.out) rfl (i := 1) rfl
          cases e2
          have r1 : w2.cell? ⟨gl, 1, none⟩ = some (.int .i64 o.reg) := hcell 1 (by decide)
          have r3 : w2.cell? ⟨gl, 3, none⟩ = some (.int .i64 o.num) := hcell 3 (by decide)
          have r6 : w2.cell? ⟨gl, 6, none⟩ = some (.int .i64 q.reg) := hcell2 1 (by decide)
          have r8 : w2.cell? ⟨gl, 8, none⟩ = some (.int .i64 q.num) := hcell2 3 (by decide)
          have rl := World.block_lt_of_cell? _ _ r1
          clear hcell hcell2
          go_upto_region 6 with (fail)
          refine upto_begin 11 (fun w' => w'.cell? ⟨gl, 1, none⟩ = some (.int .i64 o.reg) ∧ w'.cell? ⟨gl, 3, none⟩ = some (.int .i64 o.num) ∧ w'.cell? ⟨gl, 6, none⟩ = some (.int .i64 q.reg) ∧ w'.cell? ⟨gl, 8, none⟩ = some (.int .i64 q.num)) (by kernel_rfl) ?_ (fun hU0 => ?_)
          · exact ⟨r1, r3, r6, r8⟩
          refine ur 0 (v := ?_) hU0 rfl (by kernel_rfl) (fun _ _ _ h => h) rfl ?_ ?_
          rotate_left
          focus intro w _; go_simp; first | done | with_reducible rfl
          try simp only [Act.put, List.setIfInBounds_toArray, List.set_cons_zero, List.set_cons_succ]
          refine ur 1 (v := .int .i64 (7 + (j : Int))) hU0 rfl (by kernel_rfl) (fun _ _ _ h => h) rfl ?_ ?_
          · intro w _
            have hw := IntWalk.i64_in (7 + (j : Int)) (by omega)
            go_simp
            try rw [hw]
          try simp only [Act.put, List.setIfInBounds_toArray, List.set_cons_zero, List.set_cons_succ]
          refine ur 2 (v := ?_) hU0 rfl (by kernel_rfl) (fun _ _ _ h => h) rfl ?_ ?_
          rotate_left
          focus intro w _; go_simp; first | done | with_reducible rfl
          try simp only [Act.put, List.setIfInBounds_toArray, List.set_cons_zero, List.set_cons_succ]
          refine ur 3 (v := ?_) hU0 rfl (by kernel_rfl) (fun _ _ _ h => h) rfl ?_ ?_
          rotate_left
          focus intro w _; go_simp; first | done | with_reducible rfl
          try simp only [Act.put, List.setIfInBounds_toArray, List.set_cons_zero, List.set_cons_succ]
          refine ur 4 (v := ?_) hU0 rfl (by kernel_rfl) (fun _ _ _ h => h) rfl ?_ ?_
          rotate_left
          focus intro w _; go_simp; first | done | with_reducible rfl
          try simp only [Act.put, List.setIfInBounds_toArray, List.set_cons_zero, List.set_cons_succ]
          refine urd 5 (v := ?_) hU0 rfl (by kernel_rfl) (fun _ _ _ h => h) rfl ?_ ?_
          rotate_left
          focus intro w hSw; (try dsimp only at hSw); go_simp; first | done | with_reducible rfl
          try simp only [Act.put, List.setIfInBounds_toArray, List.set_cons_zero, List.set_cons_succ]
          refine ur 6 (v := ?_) hU0 rfl (by kernel_rfl) (fun _ _ _ h => h) rfl ?_ ?_
          rotate_left
          focus intro w _; go_simp; first | done | with_reducible rfl
          try simp only [Act.put, List.setIfInBounds_toArray, List.set_cons_zero, List.set_cons_succ]
          refine ur 7 (v := ?_) hU0 rfl (by kernel_rfl) (fun _ _ _ h => h) rfl ?_ ?_
          rotate_left
          focus intro w _; go_simp; first | done | with_reducible rfl
          try simp only [Act.put, List.setIfInBounds_toArray, List.set_cons_zero, List.set_cons_succ]
          refine ur 8 (v := ?_) hU0 rfl (by kernel_rfl) (fun _ _ _ h => h) rfl ?_ ?_
          rotate_left
          focus intro w _; go_simp; first | done | with_reducible rfl
          try simp only [Act.put, List.setIfInBounds_toArray, List.set_cons_zero, List.set_cons_succ]
          refine urd 9 (v := ?_) hU0 rfl (by kernel_rfl) (fun _ _ _ h => h) rfl ?_ ?_
          rotate_left
          focus intro w hSw; (try dsimp only at hSw); go_simp; first | done | with_reducible rfl
          try simp only [Act.put, List.setIfInBounds_toArray, List.set_cons_zero, List.set_cons_succ]
          refine ur 10 (v := ?_) hU0 rfl (by kernel_rfl) (fun _ _ _ h => h) rfl ?_ ?_
          rotate_left
          focus intro w _; go_simp; first | done | with_reducible rfl
          try simp only [Act.put, List.setIfInBounds_toArray, List.set_cons_zero, List.set_cons_succ]
          refine upto_next 11 rfl (by kernel_rfl) (fun K hK => ?_)
          refine step_store_blk rfl 23 _ _ rfl g rfl rfl HX2.out rfl (by kernel_rfl) (by kernel_rfl) ?_
          intro x7 k7 hb7 hz7 ho7
          obtain ⟨q0, q1, q2, q3, q4, q5, q6, q7⟩ := cq k7
          try go_simp
          first | refine hK.out _ _ ?_ fun hU1 => ?_ | (go_wp2_with fail; refine hK.out _ _ ?_ fun hU1 => ?_)
          · exact Or.inl (by kernel_rfl)
          clear hK K
          clear hU0
          try simp only [Act.put, List.setIfInBounds_toArray, List.set_cons_zero, List.set_cons_succ]
          refine ur 12 (v := ?_) hU1 rfl (by kernel_rfl) (fun _ _ _ h => h) rfl ?_ ?_
          rotate_left
          focus intro w _; go_simp; first | done | with_reducible rfl
          try simp only [Act.put, List.setIfInBounds_toArray, List.set_cons_zero, List.set_cons_succ]
          refine upto_done (by kernel_rfl) ?_ _
          clear r1 r3 r6 r8 rl
          go_wp2_with fail
          refine bodyPost_ret (by simp [results, Tryz.results47, go_sem, q0, q1, q2, q3, q4, q5, q6, q7]; try rfl) rfl ?_
          have h1 : rkG true 7 14 names7 name.data.toList [o, q] j = some { insZ with op := 7 + (j : Int), src := o.reg, dst := q.reg } := by unfold rkG; rw [if_pos (by rw [← HSN.out, HS.out])]; exact (show (if _ then _ else _) = _ from (if_pos ⟨HOK.out, HQK.out⟩).trans rfl)
          have hf : reckonF name.data.toList [o, q] = some { insZ with op := 7 + (j : Int), src := o.reg, dst := q.reg } := by unfold reckonF; rw [firstF_hit HF.out h1 HLT.out]
          exact ⟨_, true, rfl, (fun y hy => by rw [hf] at hy; cases hy; exact ⟨rfl, rfl⟩), (fun h => by rw [hf] at h; cases h), hb7 _ _ HGE.out (by first | exact HB2.out | exact Below.drew HB2.out)⟩
        | false =>
          have HK11 := Lib.hid hk
          clear hk
          have hb1 := below_alloc (.cells #[.int .i64 2, .int .i64 1] 3) (Below.refl w2.heap.size w2)
          have HBa := Lib.hid (HB2.out.trans (hb1.mono HB2.out.size))
          have HXa := Lib.hid (blk_below HX2.out hb1)
          have HNa := Lib.hid (blk_below HN2.out hb1)
          clear hb1
          go_wp2_with fail
          refine (kinds_any _ B (.slice Av nv cv) l (own_below HROW.out HBa.out) HLEN.out [2, 1] (by decide) w2.heap.size 2 #[.int .i64 2, .int .i64 1] rfl rfl (blk_new w2 _)).mono ?_
          rintro e w3 ⟨rfl, hb2⟩
          have HB3 := Lib.hid (HBa.out.trans (hb2.mono HBa.out.size))
          have HX3 := Lib.hid (blk_below HXa.out hb2)
          have HN3 := Lib.hid (blk_below HNa.out hb2)
          clear hb2
          clear HB2 HX2 HN2
          cases hk : kindsB l [2, 1] with
          | true =>
            obtain ⟨o, q, rfl, hok, hqk⟩ := kinds_two hk
            have HOK := Lib.hid hok
            have HQK := Lib.hid hqk
            clear hok hqk hk
            obtain rfl : nv = 2 := HNV.out
            obtain ⟨gl, rfl, hcell⟩ := RowO.cells (own_below HROW.out HB3.out) rfl (i := 0) rfl
            obtain ⟨gl2, e2, hcell2⟩ := RowO.cells (own_below HROW.out HB3.out) rfl (i := 1) rfl
            cases e2
            have r1 : w3.cell? ⟨gl, 1, none⟩ = some (.int .i64 o.reg) := hcell 1 (by decide)
            have r3 : w3.cell? ⟨gl, 3, none⟩ = some (.int .i64 o.num) := hcell 3 (by decide)
            have r6 : w3.cell? ⟨gl, 6, none⟩ = some (.int .i64 q.reg) := hcell2 1 (by decide)
            have r8 : w3.cell? ⟨gl, 8, none⟩ = some (.int .i64 q.num) := hcell2 3 (by decide)
            have rl := World.block_lt_of_cell? _ _ r1
            clear hcell hcell2
            go_upto_region 8 with (fail)
            refine upto_begin 11 (fun w' => w'.cell? ⟨gl, 1, none⟩ = some (.int .i64 o.reg) ∧ w'.cell? ⟨gl, 3, none⟩ = some (.int .i64 o.num) ∧ w'.cell? ⟨gl, 6, none⟩ = some (.int .i64 q.reg) ∧ w'.cell? ⟨gl, 8, none⟩ = some (.int .i64 q.num)) (by kernel_rfl) ?_ (fun hU0 => ?_)
            · exact ⟨r1, r3, r6, r8⟩
            refine ur 0 (v := ?_) hU0 rfl (by kernel_rfl) (fun _ _ _ h => h) rfl ?_ ?_
            rotate_left
            focus intro w _; go_simp; first | done | with_reducible rfl
            try simp only [Act.put, List.setIfInBounds_toArray, List.set_cons_zero, List.set_cons_succ]
            refine ur 1 (v := .int .i64 (14 + (j : Int))) hU0 rfl (by kernel_rfl) (fun _ _ _ h => h) rfl ?_ ?_
            · intro w _
              have hw := IntWalk.i64_in (14 + (j : Int)) (by omega)
              go_simp
              try rw [hw]
            try simp only [Act.put, List.setIfInBounds_toArray, List.set_cons_zero, List.set_cons_succ]
            refine ur 2 (v := ?_) hU0 rfl (by kernel_rfl) (fun _ _ _ h => h) rfl ?_ ?_
            rotate_left
            focus intro w _; go_simp; first | done | with_reducible rfl
            try simp only [Act.put, List.setIfInBounds_toArray, List.set_cons_zero, List.set_cons_succ]
            refine ur 3 (v := ?_) hU0 rfl (by kernel_rfl) (fun _ _ _ h => h) rfl ?_ ?_
            rotate_left
            focus intro w _; go_simp; first | done | with_reducible rfl
            try simp only [Act.put, List.setIfInBounds_toArray, List.set_cons_zero, List.set_cons_succ]
            refine ur 4 (v := ?_) hU0 rfl (by kernel_rfl) (fun _ _ _ h => h) rfl ?_ ?_
            rotate_left
            focus intro w _; go_simp; first | done | with_reducible rfl
            try simp only [Act.put, List.setIfInBounds_toArray, List.set_cons_zero, List.set_cons_succ]
            refine urd 5 (v := ?_) hU0 rfl (by kernel_rfl) (fun _ _ _ h => h) rfl ?_ ?_
            rotate_left
            focus intro w hSw; (try dsimp only at hSw); go_simp; first | done | with_reducible rfl
            try simp only [Act.put, List.setIfInBounds_toArray, List.set_cons_zero, List.set_cons_succ]
            refine ur 6 (v := ?_) hU0 rfl (by kernel_rfl) (fun _ _ _ h => h) rfl ?_ ?_
            rotate_left
            focus intro w _; go_simp; first | done | with_reducible rfl
            try simp only [Act.put, List.setIfInBounds_toArray, List.set_cons_zero, List.set_cons_succ]
            refine ur 7 (v := ?_) hU0 rfl (by kernel_rfl) (fun _ _ _ h => h) rfl ?_ ?_
            rotate_left
            focus intro w _; go_simp; first | done | with_reducible rfl
            try simp only [Act.put, List.setIfInBounds_toArray, List.set_cons_zero, List.set_cons_succ]
            refine ur 8 (v := ?_) hU0 rfl (by kernel_rfl) (fun _ _ _ h => h) rfl ?_ ?_
            rotate_left
            focus intro w _; go_simp; first | done | with_reducible rfl
            try simp only [Act.put, List.setIfInBounds_toArray, List.set_cons_zero, List.set_cons_succ]
            refine urd 9 (v := ?_) hU0 rfl (by kernel_rfl) (fun _ _ _ h => h) rfl ?_ ?_
            rotate_left
            focus intro w hSw; (try dsimp only at hSw); go_simp; first | done | with_reducible rfl
            try simp only [Act.put, List.setIfInBounds_toArray, List.set_cons_zero, List.set_cons_succ]
            refine ur 10 (v := ?_) hU0 rfl (by kernel_rfl) (fun _ _ _ h => h) rfl ?_ ?_
            rotate_left
            focus intro w _; go_simp; first | done | with_reducible rfl
            try simp only [Act.put, List.setIfInBounds_toArray, List.set_cons_zero, List.set_cons_succ]
            refine upto_next 11 rfl (by kernel_rfl) (fun K hK => ?_)
            refine step_store_blk rfl 23 _ _ rfl g rfl rfl HX3.out rfl (by kernel_rfl) (by kernel_rfl) ?_
            intro x7 k7 hb7 hz7 ho7
            obtain ⟨q0, q1, q2, q3, q4, q5, q6, q7⟩ := cq k7
            try go_simp
            first | refine hK.out _ _ ?_ fun hU1 => ?_ | (go_wp2_with fail; refine hK.out _ _ ?_ fun hU1 => ?_)
            · exact Or.inl (by kernel_rfl)
            clear hK K
            clear hU0
            try simp only [Act.put, List.setIfInBounds_toArray, List.set_cons_zero, List.set_cons_succ]
            refine ur 12 (v := ?_) hU1 rfl (by kernel_rfl) (fun _ _ _ h => h) rfl ?_ ?_
            rotate_left
            focus intro w _; go_simp; first | done | with_reducible rfl
            try simp only [Act.put, List.setIfInBounds_toArray, List.set_cons_zero, List.set_cons_succ]
            refine upto_done (by kernel_rfl) ?_ _
            clear r1 r3 r6 r8 rl
            go_wp2_with fail
            refine bodyPost_ret (by simp [results, Tryz.results47, go_sem, q0, q1, q2, q3, q4, q5, q6, q7]; try rfl) rfl ?_
            have h1 : rkG true 7 14 names7 name.data.toList [o, q] j = some { insZ with op := 14 + (j : Int), imm := o.num, dst := q.reg } := by unfold rkG; rw [if_pos (by rw [← HSN.out, HS.out])]; exact (show (if _ then _ else _) = _ from (if_neg (by rw [HOK.out]; simp)).trans ((if_pos ⟨HOK.out, HQK.out⟩).trans rfl))
            have hf : reckonF name.data.toList [o, q] = some { insZ with op := 14 + (j : Int), imm := o.num, dst := q.reg } := by unfold reckonF; rw [firstF_hit HF.out h1 HLT.out]
            exact ⟨_, true, rfl, (fun y hy => by rw [hf] at hy; cases hy; exact ⟨rfl, rfl⟩), (fun h => by rw [hf] at h; cases h), hb7 _ _ HGE.out (by first | exact HB3.out | exact Below.drew HB3.out)⟩
          | false =>
            have HK21 := Lib.hid hk
            clear hk
            go_wp2_with fail
            go_roundw
            case rel => exact ⟨j + 1, by have := HLT.out; omega, by go_num, firstF_next HF.out (rkG_no HK11.out HK21.out), HX3.out, HN3.out, HB3.out⟩
            case measure => have := HLT.out; simp [intOf]; omega
      · have dn : (s.toList == name.toList) = false := by rw [Lib.toList_data, Lib.toList_data]; exact beq_eq_false_iff_ne.2 (fun h => he (ByteArray.ext (Array.ext' h)))
        have HSN := Lib.hid (show names7.getD j [] ≠ name.data.toList from fun h => he (by rw [HS.out]; exact ByteArray.ext (Array.ext' h)))
        clear he
        go_wp2_with fail
        go_roundw
        case rel => exact ⟨j + 1, by have := HLT.out; omega, by go_num, firstF_next HF.out (rkG_ne HSN.out), HX.out, HN.out, HB.out⟩
        case measure => have := HLT.out; simp [intOf]; omega
    · have e : j = 7 := by omega
      subst e
      clear hlt hj

      have HF7 := Lib.hid HF.out
      have HFC := Lib.hid (fields_any wr (HG.out.below HB.out) ⟨#[115, 104, 108, 113, 32, 115, 97, 114, 113, 32, 115, 104, 114, 113]⟩ (by decide) (by kernel_rfl) names3 3 (by kernel_rfl) rfl)
      clear HN HF
      go_wp2_with fail
      refine HFC.out.mono ?_
      rintro e w2 ⟨rfl, hw2⟩
      have hb2 : Below wr.heap.size wr w2 := by rw [hw2]; exact below_alloc _ (Below.refl _ _)
      have HN := Lib.hid (show w2.heap[wr.heap.size]? = some (.cells (names3.map fun x => Value.string ⟨⟨x⟩⟩).toArray 9 (0, 0)) by rw [hw2]; exact blk_new _ _)
      have HX1 := Lib.hid (blk_below HX.out hb2)
      have HB1 := Lib.hid (HB.out.trans (hb2.mono HB.out.size))
      obtain ⟨gn2, hgn⟩ : ∃ z, z = wr.heap.size := ⟨_, rfl⟩
      rw [← hgn] at HN ⊢
      clear hw2 hb2 hgn HFC HX HB
      have HX := Lib.hid HX1.out
      have HB := Lib.hid HB1.out
      clear HX1 HB1
      go_wp2_with fail
      obtain ⟨wq, hwq⟩ : ∃ wq, wq = w2 := ⟨_, rfl⟩
      rw [← hwq] at HX HN HB ⊢
      clear hwq w2
      go_loopw [54] (fun i wr => ∃ (j : Nat), j ≤ 3 ∧ i = .int .i64 (j : Nat) ∧ firstF (rkG false 21 24 names3 name.data.toList l) j = none ∧ wr.heap[g]? = some (.cells (insV insZ).toArray 23 (0, 0)) ∧ wr.heap[gn2]? = some (.cells (names3.map fun x => Value.string ⟨⟨x⟩⟩).toArray 9 (0, 0)) ∧ Below w.heap.size w wr) (fun i _ => 3 - (intOf i).toNat)
      case atStart => exact ⟨0, by omega, rfl, rfl, HX.out, HN.out, HB.out⟩
      case round =>
        rename World => wr
        clear HX HN HB
        obtain ⟨j, hj, rfl, hf, hx, hn, hb⟩ := hrel
        have HF := Lib.hid hf
        have HX := Lib.hid hx
        have HN := Lib.hid hn
        have HB := Lib.hid hb
        clear hf hx hn hb
        by_cases hlt : j < 3
        · obtain ⟨s, hs⟩ : ∃ s : ByteArray, s = ⟨⟨names3.getD j []⟩⟩ := ⟨_, rfl⟩
          have c0 : wr.cell? ⟨gn2, j, none⟩ = some (.string s) := blk_cell HN.out (by rw [hs]; exact names3_at j hlt)
          have cl := blk_lt HN.out
          have HS := Lib.hid hs
          have HLT := Lib.hid hlt
          have d7 : decide ((j : Int) < 3) = true := decide_eq_true (by omega)
          clear hs
          by_cases he : s = name
          · have dn : (s.toList == name.toList) = true := by rw [he]; simp
            have HSN := Lib.hid (show s.data.toList = name.data.toList by rw [he])
            clear he
            have hb1 := below_alloc (.cells #[.int .i64 1, .int .i64 1] 3) (Below.refl wr.heap.size wr)
            have HBa := Lib.hid (HB.out.trans (hb1.mono HB.out.size))
            have HXa := Lib.hid (blk_below HX.out hb1)
            have HNa := Lib.hid (blk_below HN.out hb1)
            clear hb1
            go_wp2_with fail
            refine (kinds_any _ B (.slice Av nv cv) l (own_below HROW.out HBa.out) HLEN.out [1, 1] (by decide) wr.heap.size 2 #[.int .i64 1, .int .i64 1] rfl rfl (blk_new wr _)).mono ?_
            rintro e w2 ⟨rfl, hb2⟩
            have HB2 := Lib.hid (HBa.out.trans (hb2.mono HBa.out.size))
            have HX2 := Lib.hid (blk_below HXa.out hb2)
            have HN2 := Lib.hid (blk_below HNa.out hb2)
            clear hb2
            clear HB HX HN dn c0 cl
            cases hk : kindsB l [1, 1] with
            | true =>
              obtain ⟨o, q, rfl, hok, hqk⟩ := kinds_two hk
              have HOK := Lib.hid hok
              have HQK := Lib.hid hqk
              clear hok hqk hk
              obtain rfl : nv = 2 := HNV.out
              obtain ⟨gl, rfl, hcell⟩ := RowO.cells (own_below HROW.out HB2.out) rfl (i := 0) rfl
              obtain ⟨gl2, e2, hcell2⟩ := RowO.cells (own_below HROW.out HB2.out) rfl (i := 1) rfl
              cases e2
              have r1 : w2.cell? ⟨gl, 1, none⟩ = some (.int .i64 o.reg) := hcell 1 (by decide)
              have r3 : w2.cell? ⟨gl, 3, none⟩ = some (.int .i64 o.num) := hcell 3 (by decide)
              have r6 : w2.cell? ⟨gl, 6, none⟩ = some (.int .i64 q.reg) := hcell2 1 (by decide)
              have r8 : w2.cell? ⟨gl, 8, none⟩ = some (.int .i64 q.num) := hcell2 3 (by decide)
              have rl := World.block_lt_of_cell? _ _ r1
              clear hcell hcell2
              have hj7 := HLT.out
              go_wp2_with (refine wsx g rfl rfl rfl rfl HX2 (by kernel_rfl) ?_; intro x7 k7 hb7 hz7 ho7; obtain ⟨q0, q1, q2, q3, q4, q5, q6, q7⟩ := cq k7)
              refine bodyPost_ret (by simp [results, Tryz.results47, go_sem, q0, q1, q2, q3, q4, q5, q6, q7]; try rfl) rfl ?_
              have h1 : rkG false 21 24 names3 name.data.toList [o, q] j = some { insZ with op := 21 + (j : Int), dst := q.reg } := by unfold rkG; rw [if_pos (by rw [← HSN.out, HS.out])]; exact (show (if _ then _ else _) = _ from (if_pos ⟨HOK.out, HQK.out⟩).trans rfl)
              have hf : reckonF name.data.toList [o, q] = some { insZ with op := 21 + (j : Int), dst := q.reg } := by unfold reckonF; rw [HF7.out]; exact firstF_hit HF.out h1 HLT.out
              exact ⟨_, true, rfl, (fun y hy => by rw [hf] at hy; cases hy; exact ⟨rfl, rfl⟩), (fun h => by rw [hf] at h; cases h), hb7 _ _ HGE.out (by first | exact HB2.out | exact Below.drew HB2.out)⟩
            | false =>
              have HK11 := Lib.hid hk
              clear hk
              have hb1 := below_alloc (.cells #[.int .i64 2, .int .i64 1] 3) (Below.refl w2.heap.size w2)
              have HBa := Lib.hid (HB2.out.trans (hb1.mono HB2.out.size))
              have HXa := Lib.hid (blk_below HX2.out hb1)
              have HNa := Lib.hid (blk_below HN2.out hb1)
              clear hb1
              go_wp2_with fail
              refine (kinds_any _ B (.slice Av nv cv) l (own_below HROW.out HBa.out) HLEN.out [2, 1] (by decide) w2.heap.size 2 #[.int .i64 2, .int .i64 1] rfl rfl (blk_new w2 _)).mono ?_
              rintro e w3 ⟨rfl, hb2⟩
              have HB3 := Lib.hid (HBa.out.trans (hb2.mono HBa.out.size))
              have HX3 := Lib.hid (blk_below HXa.out hb2)
              have HN3 := Lib.hid (blk_below HNa.out hb2)
              clear hb2
              clear HB2 HX2 HN2
              cases hk : kindsB l [2, 1] with
              | true =>
                obtain ⟨o, q, rfl, hok, hqk⟩ := kinds_two hk
                have HOK := Lib.hid hok
                have HQK := Lib.hid hqk
                clear hok hqk hk
                obtain rfl : nv = 2 := HNV.out
                obtain ⟨gl, rfl, hcell⟩ := RowO.cells (own_below HROW.out HB3.out) rfl (i := 0) rfl
                obtain ⟨gl2, e2, hcell2⟩ := RowO.cells (own_below HROW.out HB3.out) rfl (i := 1) rfl
                cases e2
                have r1 : w3.cell? ⟨gl, 1, none⟩ = some (.int .i64 o.reg) := hcell 1 (by decide)
                have r3 : w3.cell? ⟨gl, 3, none⟩ = some (.int .i64 o.num) := hcell 3 (by decide)
                have r6 : w3.cell? ⟨gl, 6, none⟩ = some (.int .i64 q.reg) := hcell2 1 (by decide)
                have r8 : w3.cell? ⟨gl, 8, none⟩ = some (.int .i64 q.num) := hcell2 3 (by decide)
                have rl := World.block_lt_of_cell? _ _ r1
                clear hcell hcell2
                go_upto_region 17 with (fail)
                refine upto_begin 11 (fun w' => w'.cell? ⟨gl, 1, none⟩ = some (.int .i64 o.reg) ∧ w'.cell? ⟨gl, 3, none⟩ = some (.int .i64 o.num) ∧ w'.cell? ⟨gl, 6, none⟩ = some (.int .i64 q.reg) ∧ w'.cell? ⟨gl, 8, none⟩ = some (.int .i64 q.num)) (by kernel_rfl) ?_ (fun hU0 => ?_)
                · exact ⟨r1, r3, r6, r8⟩
                refine ur 0 (v := ?_) hU0 rfl (by kernel_rfl) (fun _ _ _ h => h) rfl ?_ ?_
                rotate_left
                focus intro w _; go_simp; first | done | with_reducible rfl
                try simp only [Act.put, List.setIfInBounds_toArray, List.set_cons_zero, List.set_cons_succ]
                refine ur 1 (v := .int .i64 (24 + (j : Int))) hU0 rfl (by kernel_rfl) (fun _ _ _ h => h) rfl ?_ ?_
                · intro w _
                  have hw := IntWalk.i64_in (24 + (j : Int)) (by omega)
                  go_simp
                  try rw [hw]
                try simp only [Act.put, List.setIfInBounds_toArray, List.set_cons_zero, List.set_cons_succ]
                refine ur 2 (v := ?_) hU0 rfl (by kernel_rfl) (fun _ _ _ h => h) rfl ?_ ?_
                rotate_left
                focus intro w _; go_simp; first | done | with_reducible rfl
                try simp only [Act.put, List.setIfInBounds_toArray, List.set_cons_zero, List.set_cons_succ]
                refine ur 3 (v := ?_) hU0 rfl (by kernel_rfl) (fun _ _ _ h => h) rfl ?_ ?_
                rotate_left
                focus intro w _; go_simp; first | done | with_reducible rfl
                try simp only [Act.put, List.setIfInBounds_toArray, List.set_cons_zero, List.set_cons_succ]
                refine ur 4 (v := ?_) hU0 rfl (by kernel_rfl) (fun _ _ _ h => h) rfl ?_ ?_
                rotate_left
                focus intro w _; go_simp; first | done | with_reducible rfl
                try simp only [Act.put, List.setIfInBounds_toArray, List.set_cons_zero, List.set_cons_succ]
                refine urd 5 (v := ?_) hU0 rfl (by kernel_rfl) (fun _ _ _ h => h) rfl ?_ ?_
                rotate_left
                focus intro w hSw; (try dsimp only at hSw); go_simp; first | done | with_reducible rfl
                try simp only [Act.put, List.setIfInBounds_toArray, List.set_cons_zero, List.set_cons_succ]
                refine ur 6 (v := ?_) hU0 rfl (by kernel_rfl) (fun _ _ _ h => h) rfl ?_ ?_
                rotate_left
                focus intro w _; go_simp; first | done | with_reducible rfl
                try simp only [Act.put, List.setIfInBounds_toArray, List.set_cons_zero, List.set_cons_succ]
                refine ur 7 (v := ?_) hU0 rfl (by kernel_rfl) (fun _ _ _ h => h) rfl ?_ ?_
                rotate_left
                focus intro w _; go_simp; first | done | with_reducible rfl
                try simp only [Act.put, List.setIfInBounds_toArray, List.set_cons_zero, List.set_cons_succ]
                refine ur 8 (v := ?_) hU0 rfl (by kernel_rfl) (fun _ _ _ h => h) rfl ?_ ?_
                rotate_left
                focus intro w _; go_simp; first | done | with_reducible rfl
                try simp only [Act.put, List.setIfInBounds_toArray, List.set_cons_zero, List.set_cons_succ]
                refine urd 9 (v := ?_) hU0 rfl (by kernel_rfl) (fun _ _ _ h => h) rfl ?_ ?_
                rotate_left
                focus intro w hSw; (try dsimp only at hSw); go_simp; first | done | with_reducible rfl
                try simp only [Act.put, List.setIfInBounds_toArray, List.set_cons_zero, List.set_cons_succ]
                refine ur 10 (v := ?_) hU0 rfl (by kernel_rfl) (fun _ _ _ h => h) rfl ?_ ?_
                rotate_left
                focus intro w _; go_simp; first | done | with_reducible rfl
                try simp only [Act.put, List.setIfInBounds_toArray, List.set_cons_zero, List.set_cons_succ]
                refine upto_next 11 rfl (by kernel_rfl) (fun K hK => ?_)
                refine step_store_blk rfl 23 _ _ rfl g rfl rfl HX3.out rfl (by kernel_rfl) (by kernel_rfl) ?_
                intro x7 k7 hb7 hz7 ho7
                obtain ⟨q0, q1, q2, q3, q4, q5, q6, q7⟩ := cq k7
                try go_simp
                first | refine hK.out _ _ ?_ fun hU1 => ?_ | (go_wp2_with fail; refine hK.out _ _ ?_ fun hU1 => ?_)
                · exact Or.inl (by kernel_rfl)
                clear hK K
                clear hU0
                try simp only [Act.put, List.setIfInBounds_toArray, List.set_cons_zero, List.set_cons_succ]
                refine ur 12 (v := ?_) hU1 rfl (by kernel_rfl) (fun _ _ _ h => h) rfl ?_ ?_
                rotate_left
                focus intro w _; go_simp; first | done | with_reducible rfl
                try simp only [Act.put, List.setIfInBounds_toArray, List.set_cons_zero, List.set_cons_succ]
                refine upto_done (by kernel_rfl) ?_ _
                clear r1 r3 r6 r8 rl
                go_wp2_with fail
                refine bodyPost_ret (by simp [results, Tryz.results47, go_sem, q0, q1, q2, q3, q4, q5, q6, q7]; try rfl) rfl ?_
                have h1 : rkG false 21 24 names3 name.data.toList [o, q] j = some { insZ with op := 24 + (j : Int), imm := o.num, dst := q.reg } := by unfold rkG; rw [if_pos (by rw [← HSN.out, HS.out])]; exact (show (if _ then _ else _) = _ from (if_neg (by rw [HOK.out]; simp)).trans ((if_pos ⟨HOK.out, HQK.out⟩).trans rfl))
                have hf : reckonF name.data.toList [o, q] = some { insZ with op := 24 + (j : Int), imm := o.num, dst := q.reg } := by unfold reckonF; rw [HF7.out]; exact firstF_hit HF.out h1 HLT.out
                exact ⟨_, true, rfl, (fun y hy => by rw [hf] at hy; cases hy; exact ⟨rfl, rfl⟩), (fun h => by rw [hf] at h; cases h), hb7 _ _ HGE.out (by first | exact HB3.out | exact Below.drew HB3.out)⟩
              | false =>
                have HK21 := Lib.hid hk
                clear hk
                go_wp2_with fail
                go_roundw
                case rel => exact ⟨j + 1, by have := HLT.out; omega, by go_num, firstF_next HF.out (rkG_no HK11.out HK21.out), HX3.out, HN3.out, HB3.out⟩
                case measure => have := HLT.out; simp [intOf]; omega
          · have dn : (s.toList == name.toList) = false := by rw [Lib.toList_data, Lib.toList_data]; exact beq_eq_false_iff_ne.2 (fun h => he (ByteArray.ext (Array.ext' h)))
            have HSN := Lib.hid (show names3.getD j [] ≠ name.data.toList from fun h => he (by rw [HS.out]; exact ByteArray.ext (Array.ext' h)))
            clear he
            go_wp2_with fail
            go_roundw
            case rel => exact ⟨j + 1, by have := HLT.out; omega, by go_num, firstF_next HF.out (rkG_ne HSN.out), HX.out, HN.out, HB.out⟩
            case measure => have := HLT.out; simp [intOf]; omega
        · have e : j = 3 := by omega
          subst e
          clear hlt hj

          go_wp2_with (refine wsx g rfl rfl rfl rfl HX (by kernel_rfl) ?_; intro x7 k7 hb7 hz7 ho7; obtain ⟨q0, q1, q2, q3, q4, q5, q6, q7⟩ := cq k7)
          refine bodyPost_ret (by simp [results, Tryz.results47, go_sem, q0, q1, q2, q3, q4, q5, q6, q7]; try rfl) rfl ?_
          have hf : reckonF name.data.toList l = none := by unfold reckonF; rw [HF7.out]; exact HF.out
          exact ⟨insZ, false, rfl, (fun y hy => by rw [hf] at hy; cases hy), fun _ => rfl, hb7 _ _ HGE.out HB.out⟩
end Go.Proofs.YtmmpkkpmlaiapaaGreatDoor
