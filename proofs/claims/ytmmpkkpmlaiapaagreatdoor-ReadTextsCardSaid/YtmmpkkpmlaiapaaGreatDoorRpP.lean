/- read.Parse. No condition. -/
import Derived.Test.YtmmpkkpmlaiapaaGreatDoorQi
namespace Go.Proofs.YtmmpkkpmlaiapaaGreatDoor
open Go.RowKit
set_option linter.unusedVariables false
set_option maxHeartbeats 4000000
set_option maxRecDepth 100000
def itemV (c : XItemD) : List Value := .string c.label :: insV c.ins
def RowI (w : World) (B : Nat) (v : Value) (xs : List XItemD) : Prop := w.ownsRow B 64 9 v xs.length (xs.map itemV).flatten
def datV (p : XDatumD × Value) : List Value := [.int .i64 p.1.kind, .string p.1.name, p.2, .int .i64 p.1.n]
def RowD (w : World) (B : Nat) (v : Value) (xs : List (XDatumD × Value)) : Prop := w.ownsRow B 67 4 v xs.length (xs.map datV).flatten
theorem RowI.slice {w : World} {B : Nat} {v : Value} {xs : List XItemD} (h : RowI w B v xs) : ∃ A cap, v = .slice A xs.length cap := let ⟨A, cap, e, _⟩ := own_slice h; ⟨A, cap, e⟩
theorem RowD.slice {w : World} {B : Nat} {v : Value} {xs : List (XDatumD × Value)} (h : RowD w B v xs) : ∃ A cap, v = .slice A xs.length cap := let ⟨A, cap, e, _⟩ := own_slice h; ⟨A, cap, e⟩
theorem RowI.push {w : World} {B : Nat} {v : Value} {xs : List XItemD} (h : RowI w B v xs) (hB : B ≤ w.heap.size) (x : XItemD) (g : Nat) (hg : g = w.heap.size) (hl : xs.length ≤ 10000000) :
    ∃ v' w', (Builtin.append_ #[32, 32] 32 #[v, .slice (some ⟨g, 0, none⟩) 1 1]).run Tryz.prog (w.alloc (.cells (itemV x).toArray 64)) = .ok v' w' ∧ RowI w' B v' (xs ++ [x]) ∧ Below B w w' ∧ KpT 64 w w' := by
  obtain ⟨i0, z0, q1, q2, q3, q4, q5⟩ := info_partsK (C := 9) (B := 88) (show (Tryz.prog.info? 64).map (fun i => (i.zero.map (·.cells.size), i.size, i.bytes)) = some (some 9, 9, 88) by kernel_rfl)
  obtain ⟨v', w', r1, r2, r3, r4⟩ := append_oneC (P := Tryz.prog) B 32 64 i0 z0 9 88 Tryz.underlying32 q1 q2 q4 q5 q3 (by decide) v xs.length _ h (itemV x).toArray rfl g hg (fun u hu => by
    simp only [itemV, insV, List.mem_cons, List.not_mem_nil, or_false] at hu
    rcases hu with e | e | e | e | e | e | e | e | e <;> subst e <;> rfl) (by unfold maxLen; omega) (by omega) hB
  refine ⟨v', w', r1, ?_, below_of_grown (Below.refl _ _) hB r3 (fun k hk => ?_), kpT_grown h r3⟩
  · unfold RowI
    rw [List.length_append, List.map_append, List.flatten_append]
    simpa using r2
  · rcases h.2 with ⟨rfl, e2⟩ | ⟨g', cap, cur, rfl, k1, k2, _⟩
    · simp [Value.ownBlock] at hk
    · simp only [Value.ownBlock, Option.some.injEq] at hk
      omega
theorem RowD.push {w : World} {B : Nat} {v : Value} {xs : List (XDatumD × Value)} (h : RowD w B v xs) (hB : B ≤ w.heap.size) (x : XDatumD × Value) (hx : x.2.oneCell' = true) (g : Nat) (hg : g = w.heap.size) (hl : xs.length ≤ 10000000) :
    ∃ v' w', (Builtin.append_ #[31, 31] 31 #[v, .slice (some ⟨g, 0, none⟩) 1 1]).run Tryz.prog (w.alloc (.cells (datV x).toArray 67)) = .ok v' w' ∧ RowD w' B v' (xs ++ [x]) ∧ Below B w w' ∧ KpT 67 w w' := by
  obtain ⟨i0, z0, q1, q2, q3, q4, q5⟩ := info_partsK (C := 4) (B := 56) (show (Tryz.prog.info? 67).map (fun i => (i.zero.map (·.cells.size), i.size, i.bytes)) = some (some 4, 4, 56) by kernel_rfl)
  obtain ⟨v', w', r1, r2, r3, r4⟩ := append_oneC (P := Tryz.prog) B 31 67 i0 z0 4 56 Tryz.underlying31 q1 q2 q4 q5 q3 (by decide) v xs.length _ h (datV x).toArray rfl g hg (fun u hu => by
    simp only [datV, List.mem_cons, List.not_mem_nil, or_false] at hu
    rcases hu with e | e | e | e <;> subst e <;> first | rfl | exact hx) (by unfold maxLen; omega) (by omega) hB
  refine ⟨v', w', r1, ?_, below_of_grown (Below.refl _ _) hB r3 (fun k hk => ?_), kpT_grown h r3⟩
  · unfold RowD
    rw [List.length_append, List.map_append, List.flatten_append]
    simpa using r2
  · rcases h.2 with ⟨rfl, e2⟩ | ⟨g', cap, cur, rfl, k1, k2, _⟩
    · simp [Value.ownBlock] at hk
    · simp only [Value.ownBlock, Option.some.injEq] at hk
      omega
theorem bad_any (w : World) (i : Int) (hi : -10 ≤ i ∧ i ≤ 10000000) : Calls Tryz.prog 30 #[.int .i64 i] w fun e w' => e = .returned (.tuple #[.agg #[.slice none 0 0, .slice none 0 0], .agg #[.int .i64 30, .int .i64 (i + 1)]]) ∧ Below w.heap.size w w' := by
  have hw := IntWalk.i64_in (i + 1) (by omega)
  go_enter Tryz.func30, Tryz.ntmps30
  go_wp2_with fail
  go_returns
  exact ⟨rfl, below_alloc _ (below_alloc _ (Below.refl _ _))⟩
def PrsO (s : ByteArray) (w : World) (e : Ending) (w' : World) : Prop := ∃ (vd vc : Value) (dvs : List (XDatumD × Value)) (cs : List XItemD) (fk fa : Int), e = .returned (.tuple #[.agg #[vd, vc], .agg #[.int .i64 fk, .int .i64 fa]]) ∧
  ParP s ⟨dvs.map (·.1), cs⟩ fk fa ∧ (fk ≠ 0 → vd = .slice none 0 0 ∧ vc = .slice none 0 0) ∧ RowD w' w.heap.size vd dvs ∧ (∀ q ∈ dvs, RowU w' w.heap.size q.2 q.1.data) ∧ RowI w' w.heap.size vc cs ∧ Below w.heap.size w w'
structure PM (wr : World) (B gp gl g2 g3 : Nat) (ls : List ByteArray) (dvs : List (XDatumD × Value)) (cs : List XItemD) (vd vc : Value) : Prop where
  box : wr.heap[gp]? = some (.cells #[vd, vc] 34 (0, 0))
  rd : RowD wr B vd dvs
  ru : ∀ q ∈ dvs, RowU wr B q.2 q.1.data
  ri : RowI wr B vc cs
  hl : wr.heap[gl]? = some (.cells (ls.map Value.string).toArray 9 (0, 0))
  hx : wr.heap[g2]? = some (.cells #[.slice none 0 0, .slice none 0 0] 34 (0, 0))
  hy : wr.heap[g3]? = some (.cells #[.int .i64 0, .int .i64 0] 38 (0, 0))
  hb : B ≤ wr.heap.size
section
variable {wr w' w6 : World} {B gp gl g2 g3 : Nat} {ls : List ByteArray} {dvs : List (XDatumD × Value)} {cs : List XItemD} {vd vc v2 : Value}
theorem PM.below (h : PM wr B gp gl g2 g3 ls dvs cs vd vc) (hb : Below wr.heap.size wr w') : PM w' B gp gl g2 g3 ls dvs cs vd vc :=
  ⟨blk_below h.box hb, own_below h.rd hb, fun q hq => own_below (h.ru q hq) hb, own_below h.ri hb, blk_below h.hl hb, blk_below h.hx hb, blk_below h.hy hb, Nat.le_trans h.hb hb.size⟩
theorem PM.kept {T : TypeId} (h : PM wr B gp gl g2 g3 ls dvs cs vd vc) (hk : KpT T wr w') (h1 : 34 ≠ T) (h2 : 67 ≠ T) (h3 : 5 ≠ T) (h4 : 64 ≠ T) (h5 : 9 ≠ T) (h6 : 38 ≠ T) : PM w' B gp gl g2 g3 ls dvs cs vd vc :=
  ⟨hk.cells h.box h1, hk.own h.rd h2, fun q hq => hk.own (h.ru q hq) h3, hk.own h.ri h4, hk.cells h.hl h5, hk.cells h.hx h1, hk.cells h.hy h6, Nat.le_trans h.hb hk.1⟩
theorem PM.pushD (h : PM wr B gp gl g2 g3 ls dvs cs vd vc) {x : XDatumD × Value} (hr : RowD w6 B v2 (dvs ++ [x])) (hk : KpT 67 wr w6) (hu : RowU wr B x.2 x.1.data) (hg : gp ≠ g2) :
    PM (w6.setCell ⟨gp, 0, none⟩ v2) B gp gl g2 g3 ls (dvs ++ [x]) cs v2 vc := by
  have hb6 := hk.cells h.box (by decide)
  have k7 := kpT_set (i := 0) hb6 v2
  refine ⟨blk_setCell (i := 0) hb6 v2, k7.own hr (by decide), fun q hq => ?_, k7.own (hk.own h.ri (by decide)) (by decide), k7.cells (hk.cells h.hl (by decide)) (by decide), ?_, k7.cells (hk.cells h.hy (by decide)) (by decide), Nat.le_trans h.hb (Nat.le_trans hk.1 k7.1)⟩
  · rcases List.mem_append.1 hq with h1 | h1
    · exact k7.own (hk.own (h.ru q h1) (by decide)) (by decide)
    · rw [List.mem_singleton.1 h1]
      exact k7.own (hk.own hu (by decide)) (by decide)
  · rw [Below.heap_setCell _ _ _ _ (show g2 ≠ gp from Ne.symm hg)]
    exact hk.cells h.hx (by decide)
theorem PM.pushI (h : PM wr B gp gl g2 g3 ls dvs cs vd vc) {x : XItemD} (hr : RowI w6 B v2 (cs ++ [x])) (hk : KpT 64 wr w6) (hg : gp ≠ g2) :
    PM (w6.setCell ⟨gp, 1, none⟩ v2) B gp gl g2 g3 ls dvs (cs ++ [x]) vd v2 := by
  have hb6 := hk.cells h.box (by decide)
  have k7 := kpT_set (i := 1) hb6 v2
  refine ⟨blk_setCell (i := 1) hb6 v2, k7.own (hk.own h.rd (by decide)) (by decide), fun q hq => k7.own (hk.own (h.ru q hq) (by decide)) (by decide), k7.own hr (by decide), k7.cells (hk.cells h.hl (by decide)) (by decide), ?_, k7.cells (hk.cells h.hy (by decide)) (by decide), Nat.le_trans h.hb (Nat.le_trans hk.1 k7.1)⟩
  rw [Below.heap_setCell _ _ _ _ (show g2 ≠ gp from Ne.symm hg)]
  exact hk.cells h.hx (by decide)
end
theorem parse_text (w : World) (hR : RdOk w) (hG : GsOk w) (s : ByteArray) (hs : s.size ≤ 900000) : Calls Tryz.prog 11 #[.string s] w (PrsO s w) := by
  have HR := Lib.hid hR
  have HG := Lib.hid hG
  have HS := Lib.hid hs
  have d1 : decide ((s.size : Int) > 40000000) = false := decide_eq_false (by omega)
  clear hR hG hs
  obtain ⟨w1, hw1⟩ : ∃ z, z = (w.alloc (.cells #[.slice none 0 0, .slice none 0 0] 34)).alloc (.cells #[.int .i64 0, .int .i64 0] 38) := ⟨_, rfl⟩
  have HB1 := Lib.hid (show Below w.heap.size w w1 by rw [hw1]; exact below_alloc _ (below_alloc _ (Below.refl _ _)))
  have HX1 := Lib.hid (show w1.heap[w.heap.size]? = some (.cells #[.slice none 0 0, .slice none 0 0] 34 (0, 0)) by rw [hw1]; exact blk_alloc (blk_new w _) _)
  have HY1 := Lib.hid (show w1.heap[w.heap.size + 1]? = some (.cells #[.int .i64 0, .int .i64 0] 38 (0, 0)) by rw [hw1]; have h := blk_new (w.alloc (.cells #[.slice none 0 0, .slice none 0 0] 34)) (.cells #[.int .i64 0, .int .i64 0] 38); rw [World.size_alloc] at h; exact h)
  go_enter Tryz.func11, Tryz.ntmps11
  go_upto_region 1 with (fail)
  rw [← hw1]
  obtain ⟨g2, hg2⟩ : ∃ z, z = w.heap.size := ⟨_, rfl⟩
  obtain ⟨g3, hg3⟩ : ∃ z, z = w.heap.size + 1 := ⟨_, rfl⟩
  have HG2 := Lib.hid (show w.heap.size ≤ g2 by omega)
  have HG3 := Lib.hid (show w.heap.size ≤ g3 by omega)
  have HNE := Lib.hid (show g3 ≠ g2 by omega)
  have HNE2 := Lib.hid (show g2 ≠ g3 by omega)
  rw [← hg2] at HX1
  rw [← hg3] at HY1
  rw [← hg3, ← hg2]
  clear hw1 hg2 hg3
  obtain ⟨ls, hls⟩ : ∃ z, z = linesB s := ⟨_, rfl⟩
  obtain ⟨M, hM⟩ : ∃ M, ls.length = M + 1 := ⟨Lib.countB s nlB, by rw [hls]; exact piecesS_len (sep := nlB) (by decide) s⟩
  obtain ⟨mm, hmm⟩ := (HR.out.later HB1.out).ml
  have HMB := Lib.hid (show M ≤ 900001 by
    have h1 := piecesS_len (sep := nlB) (by decide) s
    have h2 := countS_le (sep := nlB) (by decide) s
    have h3 := HS.out
    rw [hls] at hM
    change (piecesS nlB s).length = _ at hM
    omega)
  have HPL := Lib.hid (show ∀ p ∈ ls, p.size ≤ 900000 by rw [hls]; exact fun p hp => Nat.le_trans (piecesS_le hp) HS.out)
  have HSP := Lib.hid (show Calls Tryz.prog 31 #[.string s, .string ⟨#[10]⟩] w1 (fun e w' => e = .returned (.slice (some ⟨w1.heap.size, 0, none⟩) (M + 1) (M + 1)) ∧ w' = w1.alloc (.cells (ls.map Value.string).toArray 9)) from by
    have h := Tryz.strings_Split s ⟨#[10]⟩ mm w1 (by have := HS.out; omega) hmm (by decide)
    rw [show (⟨#[10]⟩ : ByteArray) = nlB from rfl, ← piecesS_len (by decide) s, show Lib.splitB nlB 0 (Lib.countB s nlB) s = linesB s from rfl, show piecesS nlB s = linesB s from rfl, ← hls, hM] at h
    exact h)
  have HLS := Lib.hid hls
  have HML := Lib.hid hM
  clear hmm mm hls hM
  go_wp2_with fail
  refine HSP.out.mono ?_
  rintro e w2 ⟨rfl, hw2⟩
  have hb2 : Below w1.heap.size w1 w2 := by rw [hw2]; exact below_alloc _ (Below.refl _ _)
  have HL := Lib.hid (show w2.heap[w1.heap.size]? = some (.cells (ls.map Value.string).toArray 9 (0, 0)) by rw [hw2]; exact blk_new _ _)
  have HX2 := Lib.hid (blk_below HX1.out hb2)
  have HY2 := Lib.hid (blk_below HY1.out hb2)
  have HB2 := Lib.hid (HB1.out.trans (hb2.mono HB1.out.size))
  obtain ⟨gl, hgl⟩ : ∃ z, z = w1.heap.size := ⟨_, rfl⟩
  rw [← hgl] at HL ⊢
  clear hw2 hb2 hgl HSP HX1 HY1 HB1 w1 d1
  obtain ⟨lst, hlst⟩ : ∃ x, ls[M]? = some x := ⟨_, List.getElem?_eq_getElem (by have := HML.out; omega)⟩
  have HLST := Lib.hid hlst
  have c0 : w2.cell? ⟨gl, M, none⟩ = some (.string lst) := blk_cell HL.out (by simp [hlst])
  have cl := blk_lt HL.out
  have d2 : decide ((M : Int) + 1 > 1000000) = false := decide_eq_false (by have := HMB.out; omega)
  have hmb := HMB.out
  clear hlst
  have HLN := Lib.hid (show (linesB s).length = M + 1 by rw [← HLS.out]; exact HML.out)
  by_cases hl0 : lst.data.toList = []
  · have de : lst.toList.isEmpty = true := by rw [Lib.toList_data, hl0]; rfl
    have hle : lst = ⟨⟨[]⟩⟩ := ByteArray.ext (Array.ext' hl0)
    have HLE := Lib.hid hle
    clear hl0 hle
    by_cases hm0 : M = 0
    · have dm : decide ((M : Int) + 1 < 2) = true := decide_eq_true (by omega)
      have HM0 := Lib.hid hm0
      clear hm0
      go_wp2_with fail
      refine (bad_any w2 ((M : Int) + 1 - 2) (by have := HMB.out; omega)).mono ?_
      rintro e w3 ⟨rfl, hbq⟩
      have HXq := Lib.hid (blk_below HX2.out hbq)
      have HYq := Lib.hid (blk_below HY2.out hbq)
      have HBq := Lib.hid (HB2.out.trans (hbq.mono HB2.out.size))
      clear hbq
      go_wp2_with (first | (refine wpList_store_blk (by rfl) 34 _ _ (by rfl) g2 (by rfl) (by rfl) HXq.out (by rfl) (by kernel_rfl) (by kernel_rfl) ?_; intro x7 k7 hb7 hz7 ho7; have q0 := blk_cell (i := 0) k7 rfl; have q1 := blk_cell (i := 1) k7 rfl) | (refine wpList_store_blk (by rfl) 38 _ _ (by rfl) g3 (by rfl) (by rfl) ((ho7 _ HNE.out).trans HYq.out) (by rfl) (by kernel_rfl) (by kernel_rfl) ?_; intro x8 k8 hb8 hz8 ho8; have t0 := blk_cell (i := 0) k8 rfl; have t1 := blk_cell (i := 1) k8 rfl; have q0 := blk_cell (i := 0) ((ho8 _ HNE2.out).trans k7) rfl; have q1 := blk_cell (i := 1) ((ho8 _ HNE2.out).trans k7) rfl))
      refine bodyPost_ret (by simp [results, Tryz.results11, go_sem, q0, q1, t0, t1]; try rfl) rfl ?_
      exact ⟨.slice none 0 0, .slice none 0 0, [], [], 30, _, rfl, ⟨M, HLN.out, Or.inl ⟨Or.inr HM0.out, rfl, rfl, by omega⟩⟩, (fun _ => ⟨rfl, rfl⟩), World.ownsRow_nil _ _ _ _, (fun q hq => by cases hq), World.ownsRow_nil _ _ _ _, hb8 _ _ HG3.out (hb7 _ _ HG2.out (by first | exact HBq.out | exact Below.drew HBq.out))⟩
    have dm : decide ((M : Int) + 1 < 2) = false := decide_eq_false (by omega)
    have HM0 := Lib.hid hm0
    clear hm0
    have hal := below_alloc (.cells #[.slice none 0 0, .slice none 0 0] 34) (Below.refl w2.heap.size w2)
    have HPM := Lib.hid (show PM (w2.alloc (.cells #[.slice none 0 0, .slice none 0 0] 34)) w.heap.size w2.heap.size gl g2 g3 ls [] [] (.slice none 0 0) (.slice none 0 0) from
      ⟨blk_new w2 _, World.ownsRow_nil _ _ _ _, (fun q hq => by cases hq), World.ownsRow_nil _ _ _ _, blk_below HL.out hal, blk_below HX2.out hal, blk_below HY2.out hal, Nat.le_trans HB2.out.size hal.size⟩)
    have HB := Lib.hid (HB2.out.trans (hal.mono HB2.out.size))
    have HGP := Lib.hid (show w2.heap.size ≠ g2 from fun e => by have := blk_lt HX2.out; omega)
    have HGW := Lib.hid (show w.heap.size ≤ w2.heap.size from HB2.out.size)
    go_upto_region 11 with (fail)
    obtain ⟨w3, hw3⟩ : ∃ z, z = w2.alloc (.cells #[.slice none 0 0, .slice none 0 0] 34) := ⟨_, rfl⟩
    change Code.wp _ _ _ _ (w2.alloc (.cells #[.slice none 0 0, .slice none 0 0] 34))
    obtain ⟨gp, hgp⟩ : ∃ z, z = w2.heap.size := ⟨_, rfl⟩
    rw [← hw3] at HPM HB ⊢
    rw [← hgp] at HPM HGP HGW ⊢
    clear hw3 hgp HX2 HY2 HB2 HL hal c0 cl w2
    go_wp2_with fail
    obtain ⟨wq, hwq⟩ : ∃ wq, wq = w3 := ⟨_, rfl⟩
    rw [← hwq] at HPM HB ⊢
    clear hwq w3
    go_loopw [7, 55] (fun pt i wr => ∃ (j : Nat) (st : PSt) (vd vc : Value) (dvs : List (XDatumD × Value)), j ≤ M ∧ i = .int .i64 (j : Nat) ∧ pt = .int .i64 st.part ∧ runP ls j = some st ∧ st.ds = dvs.map (·.1) ∧ (st.part = 0 ∨ st.part = 1 ∨ st.part = 2) ∧ PM wr w.heap.size gp gl g2 g3 ls dvs st.cs vd vc ∧ dvs.length ≤ j ∧ st.cs.length ≤ j ∧ Below w.heap.size w wr) (fun _ i _ => M - (intOf i).toNat)
    case atStart => exact ⟨0, ⟨0, [], []⟩, _, _, [], by omega, rfl, rfl, rfl, rfl, by decide, HPM.out, by decide, by decide, HB.out⟩
    case round =>
      rename World => wr
      clear HPM HB
      obtain ⟨j, ⟨P, ds, cs⟩, vd, vc, dvs, hj, rfl, hpt, hrun, hdv, hP, hpm, hld, hlc, hb⟩ := hrel
      simp only at hpt hdv hP hpm hlc
      subst hpt
      have HRUN := Lib.hid hrun
      have HDV := Lib.hid hdv
      have HPM := Lib.hid hpm
      have HLD := Lib.hid hld
      have HLC := Lib.hid hlc
      have HB := Lib.hid hb
      have hmb := HMB.out
      clear hrun hdv hpm hld hlc hb
      obtain ⟨Ad, cd, hvd⟩ := RowD.slice HPM.out.rd
      obtain ⟨nd, hnd⟩ : ∃ z, z = dvs.length := ⟨_, rfl⟩
      rw [← hnd] at hvd
      have HND := Lib.hid hnd
      clear hnd
      subst hvd
      obtain ⟨Ac, cc, hvc⟩ := RowI.slice HPM.out.ri
      obtain ⟨nc, hnc⟩ : ∃ z, z = cs.length := ⟨_, rfl⟩
      rw [← hnc] at hvc
      have HNC := Lib.hid hnc
      clear hnc
      subst hvc
      by_cases hlt : j < M
      · obtain ⟨x, hx⟩ : ∃ x, ls[j]? = some x := ⟨_, List.getElem?_eq_getElem (by have := HML.out; omega)⟩
        have HXJ := Lib.hid hx
        have HLT := Lib.hid hlt
        have c0 : wr.cell? ⟨gl, j, none⟩ = some (.string x) := blk_cell HPM.out.hl (by simp [hx])
        have cl := blk_lt HPM.out.hl
        have HXS := Lib.hid (show x.size ≤ 900000 from HPL.out x (List.mem_of_getElem? hx))
        clear hx
        obtain ⟨T1, hT1⟩ : ∃ T : ByteArray, T = ⟨(Lib.trimSuffix x.data.toList [58]).toArray⟩ := ⟨_, rfl⟩
        obtain ⟨f1, hf1⟩ : ∃ f : Bool, f = Lib.hasSuffix x.data.toList [58] := ⟨_, rfl⟩
        have HC1 := Lib.hid (show ∀ W, Calls Tryz.prog 32 #[.string x, .string ⟨#[58]⟩] W (fun e w' => e = .returned (.tuple #[.string T1, .bool f1]) ∧ w' = W) from fun W => by rw [hT1, hf1]; exact Tryz.strings_CutSuffix x ⟨#[58]⟩ W (Nat.le_trans HXS.out (by decide)))
        have HT1 := Lib.hid (show (⟨⟨Lib.trimSuffix x.data.toList [58]⟩⟩ : ByteArray) = T1 from hT1.symm)
        have HT1S := Lib.hid (show T1.size ≤ 900000 by rw [hT1]; exact Nat.le_trans (trimSuffix_le x.data.toList [58]) HXS.out)
        have HF1 := Lib.hid (show Lib.hasSuffix x.data.toList [58] = f1 from hf1.symm)
        obtain ⟨T2, hT2⟩ : ∃ T : ByteArray, T = ⟨(Lib.trimPrefix x.data.toList [9]).toArray⟩ := ⟨_, rfl⟩
        obtain ⟨f2, hf2⟩ : ∃ f : Bool, f = Lib.hasPrefix x.data.toList [9] := ⟨_, rfl⟩
        have HC2 := Lib.hid (show ∀ W, Calls Tryz.prog 33 #[.string x, .string ⟨#[9]⟩] W (fun e w' => e = .returned (.tuple #[.string T2, .bool f2]) ∧ w' = W) from fun W => by rw [hT2, hf2]; exact Tryz.strings_CutPrefix x ⟨#[9]⟩ W)
        have HT2 := Lib.hid (show Lib.trimPrefix x.data.toList [9] = T2.data.toList by rw [hT2])
        have HT2S := Lib.hid (show T2.size ≤ 900000 by rw [hT2]; exact Nat.le_trans (trimPrefix_le x.data.toList [9]) HXS.out)
        have HF2 := Lib.hid (show Lib.hasPrefix x.data.toList [9] = f2 from hf2.symm)
        clear hT1 hf1 hT2 hf2
        go_wp2_with fail
        refine (HC1.out _).mono ?_
        rintro e wz ⟨rfl, hz⟩
        subst hz
        go_wp2_with fail
        refine (HC2.out _).mono ?_
        rintro e wz ⟨rfl, hz⟩
        subst hz
        clear HC1 HC2 c0 cl
        rcases hP with rfl | rfl | rfl
        · by_cases hx : x.data.toList = daL
          · have dx : (x.toList == [9, 46, 100, 97, 116, 97]) = true := by rw [Lib.toList_data, hx]; rfl
            have HSTEP := Lib.hid (show stepP ⟨0, ds, cs⟩ x.data.toList = some ⟨1, ds, cs⟩ by unfold stepP; rw [if_pos rfl, if_pos hx])
            clear hx
            go_wp2_with fail
            go_roundw
            case rel =>
              have hlt2 := HLT.out
              exact ⟨j + 1, ⟨1, ds, cs⟩, _, _, dvs, by omega, by go_num, rfl, (runP_step HRUN.out HXJ.out).trans HSTEP.out, HDV.out, by simp, HPM.out, by have := HLD.out; omega, by have := HLC.out; simp only; omega, HB.out⟩
            case measure => have hlt2 := HLT.out; simp [intOf]; omega
          · have dx : (x.toList == [9, 46, 100, 97, 116, 97]) = false := by rw [Lib.toList_data]; exact beq_eq_false_iff_ne.2 hx
            have HSTEP := Lib.hid (show stepP ⟨0, ds, cs⟩ x.data.toList = none by unfold stepP; rw [if_pos rfl, if_neg hx])
            clear hx
            have HXh := Lib.hid HPM.out.hx
            have HYh := Lib.hid HPM.out.hy
            go_wp2_with fail
            refine (bad_any _ ((j : Int)) (by have := HMB.out; omega)).mono ?_
            rintro e w9 ⟨rfl, hbq⟩
            have HXq := Lib.hid (blk_below HXh.out hbq)
            have HYq := Lib.hid (blk_below HYh.out hbq)
            have HBq := Lib.hid (HB.out.trans (hbq.mono HB.out.size))
            clear hbq
            go_wp2_with (first | (refine wpList_store_blk (by rfl) 34 _ _ (by rfl) g2 (by rfl) (by rfl) HXq.out (by rfl) (by kernel_rfl) (by kernel_rfl) ?_; intro x7 k7 hb7 hz7 ho7; have q0 := blk_cell (i := 0) k7 rfl; have q1 := blk_cell (i := 1) k7 rfl) | (refine wpList_store_blk (by rfl) 38 _ _ (by rfl) g3 (by rfl) (by rfl) ((ho7 _ HNE.out).trans HYq.out) (by rfl) (by kernel_rfl) (by kernel_rfl) ?_; intro x8 k8 hb8 hz8 ho8; have t0 := blk_cell (i := 0) k8 rfl; have t1 := blk_cell (i := 1) k8 rfl; have q0 := blk_cell (i := 0) ((ho8 _ HNE2.out).trans k7) rfl; have q1 := blk_cell (i := 1) ((ho8 _ HNE2.out).trans k7) rfl))
            refine bodyPost_ret (by simp [results, Tryz.results11, go_sem, q0, q1, t0, t1]; try rfl) rfl ?_
            exact ⟨.slice none 0 0, .slice none 0 0, [], [], 30, _, rfl, ⟨M, HLN.out, Or.inr ⟨by rw [← HLS.out, HLST.out, HLE.out], HM0.out, Or.inl ⟨j, ⟨0, ds, cs⟩, x, HLT.out, by rw [← HLS.out]; exact HRUN.out, by rw [← HLS.out]; exact HXJ.out, HSTEP.out, rfl, rfl, rfl⟩⟩⟩, (fun _ => ⟨rfl, rfl⟩), World.ownsRow_nil _ _ _ _, (fun q hq => by cases hq), World.ownsRow_nil _ _ _ _, hb8 _ _ HG3.out (hb7 _ _ HG2.out (by first | exact HBq.out | exact Below.drew HBq.out))⟩
        · skip
          by_cases hx : x.data.toList = teL
          · have dx : (x.toList == [9, 46, 116, 101, 120, 116]) = true := by rw [Lib.toList_data, hx]; rfl
            have HSTEP := Lib.hid (show stepP ⟨1, ds, cs⟩ x.data.toList = some ⟨2, ds, cs⟩ by unfold stepP; rw [if_neg (by simp), if_pos ⟨hx, rfl⟩])
            clear hx
            go_wp2_with fail
            go_roundw
            case rel =>
              have hlt2 := HLT.out
              exact ⟨j + 1, ⟨2, ds, cs⟩, _, _, dvs, by omega, by go_num, rfl, (runP_step HRUN.out HXJ.out).trans HSTEP.out, HDV.out, by simp, HPM.out, by have := HLD.out; omega, by have := HLC.out; simp only; omega, HB.out⟩
            case measure => have hlt2 := HLT.out; simp [intOf]; omega
          have dx : (x.toList == [9, 46, 116, 101, 120, 116]) = false := by rw [Lib.toList_data]; exact beq_eq_false_iff_ne.2 hx
          have HST := Lib.hid (show stepP ⟨1, ds, cs⟩ x.data.toList = (if f1 = true ∧ namedB T1 = true then some ⟨1, ds ++ [⟨0, T1, [], 0⟩], cs⟩ else if f2 = false then none else match datumF T2.data.toList with | some d => some ⟨1, ds ++ [d], cs⟩ | none => none) by
            unfold stepP
            rw [if_neg (by simp), if_neg (fun h => hx h.1), HF1.out, HT1.out, HF2.out, HT2.out]
            rfl)
          clear hx
          cases f1 with
          | true =>
            go_wp2_with fail
            cases hnm : namedB T1 with
            | true =>
              have HSTEP := Lib.hid (show stepP ⟨1, ds, cs⟩ x.data.toList = some ⟨1, ds ++ [⟨0, T1, [], 0⟩], cs⟩ by rw [HST.out, if_pos (by simp [hnm])])
              refine (named_any _ T1 (Nat.le_trans HT1S.out (by unfold maxLen; decide))).mono ?_
              rintro e w5 ⟨rfl, hb5⟩
              have HPM := Lib.hid (HPM.out.below hb5)
              have HB := Lib.hid (HB.out.trans (hb5.mono HB.out.size))
              clear hb5
              rw [hnm]

              clear hnm
              obtain ⟨v2, w6, hr, hri, hb6, hk6⟩ := RowD.push HPM.out.rd HPM.out.hb ((⟨0, T1, [], 0⟩ : XDatumD), Value.slice none 0 0) rfl w5.heap.size rfl (by have := HND.out; have := HLD.out; omega)
              obtain ⟨A2, c2, hv2⟩ := RowD.slice hri
              obtain ⟨n2, hn2⟩ : ∃ z, z = (dvs ++ [((⟨0, T1, [], 0⟩ : XDatumD), Value.slice none 0 0)]).length := ⟨_, rfl⟩
              rw [← hn2] at hv2
              subst hv2
              have HP6 := Lib.hid (HPM.out.pushD hri hk6 (World.ownsRow_nil _ _ _ _) HGP.out)
              have HB6 := Lib.hid ((HB.out.trans hb6).setCell (p := ⟨gp, 0, none⟩) HGW.out (.slice A2 n2 c2))
              have z0 := blk_cell (i := 0) HPM.out.box rfl
              have zl := blk_lt HPM.out.box
              have y0 := blk_cell (i := 0) (hk6.cells HPM.out.box (by decide)) rfl
              have yl := blk_lt (hk6.cells HPM.out.box (by decide))
              have yf := blk_free (i := 0) (hk6.cells HPM.out.box (by decide))
              clear hri hb6 hk6 hn2
              go_wp2_with (at_builtin; refine wpList_append_ro _ rfl _ _ _ rfl _ _ _ _ rfl rfl hr ?_)

              go_roundw
              case rel =>
                have hlt2 := HLT.out
                exact ⟨j + 1, ⟨1, ds ++ [⟨0, T1, [], 0⟩], cs⟩, _, _, dvs ++ [(⟨0, T1, [], 0⟩, .slice none 0 0)], by omega, by go_num, rfl, (runP_step HRUN.out HXJ.out).trans HSTEP.out, by simp [HDV.out], by simp, HP6.out, by have := HLD.out; simp; omega, by have := HLC.out; simp only; omega, HB6.out⟩
              case measure => have hlt2 := HLT.out; simp [intOf]; omega
            | false =>
              have HNM := Lib.hid hnm
              have HST := Lib.hid (show stepP ⟨1, ds, cs⟩ x.data.toList = (if f2 = false then none else match datumF T2.data.toList with | some d => some ⟨1, ds ++ [d], cs⟩ | none => none) by rw [HST.out, if_neg (by simp [hnm])])
              clear hnm
              refine (named_any _ T1 (Nat.le_trans HT1S.out (by unfold maxLen; decide))).mono ?_
              rintro e w5 ⟨rfl, hb5⟩
              have HPM := Lib.hid (HPM.out.below hb5)
              have HB := Lib.hid (HB.out.trans (hb5.mono HB.out.size))
              clear hb5
              rw [HNM.out]

              go_wp2_with fail
              refine (named_any _ T1 (Nat.le_trans HT1S.out (by unfold maxLen; decide))).mono ?_
              rintro e w5 ⟨rfl, hb5⟩
              have HPM := Lib.hid (HPM.out.below hb5)
              have HB := Lib.hid (HB.out.trans (hb5.mono HB.out.size))
              clear hb5
              rw [HNM.out]

              cases f2 with
              | false =>
                have HSTEP := Lib.hid (show stepP ⟨1, ds, cs⟩ x.data.toList = none by rw [HST.out]; rfl)
                have HXh := Lib.hid HPM.out.hx
                have HYh := Lib.hid HPM.out.hy
                go_wp2_with fail
                refine (bad_any _ ((j : Int)) (by have := HMB.out; omega)).mono ?_
                rintro e w9 ⟨rfl, hbq⟩
                have HXq := Lib.hid (blk_below HXh.out hbq)
                have HYq := Lib.hid (blk_below HYh.out hbq)
                have HBq := Lib.hid (HB.out.trans (hbq.mono HB.out.size))
                clear hbq
                go_wp2_with (first | (refine wpList_store_blk (by rfl) 34 _ _ (by rfl) g2 (by rfl) (by rfl) HXq.out (by rfl) (by kernel_rfl) (by kernel_rfl) ?_; intro x7 k7 hb7 hz7 ho7; have q0 := blk_cell (i := 0) k7 rfl; have q1 := blk_cell (i := 1) k7 rfl) | (refine wpList_store_blk (by rfl) 38 _ _ (by rfl) g3 (by rfl) (by rfl) ((ho7 _ HNE.out).trans HYq.out) (by rfl) (by kernel_rfl) (by kernel_rfl) ?_; intro x8 k8 hb8 hz8 ho8; have t0 := blk_cell (i := 0) k8 rfl; have t1 := blk_cell (i := 1) k8 rfl; have q0 := blk_cell (i := 0) ((ho8 _ HNE2.out).trans k7) rfl; have q1 := blk_cell (i := 1) ((ho8 _ HNE2.out).trans k7) rfl))
                refine bodyPost_ret (by simp [results, Tryz.results11, go_sem, q0, q1, t0, t1]; try rfl) rfl ?_
                exact ⟨.slice none 0 0, .slice none 0 0, [], [], 30, _, rfl, ⟨M, HLN.out, Or.inr ⟨by rw [← HLS.out, HLST.out, HLE.out], HM0.out, Or.inl ⟨j, ⟨1, ds, cs⟩, x, HLT.out, by rw [← HLS.out]; exact HRUN.out, by rw [← HLS.out]; exact HXJ.out, HSTEP.out, rfl, rfl, rfl⟩⟩⟩, (fun _ => ⟨rfl, rfl⟩), World.ownsRow_nil _ _ _ _, (fun q hq => by cases hq), World.ownsRow_nil _ _ _ _, hb8 _ _ HG3.out (hb7 _ _ HG2.out (by first | exact HBq.out | exact Below.drew HBq.out))⟩
              | true =>
                have HST := Lib.hid (show stepP ⟨1, ds, cs⟩ x.data.toList = (match datumF T2.data.toList with | some d => some ⟨1, ds ++ [d], cs⟩ | none => none) by rw [HST.out, if_neg (by decide)])
                go_wp2_with fail
                refine (datum_parse _ (HR.out.later HB.out) T2 (Nat.le_trans HT2S.out (by decide))).mono ?_
                rintro e w5 ⟨⟨dk, dn, dd, dm⟩, v, bb, rfl, hy, hn, hru, hb5⟩
                have HY := Lib.hid hy
                have HN := Lib.hid hn
                have HRU := Lib.hid (show RowU w5 w.heap.size v dd from own_base hru HPM.out.hb)
                have HPM := Lib.hid (HPM.out.below hb5)
                have HB := Lib.hid (HB.out.trans (hb5.mono HB.out.size))
                clear hy hn hru hb5
                obtain ⟨Av, cv, hv⟩ := RowU.slice HRU.out
                obtain ⟨nv, hnv⟩ : ∃ z, z = dd.length := ⟨_, rfl⟩
                rw [← hnv] at hv
                clear hnv
                subst hv
                have hal := below_alloc (.cells #[.int .i64 dk, .string dn, .slice Av nv cv, .int .i64 dm] 67) (Below.refl w5.heap.size w5)
                have HPM := Lib.hid (HPM.out.below hal)
                have HB := Lib.hid (HB.out.trans (hal.mono HB.out.size))
                have HRU := Lib.hid (own_below HRU.out hal)
                have HZ := Lib.hid (blk_new w5 (.cells #[.int .i64 dk, .string dn, .slice Av nv cv, .int .i64 dm] 67))
                clear hal
                go_upto_region 34 with (fail)
                obtain ⟨wd, hwd⟩ : ∃ z, z = w5.alloc (.cells #[.int .i64 dk, .string dn, .slice Av nv cv, .int .i64 dm] 67) := ⟨_, rfl⟩
                change Code.wp _ _ _ _ (w5.alloc (.cells #[.int .i64 dk, .string dn, .slice Av nv cv, .int .i64 dm] 67))
                obtain ⟨gd, hgd⟩ : ∃ z, z = w5.heap.size := ⟨_, rfl⟩
                rw [← hwd] at HPM HB HRU HZ ⊢
                rw [← hgd] at HZ ⊢
                clear hwd hgd
                cases bb with
                | false =>
                  have HSTEP := Lib.hid (show stepP ⟨1, ds, cs⟩ x.data.toList = none by rw [HST.out, HN.out rfl])
                  have HXh := Lib.hid HPM.out.hx
                  have HYh := Lib.hid HPM.out.hy
                  go_wp2_with fail
                  refine (bad_any _ ((j : Int)) (by have := HMB.out; omega)).mono ?_
                  rintro e w9 ⟨rfl, hbq⟩
                  have HXq := Lib.hid (blk_below HXh.out hbq)
                  have HYq := Lib.hid (blk_below HYh.out hbq)
                  have HBq := Lib.hid (HB.out.trans (hbq.mono HB.out.size))
                  clear hbq
                  go_wp2_with (first | (refine wpList_store_blk (by rfl) 34 _ _ (by rfl) g2 (by rfl) (by rfl) HXq.out (by rfl) (by kernel_rfl) (by kernel_rfl) ?_; intro x7 k7 hb7 hz7 ho7; have q0 := blk_cell (i := 0) k7 rfl; have q1 := blk_cell (i := 1) k7 rfl) | (refine wpList_store_blk (by rfl) 38 _ _ (by rfl) g3 (by rfl) (by rfl) ((ho7 _ HNE.out).trans HYq.out) (by rfl) (by kernel_rfl) (by kernel_rfl) ?_; intro x8 k8 hb8 hz8 ho8; have t0 := blk_cell (i := 0) k8 rfl; have t1 := blk_cell (i := 1) k8 rfl; have q0 := blk_cell (i := 0) ((ho8 _ HNE2.out).trans k7) rfl; have q1 := blk_cell (i := 1) ((ho8 _ HNE2.out).trans k7) rfl))
                  refine bodyPost_ret (by simp [results, Tryz.results11, go_sem, q0, q1, t0, t1]; try rfl) rfl ?_
                  exact ⟨.slice none 0 0, .slice none 0 0, [], [], 30, _, rfl, ⟨M, HLN.out, Or.inr ⟨by rw [← HLS.out, HLST.out, HLE.out], HM0.out, Or.inl ⟨j, ⟨1, ds, cs⟩, x, HLT.out, by rw [← HLS.out]; exact HRUN.out, by rw [← HLS.out]; exact HXJ.out, HSTEP.out, rfl, rfl, rfl⟩⟩⟩, (fun _ => ⟨rfl, rfl⟩), World.ownsRow_nil _ _ _ _, (fun q hq => by cases hq), World.ownsRow_nil _ _ _ _, hb8 _ _ HG3.out (hb7 _ _ HG2.out (by first | exact HBq.out | exact Below.drew HBq.out))⟩
                | true =>
                  have HSTEP := Lib.hid (show stepP ⟨1, ds, cs⟩ x.data.toList = some ⟨1, ds ++ [⟨dk, dn, dd, dm⟩], cs⟩ by rw [HST.out, HY.out rfl])
                  have p0 := blk_cell (i := 0) HZ.out rfl
                  have p1 := blk_cell (i := 1) HZ.out rfl
                  have p2 := blk_cell (i := 2) HZ.out rfl
                  have p3 := blk_cell (i := 3) HZ.out rfl
                  have pl := blk_lt HZ.out
                  obtain ⟨v2, w6, hr, hri, hb6, hk6⟩ := RowD.push HPM.out.rd HPM.out.hb ((⟨dk, dn, dd, dm⟩ : XDatumD), Value.slice Av nv cv) rfl wd.heap.size rfl (by have := HND.out; have := HLD.out; omega)
                  obtain ⟨A2, c2, hv2⟩ := RowD.slice hri
                  obtain ⟨n2, hn2⟩ : ∃ z, z = (dvs ++ [((⟨dk, dn, dd, dm⟩ : XDatumD), Value.slice Av nv cv)]).length := ⟨_, rfl⟩
                  rw [← hn2] at hv2
                  subst hv2
                  have HP6 := Lib.hid (HPM.out.pushD hri hk6 HRU.out HGP.out)
                  have HB6 := Lib.hid ((HB.out.trans hb6).setCell (p := ⟨gp, 0, none⟩) HGW.out (.slice A2 n2 c2))
                  have z0 := blk_cell (i := 0) HPM.out.box rfl
                  have zl := blk_lt HPM.out.box
                  have y0 := blk_cell (i := 0) (hk6.cells HPM.out.box (by decide)) rfl
                  have yl := blk_lt (hk6.cells HPM.out.box (by decide))
                  have yf := blk_free (i := 0) (hk6.cells HPM.out.box (by decide))
                  clear hri hb6 hk6 hn2
                  go_wp2_with (at_builtin; refine wpList_append_ro _ rfl _ _ _ rfl _ _ _ _ rfl rfl hr ?_)
                  go_roundw
                  case rel =>
                    have hlt2 := HLT.out
                    exact ⟨j + 1, ⟨1, ds ++ [⟨dk, dn, dd, dm⟩], cs⟩, _, _, dvs ++ [(⟨dk, dn, dd, dm⟩, .slice Av nv cv)], by omega, by go_num, rfl, (runP_step HRUN.out HXJ.out).trans HSTEP.out, by simp [HDV.out], by simp, HP6.out, by have := HLD.out; simp; omega, by have := HLC.out; simp only; omega, HB6.out⟩
                  case measure => have hlt2 := HLT.out; simp [intOf]; omega
          | false =>
            have HST := Lib.hid (show stepP ⟨1, ds, cs⟩ x.data.toList = (if f2 = false then none else match datumF T2.data.toList with | some d => some ⟨1, ds ++ [d], cs⟩ | none => none) by rw [HST.out, if_neg (by simp)])
            cases f2 with
            | false =>
              have HSTEP := Lib.hid (show stepP ⟨1, ds, cs⟩ x.data.toList = none by rw [HST.out]; rfl)
              have HXh := Lib.hid HPM.out.hx
              have HYh := Lib.hid HPM.out.hy
              go_wp2_with fail
              refine (bad_any _ ((j : Int)) (by have := HMB.out; omega)).mono ?_
              rintro e w9 ⟨rfl, hbq⟩
              have HXq := Lib.hid (blk_below HXh.out hbq)
              have HYq := Lib.hid (blk_below HYh.out hbq)
              have HBq := Lib.hid (HB.out.trans (hbq.mono HB.out.size))
              clear hbq
              go_wp2_with (first | (refine wpList_store_blk (by rfl) 34 _ _ (by rfl) g2 (by rfl) (by rfl) HXq.out (by rfl) (by kernel_rfl) (by kernel_rfl) ?_; intro x7 k7 hb7 hz7 ho7; have q0 := blk_cell (i := 0) k7 rfl; have q1 := blk_cell (i := 1) k7 rfl) | (refine wpList_store_blk (by rfl) 38 _ _ (by rfl) g3 (by rfl) (by rfl) ((ho7 _ HNE.out).trans HYq.out) (by rfl) (by kernel_rfl) (by kernel_rfl) ?_; intro x8 k8 hb8 hz8 ho8; have t0 := blk_cell (i := 0) k8 rfl; have t1 := blk_cell (i := 1) k8 rfl; have q0 := blk_cell (i := 0) ((ho8 _ HNE2.out).trans k7) rfl; have q1 := blk_cell (i := 1) ((ho8 _ HNE2.out).trans k7) rfl))
              refine bodyPost_ret (by simp [results, Tryz.results11, go_sem, q0, q1, t0, t1]; try rfl) rfl ?_
              exact ⟨.slice none 0 0, .slice none 0 0, [], [], 30, _, rfl, ⟨M, HLN.out, Or.inr ⟨by rw [← HLS.out, HLST.out, HLE.out], HM0.out, Or.inl ⟨j, ⟨1, ds, cs⟩, x, HLT.out, by rw [← HLS.out]; exact HRUN.out, by rw [← HLS.out]; exact HXJ.out, HSTEP.out, rfl, rfl, rfl⟩⟩⟩, (fun _ => ⟨rfl, rfl⟩), World.ownsRow_nil _ _ _ _, (fun q hq => by cases hq), World.ownsRow_nil _ _ _ _, hb8 _ _ HG3.out (hb7 _ _ HG2.out (by first | exact HBq.out | exact Below.drew HBq.out))⟩
            | true =>
              have HST := Lib.hid (show stepP ⟨1, ds, cs⟩ x.data.toList = (match datumF T2.data.toList with | some d => some ⟨1, ds ++ [d], cs⟩ | none => none) by rw [HST.out, if_neg (by decide)])
              go_wp2_with fail
              refine (datum_parse _ (HR.out.later HB.out) T2 (Nat.le_trans HT2S.out (by decide))).mono ?_
              rintro e w5 ⟨⟨dk, dn, dd, dm⟩, v, bb, rfl, hy, hn, hru, hb5⟩
              have HY := Lib.hid hy
              have HN := Lib.hid hn
              have HRU := Lib.hid (show RowU w5 w.heap.size v dd from own_base hru HPM.out.hb)
              have HPM := Lib.hid (HPM.out.below hb5)
              have HB := Lib.hid (HB.out.trans (hb5.mono HB.out.size))
              clear hy hn hru hb5
              obtain ⟨Av, cv, hv⟩ := RowU.slice HRU.out
              obtain ⟨nv, hnv⟩ : ∃ z, z = dd.length := ⟨_, rfl⟩
              rw [← hnv] at hv
              clear hnv
              subst hv
              have hal := below_alloc (.cells #[.int .i64 dk, .string dn, .slice Av nv cv, .int .i64 dm] 67) (Below.refl w5.heap.size w5)
              have HPM := Lib.hid (HPM.out.below hal)
              have HB := Lib.hid (HB.out.trans (hal.mono HB.out.size))
              have HRU := Lib.hid (own_below HRU.out hal)
              have HZ := Lib.hid (blk_new w5 (.cells #[.int .i64 dk, .string dn, .slice Av nv cv, .int .i64 dm] 67))
              clear hal
              go_upto_region 34 with (fail)
              obtain ⟨wd, hwd⟩ : ∃ z, z = w5.alloc (.cells #[.int .i64 dk, .string dn, .slice Av nv cv, .int .i64 dm] 67) := ⟨_, rfl⟩
              change Code.wp _ _ _ _ (w5.alloc (.cells #[.int .i64 dk, .string dn, .slice Av nv cv, .int .i64 dm] 67))
              obtain ⟨gd, hgd⟩ : ∃ z, z = w5.heap.size := ⟨_, rfl⟩
              rw [← hwd] at HPM HB HRU HZ ⊢
              rw [← hgd] at HZ ⊢
              clear hwd hgd
              cases bb with
              | false =>
                have HSTEP := Lib.hid (show stepP ⟨1, ds, cs⟩ x.data.toList = none by rw [HST.out, HN.out rfl])
                have HXh := Lib.hid HPM.out.hx
                have HYh := Lib.hid HPM.out.hy
                go_wp2_with fail
                refine (bad_any _ ((j : Int)) (by have := HMB.out; omega)).mono ?_
                rintro e w9 ⟨rfl, hbq⟩
                have HXq := Lib.hid (blk_below HXh.out hbq)
                have HYq := Lib.hid (blk_below HYh.out hbq)
                have HBq := Lib.hid (HB.out.trans (hbq.mono HB.out.size))
                clear hbq
                go_wp2_with (first | (refine wpList_store_blk (by rfl) 34 _ _ (by rfl) g2 (by rfl) (by rfl) HXq.out (by rfl) (by kernel_rfl) (by kernel_rfl) ?_; intro x7 k7 hb7 hz7 ho7; have q0 := blk_cell (i := 0) k7 rfl; have q1 := blk_cell (i := 1) k7 rfl) | (refine wpList_store_blk (by rfl) 38 _ _ (by rfl) g3 (by rfl) (by rfl) ((ho7 _ HNE.out).trans HYq.out) (by rfl) (by kernel_rfl) (by kernel_rfl) ?_; intro x8 k8 hb8 hz8 ho8; have t0 := blk_cell (i := 0) k8 rfl; have t1 := blk_cell (i := 1) k8 rfl; have q0 := blk_cell (i := 0) ((ho8 _ HNE2.out).trans k7) rfl; have q1 := blk_cell (i := 1) ((ho8 _ HNE2.out).trans k7) rfl))
                refine bodyPost_ret (by simp [results, Tryz.results11, go_sem, q0, q1, t0, t1]; try rfl) rfl ?_
                exact ⟨.slice none 0 0, .slice none 0 0, [], [], 30, _, rfl, ⟨M, HLN.out, Or.inr ⟨by rw [← HLS.out, HLST.out, HLE.out], HM0.out, Or.inl ⟨j, ⟨1, ds, cs⟩, x, HLT.out, by rw [← HLS.out]; exact HRUN.out, by rw [← HLS.out]; exact HXJ.out, HSTEP.out, rfl, rfl, rfl⟩⟩⟩, (fun _ => ⟨rfl, rfl⟩), World.ownsRow_nil _ _ _ _, (fun q hq => by cases hq), World.ownsRow_nil _ _ _ _, hb8 _ _ HG3.out (hb7 _ _ HG2.out (by first | exact HBq.out | exact Below.drew HBq.out))⟩
              | true =>
                have HSTEP := Lib.hid (show stepP ⟨1, ds, cs⟩ x.data.toList = some ⟨1, ds ++ [⟨dk, dn, dd, dm⟩], cs⟩ by rw [HST.out, HY.out rfl])
                have p0 := blk_cell (i := 0) HZ.out rfl
                have p1 := blk_cell (i := 1) HZ.out rfl
                have p2 := blk_cell (i := 2) HZ.out rfl
                have p3 := blk_cell (i := 3) HZ.out rfl
                have pl := blk_lt HZ.out
                obtain ⟨v2, w6, hr, hri, hb6, hk6⟩ := RowD.push HPM.out.rd HPM.out.hb ((⟨dk, dn, dd, dm⟩ : XDatumD), Value.slice Av nv cv) rfl wd.heap.size rfl (by have := HND.out; have := HLD.out; omega)
                obtain ⟨A2, c2, hv2⟩ := RowD.slice hri
                obtain ⟨n2, hn2⟩ : ∃ z, z = (dvs ++ [((⟨dk, dn, dd, dm⟩ : XDatumD), Value.slice Av nv cv)]).length := ⟨_, rfl⟩
                rw [← hn2] at hv2
                subst hv2
                have HP6 := Lib.hid (HPM.out.pushD hri hk6 HRU.out HGP.out)
                have HB6 := Lib.hid ((HB.out.trans hb6).setCell (p := ⟨gp, 0, none⟩) HGW.out (.slice A2 n2 c2))
                have z0 := blk_cell (i := 0) HPM.out.box rfl
                have zl := blk_lt HPM.out.box
                have y0 := blk_cell (i := 0) (hk6.cells HPM.out.box (by decide)) rfl
                have yl := blk_lt (hk6.cells HPM.out.box (by decide))
                have yf := blk_free (i := 0) (hk6.cells HPM.out.box (by decide))
                clear hri hb6 hk6 hn2
                go_wp2_with (at_builtin; refine wpList_append_ro _ rfl _ _ _ rfl _ _ _ _ rfl rfl hr ?_)
                go_roundw
                case rel =>
                  have hlt2 := HLT.out
                  exact ⟨j + 1, ⟨1, ds ++ [⟨dk, dn, dd, dm⟩], cs⟩, _, _, dvs ++ [(⟨dk, dn, dd, dm⟩, .slice Av nv cv)], by omega, by go_num, rfl, (runP_step HRUN.out HXJ.out).trans HSTEP.out, by simp [HDV.out], by simp, HP6.out, by have := HLD.out; simp; omega, by have := HLC.out; simp only; omega, HB6.out⟩
                case measure => have hlt2 := HLT.out; simp [intOf]; omega
        · skip
          have HST := Lib.hid (show stepP ⟨2, ds, cs⟩ x.data.toList = (if f1 = true ∧ namedB T1 = true then some ⟨2, ds, cs ++ [⟨T1, insZ⟩]⟩ else if f2 = false then none else match lineF T2.data.toList with | some k => some ⟨2, ds, cs ++ [⟨emB, k⟩]⟩ | none => none) by
            unfold stepP
            rw [if_neg (by simp), if_neg (fun h => by have := h.2; simp at this), HF1.out, HT1.out, HF2.out, HT2.out]
            rfl)
          obtain ⟨tx, htx⟩ : ∃ t : Bool, t = (x.toList == [9, 46, 116, 101, 120, 116]) := ⟨_, rfl⟩
          have dx : (x.toList == [9, 46, 116, 101, 120, 116]) = tx := htx.symm
          clear htx
          go_upto_region 24 with (fail)
          go_cut [99] (fun z wx => z = .bool false ∧ wx = wz)
          case first =>
            cases tx with
            | true => go_wp2_with fail; go_meet; exact ⟨rfl, rfl⟩
            | false => go_wp2_with fail; go_meet; exact ⟨rfl, rfl⟩
          case rest =>
            obtain ⟨hc1, hc2⟩ := hcut
            subst hc1 hc2
            cases f1 with
            | true =>
              go_wp2_with fail
              cases hnm : namedB T1 with
              | true =>
                have HSTEP := Lib.hid (show stepP ⟨2, ds, cs⟩ x.data.toList = some ⟨2, ds, cs ++ [⟨T1, insZ⟩]⟩ by rw [HST.out, if_pos (by simp [hnm])])
                have HNM := Lib.hid hnm
                clear hnm
                refine (named_any _ T1 (Nat.le_trans HT1S.out (by unfold maxLen; decide))).mono ?_
                rintro e w5 ⟨rfl, hb5⟩
                have HPM := Lib.hid (HPM.out.below hb5)
                have HB := Lib.hid (HB.out.trans (hb5.mono HB.out.size))
                clear hb5
                rw [HNM.out]

                go_wp2_with fail
                refine (named_any _ T1 (Nat.le_trans HT1S.out (by unfold maxLen; decide))).mono ?_
                rintro e w5 ⟨rfl, hb5⟩
                have HPM := Lib.hid (HPM.out.below hb5)
                have HB := Lib.hid (HB.out.trans (hb5.mono HB.out.size))
                clear hb5
                rw [HNM.out]

                obtain ⟨v2, w6, hr, hri, hb6, hk6⟩ := RowI.push HPM.out.ri HPM.out.hb (⟨T1, insZ⟩ : XItemD) w5.heap.size rfl (by have := HNC.out; have := HLC.out; omega)
                obtain ⟨A2, c2, hv2⟩ := RowI.slice hri
                obtain ⟨n2, hn2⟩ : ∃ z, z = (cs ++ [(⟨T1, insZ⟩ : XItemD)]).length := ⟨_, rfl⟩
                rw [← hn2] at hv2
                subst hv2
                have HP6 := Lib.hid (HPM.out.pushI hri hk6 HGP.out)
                have HB6 := Lib.hid ((HB.out.trans hb6).setCell (p := ⟨gp, 1, none⟩) HGW.out (.slice A2 n2 c2))
                have z1 := blk_cell (i := 1) HPM.out.box rfl
                have zl := blk_lt HPM.out.box
                have y1 := blk_cell (i := 1) (hk6.cells HPM.out.box (by decide)) rfl
                have yl := blk_lt (hk6.cells HPM.out.box (by decide))
                have yf := blk_free (i := 1) (hk6.cells HPM.out.box (by decide))
                clear hri hb6 hk6 hn2
                go_wp2_with (at_builtin; refine wpList_append_ro _ rfl _ _ _ rfl _ _ _ _ rfl rfl hr ?_)

                go_roundw
                case rel =>
                  have hlt2 := HLT.out
                  exact ⟨j + 1, ⟨2, ds, cs ++ [⟨T1, insZ⟩]⟩, _, _, dvs, by omega, by go_num, rfl, (runP_step HRUN.out HXJ.out).trans HSTEP.out, HDV.out, by simp, HP6.out, by have := HLD.out; omega, by have := HLC.out; simp; omega, HB6.out⟩
                case measure => have hlt2 := HLT.out; simp [intOf]; omega
              | false =>
                have HNM := Lib.hid hnm
                have HST := Lib.hid (show stepP ⟨2, ds, cs⟩ x.data.toList = (if f2 = false then none else match lineF T2.data.toList with | some k => some ⟨2, ds, cs ++ [⟨emB, k⟩]⟩ | none => none) by rw [HST.out, if_neg (by simp [hnm])])
                clear hnm
                refine (named_any _ T1 (Nat.le_trans HT1S.out (by unfold maxLen; decide))).mono ?_
                rintro e w5 ⟨rfl, hb5⟩
                have HPM := Lib.hid (HPM.out.below hb5)
                have HB := Lib.hid (HB.out.trans (hb5.mono HB.out.size))
                clear hb5
                rw [HNM.out]

                go_wp2_with fail
                refine (named_any _ T1 (Nat.le_trans HT1S.out (by unfold maxLen; decide))).mono ?_
                rintro e w5 ⟨rfl, hb5⟩
                have HPM := Lib.hid (HPM.out.below hb5)
                have HB := Lib.hid (HB.out.trans (hb5.mono HB.out.size))
                clear hb5
                rw [HNM.out]

                cases f2 with
                | false =>
                  have HSTEP := Lib.hid (show stepP ⟨2, ds, cs⟩ x.data.toList = none by rw [HST.out]; rfl)
                  have HXh := Lib.hid HPM.out.hx
                  have HYh := Lib.hid HPM.out.hy
                  go_wp2_with fail
                  refine (bad_any _ ((j : Int)) (by have := HMB.out; omega)).mono ?_
                  rintro e w9 ⟨rfl, hbq⟩
                  have HXq := Lib.hid (blk_below HXh.out hbq)
                  have HYq := Lib.hid (blk_below HYh.out hbq)
                  have HBq := Lib.hid (HB.out.trans (hbq.mono HB.out.size))
                  clear hbq
                  go_wp2_with (first | (refine wpList_store_blk (by rfl) 34 _ _ (by rfl) g2 (by rfl) (by rfl) HXq.out (by rfl) (by kernel_rfl) (by kernel_rfl) ?_; intro x7 k7 hb7 hz7 ho7; have q0 := blk_cell (i := 0) k7 rfl; have q1 := blk_cell (i := 1) k7 rfl) | (refine wpList_store_blk (by rfl) 38 _ _ (by rfl) g3 (by rfl) (by rfl) ((ho7 _ HNE.out).trans HYq.out) (by rfl) (by kernel_rfl) (by kernel_rfl) ?_; intro x8 k8 hb8 hz8 ho8; have t0 := blk_cell (i := 0) k8 rfl; have t1 := blk_cell (i := 1) k8 rfl; have q0 := blk_cell (i := 0) ((ho8 _ HNE2.out).trans k7) rfl; have q1 := blk_cell (i := 1) ((ho8 _ HNE2.out).trans k7) rfl))
                  refine bodyPost_ret (by simp [results, Tryz.results11, go_sem, q0, q1, t0, t1]; try rfl) rfl ?_
                  exact ⟨.slice none 0 0, .slice none 0 0, [], [], 30, _, rfl, ⟨M, HLN.out, Or.inr ⟨by rw [← HLS.out, HLST.out, HLE.out], HM0.out, Or.inl ⟨j, ⟨2, ds, cs⟩, x, HLT.out, by rw [← HLS.out]; exact HRUN.out, by rw [← HLS.out]; exact HXJ.out, HSTEP.out, rfl, rfl, rfl⟩⟩⟩, (fun _ => ⟨rfl, rfl⟩), World.ownsRow_nil _ _ _ _, (fun q hq => by cases hq), World.ownsRow_nil _ _ _ _, hb8 _ _ HG3.out (hb7 _ _ HG2.out (by first | exact HBq.out | exact Below.drew HBq.out))⟩
                | true =>
                  have HST := Lib.hid (show stepP ⟨2, ds, cs⟩ x.data.toList = (match lineF T2.data.toList with | some k => some ⟨2, ds, cs ++ [⟨emB, k⟩]⟩ | none => none) by rw [HST.out, if_neg (by decide)])
                  go_wp2_with fail
                  refine (line_any _ (HR.out.later HB.out) (HG.out.below HB.out) T2 (Nat.le_trans HT2S.out (by decide))).mono ?_
                  rintro e w5 ⟨y, bb, rfl, hy, hb5⟩
                  have HY := Lib.hid hy
                  have HPM := Lib.hid (HPM.out.below hb5)
                  have HB := Lib.hid (HB.out.trans (hb5.mono HB.out.size))
                  clear hy hb5
                  have hal := below_alloc (.cells (insV insZ).toArray 23) (Below.refl w5.heap.size w5)
                  have HPMa := Lib.hid (HPM.out.below hal)
                  have HBa := Lib.hid (HB.out.trans (hal.mono HB.out.size))
                  clear hal
                  go_upto_region 17 with (refine wpList_store_blk (by rfl) 23 _ _ (by rfl) w5.heap.size (by rfl) (by rfl) (blk_new w5 (.cells (insV insZ).toArray 23)) (by rfl) (by kernel_rfl) (by kernel_rfl) ?_; intro wd k8 hb8 hz8 ho8)
                  have HKd := Lib.hid (kpT_store (blk_new w5 (.cells (insV insZ).toArray 23)) hz8 ho8)
                  have HPM := Lib.hid (HPMa.out.kept HKd.out (by decide) (by decide) (by decide) (by decide) (by decide) (by decide))
                  have HB := Lib.hid (hb8 w.heap.size w HB.out.size HBa.out)
                  have HZ := Lib.hid k8
                  obtain ⟨gd, hgd⟩ : ∃ z, z = w5.heap.size := ⟨_, rfl⟩
                  rw [← hgd] at HZ ⊢
                  clear hgd k8 hb8 hz8 ho8 HPMa HBa
                  cases bb with
                  | false =>
                    have HSTEP := Lib.hid (show stepP ⟨2, ds, cs⟩ x.data.toList = none by rw [HST.out, lineF_no HY.out rfl])
                    have HXh := Lib.hid HPM.out.hx
                    have HYh := Lib.hid HPM.out.hy
                    go_wp2_with fail
                    refine (bad_any _ ((j : Int)) (by have := HMB.out; omega)).mono ?_
                    rintro e w9 ⟨rfl, hbq⟩
                    have HXq := Lib.hid (blk_below HXh.out hbq)
                    have HYq := Lib.hid (blk_below HYh.out hbq)
                    have HBq := Lib.hid (HB.out.trans (hbq.mono HB.out.size))
                    clear hbq
                    go_wp2_with (first | (refine wpList_store_blk (by rfl) 34 _ _ (by rfl) g2 (by rfl) (by rfl) HXq.out (by rfl) (by kernel_rfl) (by kernel_rfl) ?_; intro x7 k7 hb7 hz7 ho7; have q0 := blk_cell (i := 0) k7 rfl; have q1 := blk_cell (i := 1) k7 rfl) | (refine wpList_store_blk (by rfl) 38 _ _ (by rfl) g3 (by rfl) (by rfl) ((ho7 _ HNE.out).trans HYq.out) (by rfl) (by kernel_rfl) (by kernel_rfl) ?_; intro x8 k8 hb8 hz8 ho8; have t0 := blk_cell (i := 0) k8 rfl; have t1 := blk_cell (i := 1) k8 rfl; have q0 := blk_cell (i := 0) ((ho8 _ HNE2.out).trans k7) rfl; have q1 := blk_cell (i := 1) ((ho8 _ HNE2.out).trans k7) rfl))
                    refine bodyPost_ret (by simp [results, Tryz.results11, go_sem, q0, q1, t0, t1]; try rfl) rfl ?_
                    exact ⟨.slice none 0 0, .slice none 0 0, [], [], 30, _, rfl, ⟨M, HLN.out, Or.inr ⟨by rw [← HLS.out, HLST.out, HLE.out], HM0.out, Or.inl ⟨j, ⟨2, ds, cs⟩, x, HLT.out, by rw [← HLS.out]; exact HRUN.out, by rw [← HLS.out]; exact HXJ.out, HSTEP.out, rfl, rfl, rfl⟩⟩⟩, (fun _ => ⟨rfl, rfl⟩), World.ownsRow_nil _ _ _ _, (fun q hq => by cases hq), World.ownsRow_nil _ _ _ _, hb8 _ _ HG3.out (hb7 _ _ HG2.out (by first | exact HBq.out | exact Below.drew HBq.out))⟩
                  | true =>
                    have HSTEP := Lib.hid (show stepP ⟨2, ds, cs⟩ x.data.toList = some ⟨2, ds, cs ++ [⟨emB, y⟩]⟩ by rw [HST.out, lineF_yes HY.out rfl])
                    obtain ⟨p0, p1, p2, p3, p4, p5, p6, p7⟩ := cq HZ.out
                    have pl := blk_lt HZ.out
                    obtain ⟨v2, w6, hr, hri, hb6, hk6⟩ := RowI.push HPM.out.ri HPM.out.hb (⟨emB, y⟩ : XItemD) wd.heap.size rfl (by have := HNC.out; have := HLC.out; omega)
                    obtain ⟨A2, c2, hv2⟩ := RowI.slice hri
                    obtain ⟨n2, hn2⟩ : ∃ z, z = (cs ++ [(⟨emB, y⟩ : XItemD)]).length := ⟨_, rfl⟩
                    rw [← hn2] at hv2
                    subst hv2
                    have HP6 := Lib.hid (HPM.out.pushI hri hk6 HGP.out)
                    have HB6 := Lib.hid ((HB.out.trans hb6).setCell (p := ⟨gp, 1, none⟩) HGW.out (.slice A2 n2 c2))
                    have z1 := blk_cell (i := 1) HPM.out.box rfl
                    have zl := blk_lt HPM.out.box
                    have y1 := blk_cell (i := 1) (hk6.cells HPM.out.box (by decide)) rfl
                    have yl := blk_lt (hk6.cells HPM.out.box (by decide))
                    have yf := blk_free (i := 1) (hk6.cells HPM.out.box (by decide))
                    clear hri hb6 hk6 hn2
                    go_wp2_with (at_builtin; refine wpList_append_ro _ rfl _ _ _ rfl _ _ _ _ rfl rfl hr ?_)
                    go_roundw
                    case rel =>
                      have hlt2 := HLT.out
                      exact ⟨j + 1, ⟨2, ds, cs ++ [⟨emB, y⟩]⟩, _, _, dvs, by omega, by go_num, rfl, (runP_step HRUN.out HXJ.out).trans HSTEP.out, HDV.out, by simp, HP6.out, by have := HLD.out; omega, by have := HLC.out; simp; omega, HB6.out⟩
                    case measure => have hlt2 := HLT.out; simp [intOf]; omega
            | false =>
              have HST := Lib.hid (show stepP ⟨2, ds, cs⟩ x.data.toList = (if f2 = false then none else match lineF T2.data.toList with | some k => some ⟨2, ds, cs ++ [⟨emB, k⟩]⟩ | none => none) by rw [HST.out, if_neg (by simp)])
              cases f2 with
              | false =>
                have HSTEP := Lib.hid (show stepP ⟨2, ds, cs⟩ x.data.toList = none by rw [HST.out]; rfl)
                have HXh := Lib.hid HPM.out.hx
                have HYh := Lib.hid HPM.out.hy
                go_wp2_with fail
                refine (bad_any _ ((j : Int)) (by have := HMB.out; omega)).mono ?_
                rintro e w9 ⟨rfl, hbq⟩
                have HXq := Lib.hid (blk_below HXh.out hbq)
                have HYq := Lib.hid (blk_below HYh.out hbq)
                have HBq := Lib.hid (HB.out.trans (hbq.mono HB.out.size))
                clear hbq
                go_wp2_with (first | (refine wpList_store_blk (by rfl) 34 _ _ (by rfl) g2 (by rfl) (by rfl) HXq.out (by rfl) (by kernel_rfl) (by kernel_rfl) ?_; intro x7 k7 hb7 hz7 ho7; have q0 := blk_cell (i := 0) k7 rfl; have q1 := blk_cell (i := 1) k7 rfl) | (refine wpList_store_blk (by rfl) 38 _ _ (by rfl) g3 (by rfl) (by rfl) ((ho7 _ HNE.out).trans HYq.out) (by rfl) (by kernel_rfl) (by kernel_rfl) ?_; intro x8 k8 hb8 hz8 ho8; have t0 := blk_cell (i := 0) k8 rfl; have t1 := blk_cell (i := 1) k8 rfl; have q0 := blk_cell (i := 0) ((ho8 _ HNE2.out).trans k7) rfl; have q1 := blk_cell (i := 1) ((ho8 _ HNE2.out).trans k7) rfl))
                refine bodyPost_ret (by simp [results, Tryz.results11, go_sem, q0, q1, t0, t1]; try rfl) rfl ?_
                exact ⟨.slice none 0 0, .slice none 0 0, [], [], 30, _, rfl, ⟨M, HLN.out, Or.inr ⟨by rw [← HLS.out, HLST.out, HLE.out], HM0.out, Or.inl ⟨j, ⟨2, ds, cs⟩, x, HLT.out, by rw [← HLS.out]; exact HRUN.out, by rw [← HLS.out]; exact HXJ.out, HSTEP.out, rfl, rfl, rfl⟩⟩⟩, (fun _ => ⟨rfl, rfl⟩), World.ownsRow_nil _ _ _ _, (fun q hq => by cases hq), World.ownsRow_nil _ _ _ _, hb8 _ _ HG3.out (hb7 _ _ HG2.out (by first | exact HBq.out | exact Below.drew HBq.out))⟩
              | true =>
                have HST := Lib.hid (show stepP ⟨2, ds, cs⟩ x.data.toList = (match lineF T2.data.toList with | some k => some ⟨2, ds, cs ++ [⟨emB, k⟩]⟩ | none => none) by rw [HST.out, if_neg (by decide)])
                go_wp2_with fail
                refine (line_any _ (HR.out.later HB.out) (HG.out.below HB.out) T2 (Nat.le_trans HT2S.out (by decide))).mono ?_
                rintro e w5 ⟨y, bb, rfl, hy, hb5⟩
                have HY := Lib.hid hy
                have HPM := Lib.hid (HPM.out.below hb5)
                have HB := Lib.hid (HB.out.trans (hb5.mono HB.out.size))
                clear hy hb5
                have hal := below_alloc (.cells (insV insZ).toArray 23) (Below.refl w5.heap.size w5)
                have HPMa := Lib.hid (HPM.out.below hal)
                have HBa := Lib.hid (HB.out.trans (hal.mono HB.out.size))
                clear hal
                go_upto_region 17 with (refine wpList_store_blk (by rfl) 23 _ _ (by rfl) w5.heap.size (by rfl) (by rfl) (blk_new w5 (.cells (insV insZ).toArray 23)) (by rfl) (by kernel_rfl) (by kernel_rfl) ?_; intro wd k8 hb8 hz8 ho8)
                have HKd := Lib.hid (kpT_store (blk_new w5 (.cells (insV insZ).toArray 23)) hz8 ho8)
                have HPM := Lib.hid (HPMa.out.kept HKd.out (by decide) (by decide) (by decide) (by decide) (by decide) (by decide))
                have HB := Lib.hid (hb8 w.heap.size w HB.out.size HBa.out)
                have HZ := Lib.hid k8
                obtain ⟨gd, hgd⟩ : ∃ z, z = w5.heap.size := ⟨_, rfl⟩
                rw [← hgd] at HZ ⊢
                clear hgd k8 hb8 hz8 ho8 HPMa HBa
                cases bb with
                | false =>
                  have HSTEP := Lib.hid (show stepP ⟨2, ds, cs⟩ x.data.toList = none by rw [HST.out, lineF_no HY.out rfl])
                  have HXh := Lib.hid HPM.out.hx
                  have HYh := Lib.hid HPM.out.hy
                  go_wp2_with fail
                  refine (bad_any _ ((j : Int)) (by have := HMB.out; omega)).mono ?_
                  rintro e w9 ⟨rfl, hbq⟩
                  have HXq := Lib.hid (blk_below HXh.out hbq)
                  have HYq := Lib.hid (blk_below HYh.out hbq)
                  have HBq := Lib.hid (HB.out.trans (hbq.mono HB.out.size))
                  clear hbq
                  go_wp2_with (first | (refine wpList_store_blk (by rfl) 34 _ _ (by rfl) g2 (by rfl) (by rfl) HXq.out (by rfl) (by kernel_rfl) (by kernel_rfl) ?_; intro x7 k7 hb7 hz7 ho7; have q0 := blk_cell (i := 0) k7 rfl; have q1 := blk_cell (i := 1) k7 rfl) | (refine wpList_store_blk (by rfl) 38 _ _ (by rfl) g3 (by rfl) (by rfl) ((ho7 _ HNE.out).trans HYq.out) (by rfl) (by kernel_rfl) (by kernel_rfl) ?_; intro x8 k8 hb8 hz8 ho8; have t0 := blk_cell (i := 0) k8 rfl; have t1 := blk_cell (i := 1) k8 rfl; have q0 := blk_cell (i := 0) ((ho8 _ HNE2.out).trans k7) rfl; have q1 := blk_cell (i := 1) ((ho8 _ HNE2.out).trans k7) rfl))
                  refine bodyPost_ret (by simp [results, Tryz.results11, go_sem, q0, q1, t0, t1]; try rfl) rfl ?_
                  exact ⟨.slice none 0 0, .slice none 0 0, [], [], 30, _, rfl, ⟨M, HLN.out, Or.inr ⟨by rw [← HLS.out, HLST.out, HLE.out], HM0.out, Or.inl ⟨j, ⟨2, ds, cs⟩, x, HLT.out, by rw [← HLS.out]; exact HRUN.out, by rw [← HLS.out]; exact HXJ.out, HSTEP.out, rfl, rfl, rfl⟩⟩⟩, (fun _ => ⟨rfl, rfl⟩), World.ownsRow_nil _ _ _ _, (fun q hq => by cases hq), World.ownsRow_nil _ _ _ _, hb8 _ _ HG3.out (hb7 _ _ HG2.out (by first | exact HBq.out | exact Below.drew HBq.out))⟩
                | true =>
                  have HSTEP := Lib.hid (show stepP ⟨2, ds, cs⟩ x.data.toList = some ⟨2, ds, cs ++ [⟨emB, y⟩]⟩ by rw [HST.out, lineF_yes HY.out rfl])
                  obtain ⟨p0, p1, p2, p3, p4, p5, p6, p7⟩ := cq HZ.out
                  have pl := blk_lt HZ.out
                  obtain ⟨v2, w6, hr, hri, hb6, hk6⟩ := RowI.push HPM.out.ri HPM.out.hb (⟨emB, y⟩ : XItemD) wd.heap.size rfl (by have := HNC.out; have := HLC.out; omega)
                  obtain ⟨A2, c2, hv2⟩ := RowI.slice hri
                  obtain ⟨n2, hn2⟩ : ∃ z, z = (cs ++ [(⟨emB, y⟩ : XItemD)]).length := ⟨_, rfl⟩
                  rw [← hn2] at hv2
                  subst hv2
                  have HP6 := Lib.hid (HPM.out.pushI hri hk6 HGP.out)
                  have HB6 := Lib.hid ((HB.out.trans hb6).setCell (p := ⟨gp, 1, none⟩) HGW.out (.slice A2 n2 c2))
                  have z1 := blk_cell (i := 1) HPM.out.box rfl
                  have zl := blk_lt HPM.out.box
                  have y1 := blk_cell (i := 1) (hk6.cells HPM.out.box (by decide)) rfl
                  have yl := blk_lt (hk6.cells HPM.out.box (by decide))
                  have yf := blk_free (i := 1) (hk6.cells HPM.out.box (by decide))
                  clear hri hb6 hk6 hn2
                  go_wp2_with (at_builtin; refine wpList_append_ro _ rfl _ _ _ rfl _ _ _ _ rfl rfl hr ?_)
                  go_roundw
                  case rel =>
                    have hlt2 := HLT.out
                    exact ⟨j + 1, ⟨2, ds, cs ++ [⟨emB, y⟩]⟩, _, _, dvs, by omega, by go_num, rfl, (runP_step HRUN.out HXJ.out).trans HSTEP.out, HDV.out, by simp, HP6.out, by have := HLD.out; omega, by have := HLC.out; simp; omega, HB6.out⟩
                  case measure => have hlt2 := HLT.out; simp [intOf]; omega
      · skip
        have e : j = M := by omega
        subst e
        clear hlt
        rcases hP with rfl | rfl | rfl
        · skip
          have HXh := Lib.hid HPM.out.hx
          have HYh := Lib.hid HPM.out.hy
          go_wp2_with fail
          refine (bad_any _ ((j : Int)) (by have := HMB.out; omega)).mono ?_
          rintro e w9 ⟨rfl, hbq⟩
          have HXq := Lib.hid (blk_below HXh.out hbq)
          have HYq := Lib.hid (blk_below HYh.out hbq)
          have HBq := Lib.hid (HB.out.trans (hbq.mono HB.out.size))
          clear hbq
          go_wp2_with (first | (refine wpList_store_blk (by rfl) 34 _ _ (by rfl) g2 (by rfl) (by rfl) HXq.out (by rfl) (by kernel_rfl) (by kernel_rfl) ?_; intro x7 k7 hb7 hz7 ho7; have q0 := blk_cell (i := 0) k7 rfl; have q1 := blk_cell (i := 1) k7 rfl) | (refine wpList_store_blk (by rfl) 38 _ _ (by rfl) g3 (by rfl) (by rfl) ((ho7 _ HNE.out).trans HYq.out) (by rfl) (by kernel_rfl) (by kernel_rfl) ?_; intro x8 k8 hb8 hz8 ho8; have t0 := blk_cell (i := 0) k8 rfl; have t1 := blk_cell (i := 1) k8 rfl; have q0 := blk_cell (i := 0) ((ho8 _ HNE2.out).trans k7) rfl; have q1 := blk_cell (i := 1) ((ho8 _ HNE2.out).trans k7) rfl))
          refine bodyPost_ret (by simp [results, Tryz.results11, go_sem, q0, q1, t0, t1]; try rfl) rfl ?_
          exact ⟨.slice none 0 0, .slice none 0 0, [], [], 30, _, rfl, ⟨j, HLN.out, Or.inr ⟨by rw [← HLS.out, HLST.out, HLE.out], HM0.out, Or.inr (Or.inl ⟨⟨0, ds, cs⟩, by rw [← HLS.out]; exact HRUN.out, by simp, rfl, rfl, rfl⟩)⟩⟩, (fun _ => ⟨rfl, rfl⟩), World.ownsRow_nil _ _ _ _, (fun q hq => by cases hq), World.ownsRow_nil _ _ _ _, hb8 _ _ HG3.out (hb7 _ _ HG2.out (by first | exact HBq.out | exact Below.drew HBq.out))⟩
        · skip
          have HXh := Lib.hid HPM.out.hx
          have HYh := Lib.hid HPM.out.hy
          go_wp2_with fail
          refine (bad_any _ ((j : Int)) (by have := HMB.out; omega)).mono ?_
          rintro e w9 ⟨rfl, hbq⟩
          have HXq := Lib.hid (blk_below HXh.out hbq)
          have HYq := Lib.hid (blk_below HYh.out hbq)
          have HBq := Lib.hid (HB.out.trans (hbq.mono HB.out.size))
          clear hbq
          go_wp2_with (first | (refine wpList_store_blk (by rfl) 34 _ _ (by rfl) g2 (by rfl) (by rfl) HXq.out (by rfl) (by kernel_rfl) (by kernel_rfl) ?_; intro x7 k7 hb7 hz7 ho7; have q0 := blk_cell (i := 0) k7 rfl; have q1 := blk_cell (i := 1) k7 rfl) | (refine wpList_store_blk (by rfl) 38 _ _ (by rfl) g3 (by rfl) (by rfl) ((ho7 _ HNE.out).trans HYq.out) (by rfl) (by kernel_rfl) (by kernel_rfl) ?_; intro x8 k8 hb8 hz8 ho8; have t0 := blk_cell (i := 0) k8 rfl; have t1 := blk_cell (i := 1) k8 rfl; have q0 := blk_cell (i := 0) ((ho8 _ HNE2.out).trans k7) rfl; have q1 := blk_cell (i := 1) ((ho8 _ HNE2.out).trans k7) rfl))
          refine bodyPost_ret (by simp [results, Tryz.results11, go_sem, q0, q1, t0, t1]; try rfl) rfl ?_
          exact ⟨.slice none 0 0, .slice none 0 0, [], [], 30, _, rfl, ⟨j, HLN.out, Or.inr ⟨by rw [← HLS.out, HLST.out, HLE.out], HM0.out, Or.inr (Or.inl ⟨⟨1, ds, cs⟩, by rw [← HLS.out]; exact HRUN.out, by simp, rfl, rfl, rfl⟩)⟩⟩, (fun _ => ⟨rfl, rfl⟩), World.ownsRow_nil _ _ _ _, (fun q hq => by cases hq), World.ownsRow_nil _ _ _ _, hb8 _ _ HG3.out (hb7 _ _ HG2.out (by first | exact HBq.out | exact Below.drew HBq.out))⟩
        · have p0 := blk_cell (i := 0) HPM.out.box rfl
          have p1 := blk_cell (i := 1) HPM.out.box rfl
          have pl := blk_lt HPM.out.box
          have HXh := Lib.hid HPM.out.hx
          have HYh := Lib.hid HPM.out.hy
          go_wp2_with (first | (refine wpList_store_blk (by rfl) 34 _ _ (by rfl) g2 (by rfl) (by rfl) HXh.out (by rfl) (by kernel_rfl) (by kernel_rfl) ?_; intro x7 k7 hb7 hz7 ho7; have q0 := blk_cell (i := 0) k7 rfl; have q1 := blk_cell (i := 1) k7 rfl) | (refine wpList_store_blk (by rfl) 38 _ _ (by rfl) g3 (by rfl) (by rfl) ((ho7 _ HNE.out).trans HYh.out) (by rfl) (by kernel_rfl) (by kernel_rfl) ?_; intro x8 k8 hb8 hz8 ho8; have t0 := blk_cell (i := 0) k8 rfl; have t1 := blk_cell (i := 1) k8 rfl; have q0 := blk_cell (i := 0) ((ho8 _ HNE2.out).trans k7) rfl; have q1 := blk_cell (i := 1) ((ho8 _ HNE2.out).trans k7) rfl))
          refine bodyPost_ret (by simp [results, Tryz.results11, go_sem, q0, q1, t0, t1]; try rfl) rfl ?_
          have HK := Lib.hid ((kpT_store HXh.out hz7 ho7))
          have HK2 := Lib.hid (kpT_store ((ho7 _ HNE.out).trans HYh.out) hz8 ho8)
          exact ⟨_, _, dvs, cs, 0, 0, rfl, ⟨j, HLN.out, Or.inr ⟨by rw [← HLS.out, HLST.out, HLE.out], HM0.out, Or.inr (Or.inr ⟨⟨2, ds, cs⟩, by rw [← HLS.out]; exact HRUN.out, rfl, by rw [← HDV.out], rfl, rfl⟩)⟩⟩, (fun h => absurd rfl h), HK2.out.own (HK.out.own HPM.out.rd (by decide)) (by decide), (fun q hq => HK2.out.own (HK.out.own (HPM.out.ru q hq) (by decide)) (by decide)), HK2.out.own (HK.out.own HPM.out.ri (by decide)) (by decide), hb8 _ _ HG3.out (hb7 _ _ HG2.out (by first | exact HB.out | exact Below.drew HB.out))⟩
  · have de : lst.toList.isEmpty = false := by rw [Lib.toList_data]; simpa using hl0
    have HL0 := Lib.hid hl0
    clear hl0
    go_wp2_with fail
    refine (bad_any w2 ((M : Int) + 1 - 2) (by have := HMB.out; omega)).mono ?_
    rintro e w3 ⟨rfl, hbq⟩
    have HXq := Lib.hid (blk_below HX2.out hbq)
    have HYq := Lib.hid (blk_below HY2.out hbq)
    have HBq := Lib.hid (HB2.out.trans (hbq.mono HB2.out.size))
    clear hbq
    go_wp2_with (first | (refine wpList_store_blk (by rfl) 34 _ _ (by rfl) g2 (by rfl) (by rfl) HXq.out (by rfl) (by kernel_rfl) (by kernel_rfl) ?_; intro x7 k7 hb7 hz7 ho7; have q0 := blk_cell (i := 0) k7 rfl; have q1 := blk_cell (i := 1) k7 rfl) | (refine wpList_store_blk (by rfl) 38 _ _ (by rfl) g3 (by rfl) (by rfl) ((ho7 _ HNE.out).trans HYq.out) (by rfl) (by kernel_rfl) (by kernel_rfl) ?_; intro x8 k8 hb8 hz8 ho8; have t0 := blk_cell (i := 0) k8 rfl; have t1 := blk_cell (i := 1) k8 rfl; have q0 := blk_cell (i := 0) ((ho8 _ HNE2.out).trans k7) rfl; have q1 := blk_cell (i := 1) ((ho8 _ HNE2.out).trans k7) rfl))
    refine bodyPost_ret (by simp [results, Tryz.results11, go_sem, q0, q1, t0, t1]; try rfl) rfl ?_
    exact ⟨.slice none 0 0, .slice none 0 0, [], [], 30, _, rfl, ⟨M, HLN.out, Or.inl ⟨Or.inl (fun h => by rw [← HLS.out, HLST.out] at h; cases h; exact HL0.out rfl), rfl, rfl, by omega⟩⟩, (fun _ => ⟨rfl, rfl⟩), World.ownsRow_nil _ _ _ _, (fun q hq => by cases hq), World.ownsRow_nil _ _ _ _, hb8 _ _ HG3.out (hb7 _ _ HG2.out (by first | exact HBq.out | exact Below.drew HBq.out))⟩
end Go.Proofs.YtmmpkkpmlaiapaaGreatDoor
