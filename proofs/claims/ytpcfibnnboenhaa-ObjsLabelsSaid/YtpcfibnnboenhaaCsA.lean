/- The walks of ctype.IntOf, PtrTo, ArrayOf, Secret. No condition. -/
import Derived.Test.YtpcfibnnboenhaaCsP
namespace Go.Proofs.Ytpcfibnnboenhaa
open Go.RowKit
set_option linter.unusedVariables false
set_option maxHeartbeats 4000000
set_option maxRecDepth 20000
/-- a type comes back; all it leads to that is new lies behind what stood -/
def GivesT (w : World) (lo : Nat → Prop) (t : Ty) (e : Ending) (w' : World) : Prop := ∃ ds : List Value, e = .returned (.agg ds.toArray) ∧ TyC w' (fun b => lo b ∨ w.heap.size ≤ b) t ds ∧ Below w.heap.size w w'
theorem secT_kind : ∀ t : Ty, (secT t).kind = t.kind
  | .int _ _ _ => rfl
  | .ptr _ => rfl
  | .arr _ _ => rfl
  | .str _ => rfl
  | .fn _ _ _ => rfl
theorem intOf_any (w : World) (lo : Nat → Prop) (s : Int) (g : Bool) : Calls Try.prog 14 #[.int .i64 s, .bool g] w (GivesT w lo (.int s g false)) := by
  go_enter Try.func14, Try.ntmps14
  go_wp2_with fail
  exact bodyPost_ret (v := .agg #[.int .i64 1, .int .i64 s, .bool g, .bool false, .pointer none, .int .i64 0, .int .i64 0, .slice none 0 0, .pointer none]) (by simp [results, Try.results14, go_sem]) rfl ⟨tyCells 1 s g false none 0 0 (.slice none 0 0) none, rfl, rfl, (Below.refl _ _).alloc (Nat.le_refl _) _⟩
theorem ptrTo_any (w : World) (lo : Nat → Prop) (t : Ty) (cs : List Value) (h : TyC w lo t cs) : Calls Try.prog 16 #[.agg cs.toArray] w (GivesT w lo (.ptr t)) := by
  obtain ⟨k, s, g, c, p, n, num, ps, rt, rfl, hk, hps⟩ := id h.nine
  have H := Lib.hid h
  clear h hk hps
  go_enter Try.func16, Try.ntmps16
  go_wp2_with fail
  have hb : ∀ o, Below w.heap.size w ((w.alloc (.cells (tyCells k s g c p n num ps rt).toArray 39)).alloc o) := fun o => below_alloc _ (below_alloc _ (Below.refl _ _))
  exact bodyPost_ret (v := .agg #[.int .i64 2, .int .i64 8, .bool false, .bool false, .pointer (some ⟨w.heap.size, 0, none⟩), .int .i64 0, .int .i64 0, .slice none 0 0, .pointer none]) (by simp [results, Try.results16, go_sem]) rfl
    ⟨tyCells 2 8 false false (some ⟨w.heap.size, 0, none⟩) 0 0 (.slice none 0 0) none, rfl, ⟨w.heap.size, _, rfl, Or.inr (Nat.le_refl _), blk_alloc (blk_new w _) _, (H.out.later (hb _)).low (fun b h _ => Or.inl h)⟩, hb _⟩
theorem arrayOf_any (w : World) (lo : Nat → Prop) (t : Ty) (cs : List Value) (h : TyC w lo t cs) (m : Int) : Calls Try.prog 17 #[.agg cs.toArray, .int .i64 m] w (GivesT w lo (.arr t m)) := by
  obtain ⟨k, s, g, c, p, n, num, ps, rt, rfl, hk, hps⟩ := id h.nine
  have H := Lib.hid h
  clear h hk hps
  go_enter Try.func17, Try.ntmps17
  go_wp2_with fail
  have hb : ∀ o, Below w.heap.size w ((w.alloc (.cells (tyCells k s g c p n num ps rt).toArray 39)).alloc o) := fun o => below_alloc _ (below_alloc _ (Below.refl _ _))
  exact bodyPost_ret (v := .agg #[.int .i64 3, .int .i64 0, .bool false, .bool false, .pointer (some ⟨w.heap.size, 0, none⟩), .int .i64 m, .int .i64 0, .slice none 0 0, .pointer none]) (by simp [results, Try.results17, go_sem]) rfl
    ⟨tyCells 3 0 false false (some ⟨w.heap.size, 0, none⟩) m 0 (.slice none 0 0) none, rfl, ⟨w.heap.size, _, rfl, Or.inr (Nat.le_refl _), blk_alloc (blk_new w _) _, (H.out.later (hb _)).low (fun b h _ => Or.inl h)⟩, hb _⟩
theorem secret_other (w : World) (lo : Nat → Prop) (t : Ty) (cs : List Value) (h : TyC w lo t cs) (h1 : t.kind ≠ 1) (h3 : t.kind ≠ 3) (e : secT t = t) : Calls Try.prog 8 #[.agg cs.toArray] w (GivesT w lo (secT t)) := by
  rw [e]
  obtain ⟨k, s, g, c, p, n, num, ps, rt, rfl, hk, hps⟩ := id h.nine
  have H := Lib.hid h
  rw [← hk] at h1 h3
  obtain ⟨A, m, q, rfl⟩ : ∃ A m q, ps = .slice A m q := by
    rcases hps with rfl | ⟨A, m, q, rfl⟩
    · exact ⟨_, _, _, rfl⟩
    · exact ⟨_, _, _, rfl⟩
  clear h hk e hps
  unfold tyCells
  have HB := Lib.hid (below_alloc (.cells #[.int .i64 k, .int .i64 s, .bool g, .bool c, .pointer p, .int .i64 n, .int .i64 num, .slice A m q, .pointer rt] 39) (below_alloc (.cells #[.int .i64 k, .int .i64 s, .bool g, .bool c, .pointer p, .int .i64 n, .int .i64 num, .slice A m q, .pointer rt] 39) (Below.refl w.heap.size w)))
  go_enter Try.func8, Try.ntmps8
  go_wp2_with fail
  exact bodyPost_ret (v := .agg #[.int .i64 k, .int .i64 s, .bool g, .bool c, .pointer p, .int .i64 n, .int .i64 num, .slice A m q, .pointer rt]) (by simp [results, Try.results8, go_sem]) rfl
    ⟨tyCells k s g c p n num (.slice A m q) rt, rfl, (H.out.later HB.out).low (fun b h _ => Or.inl h), HB.out⟩
theorem secret_int (w : World) (lo : Nat → Prop) (s : Int) (g c : Bool) : Calls Try.prog 8 #[.agg (tyCells 1 s g c none 0 0 (.slice none 0 0) none).toArray] w (GivesT w lo (secT (.int s g c))) := by
  unfold tyCells
  go_enter Try.func8, Try.ntmps8
  go_wp2_with fail
  exact bodyPost_ret (v := .agg #[.int .i64 1, .int .i64 s, .bool g, .bool true, .pointer none, .int .i64 0, .int .i64 0, .slice none 0 0, .pointer none]) (by simp [results, Try.results8, go_sem]) rfl
    ⟨tyCells 1 s g true none 0 0 (.slice none 0 0) none, rfl, rfl, below_alloc _ (below_alloc _ (Below.refl _ _))⟩
theorem secret_arr (w : World) (lo : Nat → Prop) (t : Ty) (m : Int) (cs : List Value) (h : TyC w lo (.arr t m) cs) (ih : ∀ (w : World) (lo : Nat → Prop) (cs : List Value), TyC w lo t cs → Calls Try.prog 8 #[.agg cs.toArray] w (GivesT w lo (secT t))) :
    Calls Try.prog 8 #[.agg cs.toArray] w (GivesT w lo (secT (.arr t m))) := by
  obtain ⟨b, ds, rfl, hl, hb, hd⟩ := h
  have HD := Lib.hid hd
  obtain ⟨k, s, g, c, p, n, num, ps, rt, rfl, hk, hps⟩ := id hd.nine
  obtain ⟨A, q1, q2, rfl⟩ : ∃ A m q, ps = .slice A m q := by
    rcases hps with rfl | ⟨A, m, q, rfl⟩
    · exact ⟨_, _, _, rfl⟩
    · exact ⟨_, _, _, rfl⟩
  have HIH := Lib.hid ih
  have HBk := Lib.hid hb
  clear hd hk hps ih
  unfold tyCells
  unfold tyCells at hb
  have r0 := blk_cell (i := 0) hb rfl
  have r1 := blk_cell (i := 1) hb rfl
  have r2 := blk_cell (i := 2) hb rfl
  have r3 := blk_cell (i := 3) hb rfl
  have r4 := blk_cell (i := 4) hb rfl
  have r5 := blk_cell (i := 5) hb rfl
  have r6 := blk_cell (i := 6) hb rfl
  have r7 := blk_cell (i := 7) hb rfl
  have r8 := blk_cell (i := 8) hb rfl
  have hbl := blk_lt hb
  clear hb
  go_enter Try.func8, Try.ntmps8
  go_wp2_with fail
  clear r0 r1 r2 r3 r4 r5 r6 r7 r8
  obtain ⟨w2, hw2⟩ : ∃ z, z = (w.alloc (.cells #[.int .i64 3, .int .i64 0, .bool false, .bool false, .pointer (some ⟨b, 0, none⟩), .int .i64 m, .int .i64 0, .slice none 0 0, .pointer none] 39)).alloc (.cells #[.int .i64 0, .int .i64 0, .bool false, .bool false, .pointer none, .int .i64 0, .int .i64 0, .slice none 0 0, .pointer none] 39) := ⟨_, rfl⟩
  have K1 := Lib.hid (show w2.heap[w.heap.size]? = some (.cells #[.int .i64 3, .int .i64 0, .bool false, .bool false, .pointer (some ⟨b, 0, none⟩), .int .i64 m, .int .i64 0, .slice none 0 0, .pointer none] 39 (0, 0)) by rw [hw2]; exact blk_alloc (blk_new w _) _)
  have K2 := Lib.hid (show w2.heap[w.heap.size + 1]? = some (.cells #[.int .i64 0, .int .i64 0, .bool false, .bool false, .pointer none, .int .i64 0, .int .i64 0, .slice none 0 0, .pointer none] 39 (0, 0)) by rw [hw2]; exact blk_new' (by simp))
  have HB2 := Lib.hid (show Below w.heap.size w w2 by rw [hw2]; exact below_alloc _ (below_alloc _ (Below.refl _ _)))
  have hz2 : w2.heap.size = w.heap.size + 2 := by rw [hw2]; simp
  rw [← hw2]
  clear hw2
  refine (HIH.out w2 (fun b => lo b ∧ b < w.heap.size) _ ((HD.out.low (fun b h hl => And.intro h hl)).later HB2.out)).mono ?_
  rintro e w3 ⟨ds3, rfl, ht3, hb3⟩
  have HT3 := Lib.hid ht3
  have HB3 := Lib.hid (HB2.out.bt hb3)
  have K13 := Lib.hid (blk_below K1.out hb3)
  have K23 := Lib.hid (blk_below K2.out hb3)
  have hz3 : w2.heap.size ≤ w3.heap.size := hb3.size
  obtain ⟨k', s', g', c', p', n', num', ps', rt', rfl, hk', hps'⟩ := id ht3.nine
  obtain ⟨A', q1', q2', rfl⟩ : ∃ A m q, ps' = .slice A m q := by
    rcases hps' with rfl | ⟨A, m, q, rfl⟩
    · exact ⟨_, _, _, rfl⟩
    · exact ⟨_, _, _, rfl⟩
  clear ht3 hb3 hk' hps'
  have r0 := blk_cell (i := 0) K13.out rfl
  have r1 := blk_cell (i := 1) K13.out rfl
  have r2 := blk_cell (i := 2) K13.out rfl
  have r3 := blk_cell (i := 3) K13.out rfl
  have r4 := blk_cell (i := 4) K13.out rfl
  have r5 := blk_cell (i := 5) K13.out rfl
  have r6 := blk_cell (i := 6) K13.out rfl
  have r7 := blk_cell (i := 7) K13.out rfl
  have r8 := blk_cell (i := 8) K13.out rfl
  have r4f := blk_free (i := 4) K13.out
  have rl := blk_lt K13.out
  have hzz : w.heap.size + 2 ≤ w3.heap.size := by omega
  have HZZ := Lib.hid hzz
  have HZ2 := Lib.hid hz2
  clear hz2 hz3 hzz
  unfold tyCells
  go_upto_region 7 with fail
  clear r0 r1 r2 r3 r4 r5 r6 r7 r8 r4f rl
  obtain ⟨w4, hw4⟩ : ∃ z, z = (w3.setCell ⟨w.heap.size, 4, none⟩ (.pointer (some ⟨w3.heap.size, 0, none⟩))).alloc (.cells #[.int .i64 k', .int .i64 s', .bool g', .bool c', .pointer p', .int .i64 n', .int .i64 num', .slice A' q1' q2', .pointer rt'] 39) := ⟨_, rfl⟩
  have K14 := Lib.hid (show w4.heap[w.heap.size]? = some (.cells #[.int .i64 3, .int .i64 0, .bool false, .bool false, .pointer (some ⟨w3.heap.size, 0, none⟩), .int .i64 m, .int .i64 0, .slice none 0 0, .pointer none] 39 (0, 0)) by rw [hw4]; exact blk_alloc (blk_setCell (i := 4) K13.out _) _)
  have K24 := Lib.hid (show w4.heap[w.heap.size + 1]? = some (.cells #[.int .i64 0, .int .i64 0, .bool false, .bool false, .pointer none, .int .i64 0, .int .i64 0, .slice none 0 0, .pointer none] 39 (0, 0)) by rw [hw4]; exact blk_alloc (blk_set K23.out (by simp) _) _)
  have KN := Lib.hid (show w4.heap[w3.heap.size]? = some (.cells (tyCells k' s' g' c' p' n' num' (.slice A' q1' q2') rt').toArray 39 (0, 0)) by rw [hw4]; exact blk_new' (by simp))
  have HB4 := Lib.hid (show Below w.heap.size w w4 by rw [hw4]; exact below_alloc _ (Below.setCell HB3.out (p := ⟨w.heap.size, 4, none⟩) (Nat.le_refl _) _))
  have HO4 := Lib.hid (show ∀ q, q ≠ w.heap.size → q < w3.heap.size → w4.heap[q]? = w3.heap[q]? from fun q hq hl => by rw [hw4, Below.heap_alloc _ _ _ (by simpa using hl)]; exact Below.heap_setCell _ _ _ _ hq)
  rw [← hw4]
  clear hw4
  have r0 := blk_cell (i := 0) K14.out rfl
  have r1 := blk_cell (i := 1) K14.out rfl
  have r2 := blk_cell (i := 2) K14.out rfl
  have r3 := blk_cell (i := 3) K14.out rfl
  have r4 := blk_cell (i := 4) K14.out rfl
  have r5 := blk_cell (i := 5) K14.out rfl
  have r6 := blk_cell (i := 6) K14.out rfl
  have r7 := blk_cell (i := 7) K14.out rfl
  have r8 := blk_cell (i := 8) K14.out rfl
  have rl := blk_lt K14.out
  go_wp2_with (refine wpList_store_blk (by rfl) 39 _ _ (by rfl) (w.heap.size + 1) (by rfl) (by rfl) K24.out (by rfl) (by kernel_rfl) (by kernel_rfl) ?_; intro x5 k5 hb5 hz5 ho5)
  have q0 := blk_cell (i := 0) k5 rfl
  have q1 := blk_cell (i := 1) k5 rfl
  have q2 := blk_cell (i := 2) k5 rfl
  have q3 := blk_cell (i := 3) k5 rfl
  have q4 := blk_cell (i := 4) k5 rfl
  have q5 := blk_cell (i := 5) k5 rfl
  have q6 := blk_cell (i := 6) k5 rfl
  have q7 := blk_cell (i := 7) k5 rfl
  have q8 := blk_cell (i := 8) k5 rfl
  have hz := HZZ.out
  have hz2 := HZ2.out
  refine bodyPost_ret (v := .agg #[.int .i64 3, .int .i64 0, .bool false, .bool false, .pointer (some ⟨w3.heap.size, 0, none⟩), .int .i64 m, .int .i64 0, .slice none 0 0, .pointer none]) (by simp [results, Try.results8, go_sem, q0, q1, q2, q3, q4, q5, q6, q7, q8]) rfl
    ⟨tyCells 3 0 false false (some ⟨w3.heap.size, 0, none⟩) m 0 (.slice none 0 0) none, rfl, ⟨w3.heap.size, tyCells k' s' g' c' p' n' num' (.slice A' q1' q2') rt', rfl, Or.inr (by omega), (ho5 _ (by omega)).trans KN.out, ?_⟩, hb5 _ _ (by omega) HB4.out⟩
  have h1 := HT3.out.kept (w' := x5) (fun q h hl => by
    have hne : q ≠ w.heap.size ∧ q ≠ w.heap.size + 1 := by rcases h with h | h <;> omega
    exact (ho5 q hne.2).trans (HO4.out q hne.1 hl))
  exact h1.low (fun q h _ => by rcases h with h | h; · exact Or.inl h.1
                                · exact Or.inr (by omega))
theorem secret_any : ∀ (t : Ty) (w : World) (lo : Nat → Prop) (cs : List Value), TyC w lo t cs → Calls Try.prog 8 #[.agg cs.toArray] w (GivesT w lo (secT t)) := by
  intro t
  induction t with
  | int s g c => intro w lo cs h; subst h; exact secret_int w lo s g c
  | ptr e _ => intro w lo cs h; exact secret_other w lo _ cs h (by simp [Ty.kind]) (by simp [Ty.kind]) rfl
  | arr e n ih => intro w lo cs h; exact secret_arr w lo e n cs h ih
  | str k => intro w lo cs h; exact secret_other w lo _ cs h (by simp [Ty.kind]) (by simp [Ty.kind]) rfl
  | fn r a b _ _ _ => intro w lo cs h; exact secret_other w lo _ cs h (by simp [Ty.kind]) (by simp [Ty.kind]) rfl
end Go.Proofs.Ytpcfibnnboenhaa
