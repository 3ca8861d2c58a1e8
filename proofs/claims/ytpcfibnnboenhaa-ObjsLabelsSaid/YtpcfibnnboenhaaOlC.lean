/- As objs' laws need it: the walk of merlonlaw02.Shape.Type: a type that is a tree. No condition. -/
import Derived.Test.YtpcfibnnboenhaaCsA
import Derived.Test.YtpcfibnnboenhaaOlK
import Derived.Test.YtpcfibnnboenhaaVmK
import Derived.Test.YtpcfibnnboenhaaHu
import Derived.IntWalk
namespace Go.Proofs.Ytpcfibnnboenhaa
open Go.RowKit
set_option linter.unusedVariables false
set_option maxHeartbeats 4000000
theorem later {w w' : World} {a : Addr} {v : Value} (h : w.cell? a = some v) (hb : Below w.heap.size w w') : w'.cell? a = some v := (hb.cell (World.block_lt_of_cell? w _ h)).trans h
def TypeR (w : World) (e : Ending) (w' : World) : Prop := ∃ (t : Ty) (ds : List Value) (ok : Bool), e = .returned (.tuple #[.agg ds.toArray, .bool ok]) ∧ TyC w' (fun _ => True) t ds ∧ OkT t ∧ Below w.heap.size w w'
theorem and_three (n : Int) : ∃ r : Nat, r < 4 ∧ bits .and .i64 n 3 = (r : Int) := by
  obtain ⟨r, h1, h2⟩ := and_low n 2 (by decide)
  have h3 : evB2 .and .i64 n .i64 ((2 ^ 2 - 1 : Nat) : Int) = some (.int .i64 (bits .and .i64 n 3)) := rfl
  rw [h3] at h2
  exact ⟨r, h1, by simpa using h2⟩
theorem shl_one (n : Nat) (hn : n < 4) : ∃ m : Int, ∀ w, (Op.shift .shl .i64 1 .i64 (n : Int)).run Try.prog w = .ok (.int .i64 m) w := by
  match n, hn with
  | 0, _ => exact ⟨_, fun _ => rfl⟩
  | 1, _ => exact ⟨_, fun _ => rfl⟩
  | 2, _ => exact ⟨_, fun _ => rfl⟩
  | 3, _ => exact ⟨_, fun _ => rfl⟩
  | n + 4, h => omega
theorem okT_sec : ∀ {t : Ty}, OkT t → OkT (secT t)
  | .int _ _ _, h => h
  | .ptr _, h => h
  | .arr e n, h => ⟨h.1, h.2.1, okT_sec (t := e) h.2.2⟩
  | .str _, h => h
  | .fn _ _ _, h => h
theorem okT_int {r : Nat} {g c : Bool} (h : r < 4) : OkT (.int (IntKind.i64.wrap (2 ^ r)) g c) := by
  match r, h with
  | 0, _ => exact Or.inl rfl
  | 1, _ => exact Or.inr (Or.inl rfl)
  | 2, _ => exact Or.inr (Or.inr (Or.inl rfl))
  | 3, _ => exact Or.inr (Or.inr (Or.inr rfl))
  | r + 4, h => omega
theorem okT_arr {q : Int} {t : Ty} (h0 : 0 ≤ q) (h1 : q ≤ 39) (h : OkT t) : OkT (.arr t (q % 20)) := by
  have : 0 ≤ q % 20 ∧ q % 20 ≤ 19 := by omega
  exact ⟨this.1, by omega, h⟩
theorem okT_str {q : Int} (h0 : 0 ≤ q) (h1 : q ≤ 39) : OkT (.str (q % 6 - 1)) := by
  have : 0 ≤ q % 6 ∧ q % 6 ≤ 5 := by omega
  show In64 _
  unfold In64
  omega
def zeroT : List Value := tyCells 0 0 false false none 0 0 (.slice none 0 0) none
set_option maxRecDepth 100000 in
theorem type_any (w : World) (s : ShapeD) (vs : Value) (hs : SlR w 2 PairR vs s.steps) : Calls Try.prog 5 #[.agg #[.int .i64 s.int, vs]] w (TypeR w) := by
  obtain ⟨A, cap, rfl, hlc, hcm, hi⟩ := hs
  have HI := Lib.hid hi
  obtain ⟨r, hr4, hand⟩ := and_three s.int
  obtain ⟨m, hsh⟩ := shl_one r hr4
  have HR4 := Lib.hid hr4
  unfold maxLen at hcm
  clear hi
  go_enter Try.func5, Try.ntmps5
  go_wp2_with fail
  obtain ⟨w1, hw1⟩ : ∃ z, z = (w.alloc (.cells #[.int .i64 s.int, .slice A s.steps.length cap] 25)).alloc (.cells zeroT.toArray 39) := ⟨_, rfl⟩
  have HB1 := Lib.hid (show Below w.heap.size w w1 by rw [hw1]; exact below_alloc _ (below_alloc _ (Below.refl _ _)))
  have K1 := Lib.hid (show w1.heap[w.heap.size]? = some (.cells #[.int .i64 s.int, .slice A s.steps.length cap] 25 (0, 0)) by rw [hw1]; exact blk_alloc (blk_new w _) _)
  have K2 := Lib.hid (show w1.heap[w.heap.size + 1]? = some (.cells zeroT.toArray 39 (0, 0)) by rw [hw1]; exact blk_new' (by simp))
  rw [show (w.alloc (.cells #[.int .i64 s.int, .slice A s.steps.length cap] 25)).alloc (.cells #[.int .i64 0, .int .i64 0, .bool false, .bool false, .pointer none, .int .i64 0, .int .i64 0, .slice none 0 0, .pointer none] 39) = w1 from hw1.symm]
  clear hw1
  have x0 := blk_cell (i := 0) K1.out rfl
  have xl := blk_lt K1.out
  go_cut [4] (fun z wx => ∃ (g : Nat) (t : Ty) (ds : List Value), z = .pointer (some ⟨g, 0, none⟩) ∧ w1.heap.size ≤ g ∧ wx.heap[g]? = some (.cells ds.toArray 39 (0, 0)) ∧ TyC wx (fun b => g < b) t ds ∧ OkT t ∧ Below w1.heap.size w1 wx)
  case first =>
    refine upto_begin 10 (fun w' => w'.cell? ⟨w.heap.size, 0, none⟩ = some (.int .i64 s.int)) (by kernel_rfl) ?_ (fun hU0 => ?_)
    · exact x0
    first | refine upto_run 0 (v := ?_) hU0 (by kernel_rfl) rfl (by kernel_rfl) (by kernel_rfl) (by kernel_rfl) (by kernel_rfl) (fun _ _ _ h => h) (Or.inl ⟨by rfl, ?_⟩) ?_ | fail
    rotate_left
    · first | (intro w _; go_simp; with_reducible rfl) | (intro w _; go_simp; done) | fail
    try simp only [Act.put, List.setIfInBounds_toArray, List.set_cons_zero, List.set_cons_succ]
    first | refine upto_read 1 (v := ?_) hU0 (by kernel_rfl) rfl (by kernel_rfl) (by kernel_rfl) (by kernel_rfl) (by kernel_rfl) (by kernel_rfl) (fun _ _ _ h => h) (Or.inl ⟨by rfl, ?_⟩) ?_ | fail
    rotate_left
    · first | (intro w hSw; (try dsimp only at hSw); go_simp; with_reducible rfl) | (intro w hSw; (try dsimp only at hSw); go_simp; done) | fail
    try simp only [Act.put, List.setIfInBounds_toArray, List.set_cons_zero, List.set_cons_succ]
    first | refine upto_run 2 (v := ?_) hU0 (by kernel_rfl) rfl (by kernel_rfl) (by kernel_rfl) (by kernel_rfl) (by kernel_rfl) (fun _ _ _ h => h) (Or.inl ⟨by rfl, ?_⟩) ?_ | fail
    rotate_left
    · first | (intro w _; go_simp; with_reducible rfl) | (intro w _; go_simp; done) | fail
    try simp only [Act.put, List.setIfInBounds_toArray, List.set_cons_zero, List.set_cons_succ]
    first | refine upto_run 3 (v := ?_) hU0 (by kernel_rfl) rfl (by kernel_rfl) (by kernel_rfl) (by kernel_rfl) (by kernel_rfl) (fun _ _ _ h => h) (Or.inl ⟨by rfl, ?_⟩) ?_ | fail
    rotate_left
    · first | (intro w _; go_simp; with_reducible rfl) | (intro w _; go_simp; done) | fail
    try simp only [Act.put, List.setIfInBounds_toArray, List.set_cons_zero, List.set_cons_succ]
    first | refine upto_run 4 (v := ?_) hU0 (by kernel_rfl) rfl (by kernel_rfl) (by kernel_rfl) (by kernel_rfl) (by kernel_rfl) (fun _ _ _ h => h) (Or.inl ⟨by rfl, ?_⟩) ?_ | fail
    rotate_left
    · first | (intro w _; go_simp; with_reducible rfl) | (intro w _; go_simp; done) | fail
    try simp only [Act.put, List.setIfInBounds_toArray, List.set_cons_zero, List.set_cons_succ]
    first | refine upto_read 5 (v := ?_) hU0 (by kernel_rfl) rfl (by kernel_rfl) (by kernel_rfl) (by kernel_rfl) (by kernel_rfl) (by kernel_rfl) (fun _ _ _ h => h) (Or.inl ⟨by rfl, ?_⟩) ?_ | fail
    rotate_left
    · first | (intro w hSw; (try dsimp only at hSw); go_simp; with_reducible rfl) | (intro w hSw; (try dsimp only at hSw); go_simp; done) | fail
    try simp only [Act.put, List.setIfInBounds_toArray, List.set_cons_zero, List.set_cons_succ]
    first | refine upto_run 6 (v := ?_) hU0 (by kernel_rfl) rfl (by kernel_rfl) (by kernel_rfl) (by kernel_rfl) (by kernel_rfl) (fun _ _ _ h => h) (Or.inl ⟨by rfl, ?_⟩) ?_ | fail
    rotate_left
    · first | (intro w _; go_simp; with_reducible rfl) | (intro w _; go_simp; done) | fail
    try simp only [Act.put, List.setIfInBounds_toArray, List.set_cons_zero, List.set_cons_succ]
    first | refine upto_run 7 (v := ?_) hU0 (by kernel_rfl) rfl (by kernel_rfl) (by kernel_rfl) (by kernel_rfl) (by kernel_rfl) (fun _ _ _ h => h) (Or.inl ⟨by rfl, ?_⟩) ?_ | fail
    rotate_left
    · first | (intro w _; go_simp; with_reducible rfl) | (intro w _; go_simp; done) | fail
    try simp only [Act.put, List.setIfInBounds_toArray, List.set_cons_zero, List.set_cons_succ]
    first | refine upto_two 8 9 rfl rfl (by kernel_rfl) (fun K hK => ?_) (fun K hK => ?_) | fail
    · go_simp
      go_at_call 14
      refine (intOf_any _ (fun _ => True) _ _).mono ?_
      rintro e w2 ⟨ds, rfl, ht, hb2⟩
      have hbW : Below w1.heap.size w1 w2 := (Below.drew (Below.refl _ _)).bt hb2
      obtain rfl : ds = _ := ht
      unfold tyCells
      try go_simp
      first | refine hK.out _ _ ?_ (fun hU1 => ?_) | (go_wp2_with fail; refine hK.out _ _ ?_ (fun hU1 => ?_)) | fail
      · exact Or.inr (later x0 hbW)
      clear hK K
      clear hU0
      try simp only [Act.put, List.setIfInBounds_toArray, List.set_cons_zero, List.set_cons_succ]
      first | refine upto_next 9 rfl (by kernel_rfl) (fun K hK => ?_) | fail
      go_simp
      first | refine hK.out _ _ ?_ (fun hU2 => ?_) | (go_wp2_with fail; refine hK.out _ _ ?_ (fun hU2 => ?_)) | fail
      · exact Or.inr (later (later x0 hbW) (below_alloc _ (Below.refl _ _)))
      clear hK K
      clear hU1
      try simp only [Act.put, List.setIfInBounds_toArray, List.set_cons_zero, List.set_cons_succ]
      first | refine upto_next 10 rfl (by kernel_rfl) (fun K hK => ?_) | fail
      go_simp
      first | refine hK.out _ _ ?_ (fun hU3 => ?_) | (go_wp2_with fail; refine hK.out _ _ ?_ (fun hU3 => ?_)) | fail
      · exact Or.inl (by kernel_rfl)
      clear hK K
      clear hU2
      try simp only [Act.put, List.setIfInBounds_toArray, List.set_cons_zero, List.set_cons_succ]
      refine upto_done (by kernel_rfl) ?_ _
      go_wp2_with fail
      go_meet
      exact ⟨w2.heap.size, .int _ _ false, tyCells 1 _ _ false none 0 0 (.slice none 0 0) none, rfl, by have := hbW.size; omega, blk_new w2 _, rfl, okT_int HR4.out, (below_alloc _ hbW)⟩
    · go_simp
      first | refine hK.out _ _ ?_ (fun hU1 => ?_) | (go_wp2_with fail; refine hK.out _ _ ?_ (fun hU1 => ?_)) | fail
      · exact Or.inr (later x0 (Below.drew (below_alloc _ (Below.refl _ _))))
      clear hK K
      clear hU0
      try simp only [Act.put, List.setIfInBounds_toArray, List.set_cons_zero, List.set_cons_succ]
      first | refine upto_next 8 rfl (by kernel_rfl) (fun K hK => ?_) | fail
      go_simp
      go_at_call 14
      refine (intOf_any _ (fun _ => True) _ _).mono ?_
      rintro e w2 ⟨ds, rfl, ht, hb2⟩
      have hbW : Below w1.heap.size w1 w2 := (show Below w1.heap.size w1 ((w1.alloc (.cells #[.int .i64 0, .int .i64 0, .bool false, .bool false, .pointer none, .int .i64 0, .int .i64 0, .slice none 0 0, .pointer none] 39)).drew) from Below.drew (below_alloc _ (Below.refl _ _))).bt hb2
      obtain rfl : ds = _ := ht
      unfold tyCells
      try go_simp
      first | refine hK.out _ _ ?_ (fun hU2 => ?_) | (go_wp2_with fail; refine hK.out _ _ ?_ (fun hU2 => ?_)) | fail
      · exact Or.inr (later x0 hbW)
      clear hK K
      clear hU1
      try simp only [Act.put, List.setIfInBounds_toArray, List.set_cons_zero, List.set_cons_succ]
      first | refine upto_next 10 rfl (by kernel_rfl) (fun K hK => ?_) | fail
      refine step_store_blk rfl 39 _ _ rfl w1.heap.size rfl rfl (blk_below (show (w1.alloc (.cells #[.int .i64 0, .int .i64 0, .bool false, .bool false, .pointer none, .int .i64 0, .int .i64 0, .slice none 0 0, .pointer none] 39)).drew.heap[w1.heap.size]? = some (.cells #[.int .i64 0, .int .i64 0, .bool false, .bool false, .pointer none, .int .i64 0, .int .i64 0, .slice none 0 0, .pointer none] 39 (0, 0)) from blk_new w1 _) hb2) rfl (by kernel_rfl) (by kernel_rfl) ?_
      intro w5 k5 hb5 hz5 ho5
      first | refine hK.out _ _ ?_ (fun hU3 => ?_) | (go_wp2_with fail; refine hK.out _ _ ?_ (fun hU3 => ?_)) | fail
      · exact Or.inl (by kernel_rfl)
      clear hK K
      clear hU2
      try simp only [Act.put, List.setIfInBounds_toArray, List.set_cons_zero, List.set_cons_succ]
      refine upto_done (by kernel_rfl) ?_ _
      go_wp2_with fail
      go_meet
      exact ⟨w1.heap.size, .int _ _ false, tyCells 1 _ _ false none 0 0 (.slice none 0 0) none, rfl, Nat.le_refl _, k5, rfl, okT_int HR4.out, hb5 _ _ (Nat.le_refl _) hbW⟩
  case rest =>
    obtain ⟨g, t0, ds0, hc4, hg, hk, ht, hk5, hb⟩ := hcut
    have HK5 := Lib.hid hk5
    clear hk5
    subst hc4
    rename World => w5
    have HG := Lib.hid hg
    have HK := Lib.hid hk
    have HT := Lib.hid ht
    have HB := Lib.hid hb
    have K15 := Lib.hid (blk_below K1.out hb)
    clear hg hk ht hb x0 xl hand hsh hr4
    have x0 := blk_cell (i := 0) K15.out rfl
    have x1 := blk_cell (i := 1) K15.out rfl
    have xl := blk_lt K15.out
    obtain ⟨b8, hb8⟩ : ∃ b, (bits .and .i64 s.int 8 != 0) = b := ⟨_, rfl⟩
    go_upto_if 21 with (fail)
    clear x0 x1 xl hb8
    go_cut [] (fun wx => ∃ (t : Ty) (ds : List Value), wx.heap[g]? = some (.cells ds.toArray 39 (0, 0)) ∧ TyC wx (fun b => g < b) t ds ∧ OkT t ∧ Below w1.heap.size w1 wx)
    case first =>
      cases b8 with
      | false =>
        go_wp2_with fail
        go_meet
        exact ⟨t0, ds0, HK.out, HT.out, HK5.out, HB.out⟩
      | true =>
        obtain ⟨k', s', g', c', p', n', num', ps', rt', rfl, hk', hps'⟩ := id HT.out.nine
        obtain ⟨A', q1', q2', rfl⟩ : ∃ A m q, ps' = .slice A m q := by
          rcases hps' with rfl | ⟨A, m, q, rfl⟩
          · exact ⟨_, _, _, rfl⟩
          · exact ⟨_, _, _, rfl⟩
        clear hk' hps'
        have HK2 := HK.out
        unfold tyCells at HK2
        have r0 := blk_cell (i := 0) HK2 rfl
        have r1 := blk_cell (i := 1) HK2 rfl
        have r2 := blk_cell (i := 2) HK2 rfl
        have r3 := blk_cell (i := 3) HK2 rfl
        have r4 := blk_cell (i := 4) HK2 rfl
        have r5 := blk_cell (i := 5) HK2 rfl
        have r6 := blk_cell (i := 6) HK2 rfl
        have r7 := blk_cell (i := 7) HK2 rfl
        have r8 := blk_cell (i := 8) HK2 rfl
        have rl := blk_lt HK2
        clear HK2
        go_wp2_with fail
        refine (secret_any t0 w5 _ _ HT.out).mono ?_
        rintro e w6 ⟨ds, rfl, ht, hb6⟩
        have HK6 := Lib.hid (blk_below HK.out hb6)
        have HT6 := Lib.hid ht
        have HB6 := Lib.hid (HB.out.bt hb6)
        have hg5 : g < w5.heap.size := rl
        obtain ⟨n0, n1, n2, n3, n4, n5, n6, n7, n8, n9, n10, rfl⟩ := id ht.ten
        clear r0 r1 r2 r3 r4 r5 r6 r7 r8 rl ht hb6
        unfold tyCells at HK6 HT6 ⊢
        go_wp2_with (refine wpList_store_blk (by rfl) 39 _ _ (by rfl) g (by rfl) (by rfl) HK6.out (by rfl) (by kernel_rfl) (by kernel_rfl) ?_; intro x7 k7 hb7 hz7 ho7)
        go_meet
        exact ⟨_, tyCells n0 n1 n2 n3 n4 n5 n6 (.slice n7 n8 n9) n10, k7, (HT6.out.kept (w' := x7) (fun b h hl => ho7 b (by omega))).low (lo' := fun b => g < b) (fun b h _ => by omega), okT_sec HK5.out, hb7 _ _ HG.out HB6.out⟩
    case rest =>
      clear HK HT HB K15 HK5
      obtain ⟨t0, ds0, hk, ht, hk5, hb⟩ := hcut
      have HK5 := Lib.hid hk5
      clear hk5
      have HK := Lib.hid hk
      have HT := Lib.hid ht
      have HB := Lib.hid hb
      have K15 := Lib.hid (blk_below K1.out hb)
      clear hk ht hb
      have x1 := blk_cell (i := 1) K15.out rfl
      have xl := blk_lt K15.out
      by_cases h6 : 6 < s.steps.length
      · obtain ⟨k', s', g', c', p', n', num', ps', rt', rfl, hk', hps'⟩ := id HT.out.nine
        obtain ⟨A', q1', q2', rfl⟩ : ∃ A m q, ps' = .slice A m q := by
          rcases hps' with rfl | ⟨A, m, q, rfl⟩
          · exact ⟨_, _, _, rfl⟩
          · exact ⟨_, _, _, rfl⟩
        clear hk' hps'
        have HK2 := HK.out
        unfold tyCells at HK2
        have r0 := blk_cell (i := 0) HK2 rfl
        have r1 := blk_cell (i := 1) HK2 rfl
        have r2 := blk_cell (i := 2) HK2 rfl
        have r3 := blk_cell (i := 3) HK2 rfl
        have r4 := blk_cell (i := 4) HK2 rfl
        have r5 := blk_cell (i := 5) HK2 rfl
        have r6 := blk_cell (i := 6) HK2 rfl
        have r7 := blk_cell (i := 7) HK2 rfl
        have r8 := blk_cell (i := 8) HK2 rfl
        have rl := blk_lt HK2
        clear HK2
        have KZ := Lib.hid (blk_below K2.out HB.out)
        go_wp2_with (refine wpList_store_blk (by rfl) 39 _ _ (by rfl) (w.heap.size + 1) (by rfl) (by rfl) KZ.out (by rfl) (by kernel_rfl) (by kernel_rfl) ?_; intro x7 k7 hb7 hz7 ho7)
        have q0 := blk_cell (i := 0) k7 rfl
        have q1 := blk_cell (i := 1) k7 rfl
        have q2 := blk_cell (i := 2) k7 rfl
        have q3 := blk_cell (i := 3) k7 rfl
        have q4 := blk_cell (i := 4) k7 rfl
        have q5 := blk_cell (i := 5) k7 rfl
        have q6 := blk_cell (i := 6) k7 rfl
        have q7 := blk_cell (i := 7) k7 rfl
        have q8 := blk_cell (i := 8) k7 rfl
        have hg1 : w.heap.size + 1 < g := by have h1 := HG.out; have h2 := blk_lt K2.out; omega
        refine bodyPost_ret (v := .tuple #[.agg #[.int .i64 k', .int .i64 s', .bool g', .bool c', .pointer p', .int .i64 n', .int .i64 num', .slice A' q1' q2', .pointer rt'], .bool false]) (by simp [results, Try.results5, go_sem, q0, q1, q2, q3, q4, q5, q6, q7, q8]) rfl
          ⟨t0, tyCells k' s' g' c' p' n' num' (.slice A' q1' q2') rt', false, rfl, (HT.out.kept (fun b h hl => ho7 b (by omega))).low (fun _ _ _ => trivial), HK5.out, hb7 _ _ (by omega) (HB1.out.bt HB.out)⟩
      · go_wp2_with fail
        clear x1 xl
        obtain ⟨wy, hwy⟩ : ∃ z, z = wc := ⟨_, rfl⟩
        go_loopw [5, 32] (fun a i wr => ∃ (k : Nat) (m : Int) (t : Ty) (ds : List Value), k ≤ s.steps.length ∧ i = .int .i64 k ∧ a = .int .i64 m ∧ (0 ≤ m ∧ m ≤ k) ∧ wr.heap[g]? = some (.cells ds.toArray 39 (0, 0)) ∧ TyC wr (fun b => g < b) t ds ∧ OkT t ∧ Below w1.heap.size w1 wr) (fun _ i _ => s.steps.length - (intOf i).toNat)
        case atStart => exact ⟨0, 0, t0, ds0, by omega, rfl, rfl, by omega, HK.out, HT.out, HK5.out, HB.out⟩
        case round =>
          clear HK HT HB K15 HK5
          obtain ⟨k, m, t, ds, hk, rfl, rfl, hm, hkk, htt, hk5, hbb⟩ := hrel
          have HK := Lib.hid hkk
          have HT := Lib.hid htt
          have HB := Lib.hid hbb
          have HK5 := Lib.hid hk5
          clear hkk htt hbb hwy hk5
          by_cases hlt : k < s.steps.length
          · obtain ⟨⟨xa, xb⟩, hx⟩ : ∃ x, s.steps[k]? = some x := ⟨_, List.getElem?_eq_getElem hlt⟩
            obtain ⟨sb, so, cs, rfl, e1, e2, e3, e4, e5⟩ := HI.out k (xa, xb) hx
            subst e3
            have HBw := Lib.hid (HB1.out.bt HB.out)
            have a0 := later (e2 0 (by omega)) HBw.out
            have a1 := later (e2 1 (by omega)) HBw.out
            rw [Nat.add_zero] at a0
            have al := World.block_lt_of_cell? _ _ a0
            simp only [List.getElem?_cons_zero, List.getElem?_cons_succ] at a0 a1
            clear e1 e2 e4 e5 hx
            have hb40 : -39 ≤ xb.tmod 40 ∧ xb.tmod 40 ≤ 39 := by rw [tmod_eq_if]; split <;> omega
            have ha3 : -2 ≤ xa.tmod 3 ∧ xa.tmod 3 ≤ 2 := by rw [tmod_eq_if]; split <;> omega
            go_upto_if 40 with (fail)
            obtain ⟨wp, hwp⟩ : ∃ z, z = wr.alloc (.cells #[.int .i64 xa, .int .i64 xb] 64) := ⟨_, rfl⟩
            have HBX := Lib.hid (show Below wr.heap.size wr wp by rw [hwp]; exact below_alloc _ (Below.refl _ _))
            have HKp := Lib.hid (blk_below HK.out HBX.out)
            have HXX := Lib.hid (show wp.heap[wr.heap.size]? = some (.cells #[.int .i64 xa, .int .i64 xb] 64 (0, 0)) by rw [hwp]; exact blk_new wr _)
            rw [← hwp]
            clear hwp a0 a1 al
            go_cut [8] (fun z wx => ∃ q : Int, z = .int .i64 q ∧ 0 ≤ q ∧ q ≤ 39 ∧ wx = wp)
            case first =>
              by_cases hneg : xb.tmod 40 < 0
              · go_wp2_with fail
                go_meet
                exact ⟨_, rfl, by omega, by omega, rfl⟩
              · go_wp2_with fail
                go_meet
                exact ⟨_, rfl, by omega, by omega, rfl⟩
            case rest =>
              obtain ⟨q, rfl, hq0, hq1, rfl⟩ := hcut
              have y0 := blk_cell (i := 0) HXX.out rfl
              have yl := blk_lt HXX.out
              have hm3 : (xa.tmod 3 + 3) % 3 = 0 ∨ (xa.tmod 3 + 3) % 3 = 1 ∨ (xa.tmod 3 + 3) % 3 = 2 := by omega
              clear hb40
              obtain ⟨k', s', g', c', p', n', num', ps', rt', rfl, hk', hps'⟩ := id HT.out.nine
              obtain ⟨A', q1', q2', rfl⟩ : ∃ A m q, ps' = .slice A m q := by
                rcases hps' with rfl | ⟨A, m, q, rfl⟩
                · exact ⟨_, _, _, rfl⟩
                · exact ⟨_, _, _, rfl⟩
              clear hk' hps'
              have HK2 := HKp.out
              unfold tyCells at HK2
              have r0 := blk_cell (i := 0) HK2 rfl
              have r1 := blk_cell (i := 1) HK2 rfl
              have r2 := blk_cell (i := 2) HK2 rfl
              have r3 := blk_cell (i := 3) HK2 rfl
              have r4 := blk_cell (i := 4) HK2 rfl
              have r5 := blk_cell (i := 5) HK2 rfl
              have r6 := blk_cell (i := 6) HK2 rfl
              have r7 := blk_cell (i := 7) HK2 rfl
              have r8 := blk_cell (i := 8) HK2 rfl
              have rl := blk_lt HK2
              clear HK2
              rcases hm3 with hm3 | hm3 | hm3
              · go_wp2_with fail
                refine (ptrTo_any _ _ t _ (HT.out.later HBX.out)).mono ?_
                rintro e w9 ⟨ds9, rfl, ht9, hb9⟩
                have HK9 := Lib.hid (blk_below HKp.out hb9)
                have HT9 := Lib.hid ht9
                have HB9 := Lib.hid (HB.out.bt (HBX.out.bt hb9))
                have hgl : g < wc.heap.size := rl
                have hgx := HBX.out.size
                obtain ⟨n0, n1, n2, n3, n4, n5, n6, n7, n8, n9, n10, rfl⟩ := id ht9.ten
                clear r0 r1 r2 r3 r4 r5 r6 r7 r8 rl ht9 hb9
                unfold tyCells at HK9 HT9 ⊢
                go_wp2_with (refine wpList_store_blk (by rfl) 39 _ _ (by rfl) g (by rfl) (by rfl) HK9.out (by rfl) (by kernel_rfl) (by kernel_rfl) ?_; intro x7 k7 hb7 hz7 ho7)
                have N1 := Lib.hid k7
                have N2 := Lib.hid ((HT9.out.kept (w' := x7) (fun b h hl => ho7 b (by omega))).low (lo' := fun b => g < b) (fun b h _ => by omega))
                have N3 := Lib.hid (hb7 _ _ HG.out HB9.out)
                clear k7 hb7 hz7 ho7
                go_wp2_with fail
                go_roundw
                case rel => exact ⟨k + 1, m, _, tyCells n0 n1 n2 n3 n4 n5 n6 (.slice n7 n8 n9) n10, by omega, by go_num, by first | rfl | go_num, by omega, N1.out, N2.out, by first | trivial | exact okT_arr hq0 hq1 HK5.out, N3.out⟩
                case measure => simp [intOf]; omega
              · by_cases h3 : 3 < m + 1
                · go_wp2_with fail
                  refine (ptrTo_any _ _ t _ (HT.out.later HBX.out)).mono ?_
                  rintro e w9 ⟨ds9, rfl, ht9, hb9⟩
                  have HK9 := Lib.hid (blk_below HKp.out hb9)
                  have HT9 := Lib.hid ht9
                  have HB9 := Lib.hid (HB.out.bt (HBX.out.bt hb9))
                  have hgl : g < wc.heap.size := rl
                  have hgx := HBX.out.size
                  obtain ⟨n0, n1, n2, n3, n4, n5, n6, n7, n8, n9, n10, rfl⟩ := id ht9.ten
                  clear r0 r1 r2 r3 r4 r5 r6 r7 r8 rl ht9 hb9
                  unfold tyCells at HK9 HT9 ⊢
                  go_wp2_with (refine wpList_store_blk (by rfl) 39 _ _ (by rfl) g (by rfl) (by rfl) HK9.out (by rfl) (by kernel_rfl) (by kernel_rfl) ?_; intro x7 k7 hb7 hz7 ho7)
                  have N1 := Lib.hid k7
                  have N2 := Lib.hid ((HT9.out.kept (w' := x7) (fun b h hl => ho7 b (by omega))).low (lo' := fun b => g < b) (fun b h _ => by omega))
                  have N3 := Lib.hid (hb7 _ _ HG.out HB9.out)
                  clear k7 hb7 hz7 ho7
                  go_wp2_with fail
                  go_roundw
                  case rel => exact ⟨k + 1, m + 1, _, tyCells n0 n1 n2 n3 n4 n5 n6 (.slice n7 n8 n9) n10, by omega, by go_num, by first | rfl | go_num, by omega, N1.out, N2.out, by first | trivial | exact okT_arr hq0 hq1 HK5.out, N3.out⟩
                  case measure => simp [intOf]; omega
                · go_wp2_with fail
                  refine (arrayOf_any _ _ t _ (HT.out.later HBX.out) _).mono ?_
                  rintro e w9 ⟨ds9, rfl, ht9, hb9⟩
                  have HK9 := Lib.hid (blk_below HKp.out hb9)
                  have HT9 := Lib.hid ht9
                  have HB9 := Lib.hid (HB.out.bt (HBX.out.bt hb9))
                  have hgl : g < wc.heap.size := rl
                  have hgx := HBX.out.size
                  obtain ⟨n0, n1, n2, n3, n4, n5, n6, n7, n8, n9, n10, rfl⟩ := id ht9.ten
                  clear r0 r1 r2 r3 r4 r5 r6 r7 r8 rl ht9 hb9
                  unfold tyCells at HK9 HT9 ⊢
                  go_wp2_with (refine wpList_store_blk (by rfl) 39 _ _ (by rfl) g (by rfl) (by rfl) HK9.out (by rfl) (by kernel_rfl) (by kernel_rfl) ?_; intro x7 k7 hb7 hz7 ho7)
                  have N1 := Lib.hid k7
                  have N2 := Lib.hid ((HT9.out.kept (w' := x7) (fun b h hl => ho7 b (by omega))).low (lo' := fun b => g < b) (fun b h _ => by omega))
                  have N3 := Lib.hid (hb7 _ _ HG.out HB9.out)
                  clear k7 hb7 hz7 ho7
                  go_wp2_with fail
                  go_roundw
                  case rel => exact ⟨k + 1, m + 1, _, tyCells n0 n1 n2 n3 n4 n5 n6 (.slice n7 n8 n9) n10, by omega, by go_num, by first | rfl | go_num, by omega, N1.out, N2.out, by first | trivial | exact okT_arr hq0 hq1 HK5.out, N3.out⟩
                  case measure => simp [intOf]; omega
              · have hgl : g < wc.heap.size := rl
                clear r0 r1 r2 r3 r4 r5 r6 r7 r8
                have HKq := HKp.out
                unfold tyCells at HKq
                have HKQ := Lib.hid HKq
                clear HKq
                go_wp2_with (refine wpList_store_blk (by rfl) 39 _ _ (by rfl) g (by rfl) (by rfl) HKQ.out (by rfl) (by kernel_rfl) (by kernel_rfl) ?_; intro x7 k7 hb7 hz7 ho7)
                have N1 := Lib.hid k7
                have N3 := Lib.hid (hb7 _ _ HG.out (HB.out.bt HBX.out))
                clear k7 hb7 hz7 ho7
                go_wp2_with fail
                go_roundw
                case rel => exact ⟨k + 1, m, .str _, tyCells 4 0 false false none 0 _ (.slice none 0 0) none, by omega, by go_num, rfl, by omega, N1.out, rfl, okT_str hq0 hq1, N3.out⟩
                case measure => simp [intOf]; omega
          · have e : k = s.steps.length := by omega
            subst e
            obtain ⟨k', s', g', c', p', n', num', ps', rt', rfl, hk', hps'⟩ := id HT.out.nine
            obtain ⟨A', q1', q2', rfl⟩ : ∃ A m q, ps' = .slice A m q := by
              rcases hps' with rfl | ⟨A, m, q, rfl⟩
              · exact ⟨_, _, _, rfl⟩
              · exact ⟨_, _, _, rfl⟩
            clear hk' hps'
            have HK2 := HK.out
            unfold tyCells at HK2
            have r0 := blk_cell (i := 0) HK2 rfl
            have r1 := blk_cell (i := 1) HK2 rfl
            have r2 := blk_cell (i := 2) HK2 rfl
            have r3 := blk_cell (i := 3) HK2 rfl
            have r4 := blk_cell (i := 4) HK2 rfl
            have r5 := blk_cell (i := 5) HK2 rfl
            have r6 := blk_cell (i := 6) HK2 rfl
            have r7 := blk_cell (i := 7) HK2 rfl
            have r8 := blk_cell (i := 8) HK2 rfl
            have rl := blk_lt HK2
            clear HK2
            have KZ := Lib.hid (blk_below K2.out HB.out)
            go_wp2_with (refine wpList_store_blk (by rfl) 39 _ _ (by rfl) (w.heap.size + 1) (by rfl) (by rfl) KZ.out (by rfl) (by kernel_rfl) (by kernel_rfl) ?_; intro x7 k7 hb7 hz7 ho7)
            have q0 := blk_cell (i := 0) k7 rfl
            have q1 := blk_cell (i := 1) k7 rfl
            have q2 := blk_cell (i := 2) k7 rfl
            have q3 := blk_cell (i := 3) k7 rfl
            have q4 := blk_cell (i := 4) k7 rfl
            have q5 := blk_cell (i := 5) k7 rfl
            have q6 := blk_cell (i := 6) k7 rfl
            have q7 := blk_cell (i := 7) k7 rfl
            have q8 := blk_cell (i := 8) k7 rfl
            have hg1 : w.heap.size + 1 < g := by have h1 := HG.out; have h2 := blk_lt K2.out; omega
            refine bodyPost_ret (v := .tuple #[.agg #[.int .i64 k', .int .i64 s', .bool g', .bool c', .pointer p', .int .i64 n', .int .i64 num', .slice A' q1' q2', .pointer rt'], .bool true]) (by simp [results, Try.results5, go_sem, q0, q1, q2, q3, q4, q5, q6, q7, q8]) rfl
              ⟨t, tyCells k' s' g' c' p' n' num' (.slice A' q1' q2') rt', true, rfl, (HT.out.kept (fun b h hl => ho7 b (by omega))).low (fun _ _ _ => trivial), HK5.out, hb7 _ _ (by omega) (HB1.out.bt HB.out)⟩
end Go.Proofs.Ytpcfibnnboenhaa
