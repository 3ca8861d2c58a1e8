/- ObjsCopies: the law walked. No condition. -/
import Derived.Test.YtcjfkbohgnopfaaKmG
import Derived.Test.YtcjfkbohgnopfaaHu
import Derived.Test.YtcjfkbohgnopfaaStruct
namespace Go.Proofs.Ytcjfkbohgnopfaa
open Go.RowKit
set_option linter.unusedVariables false
set_option maxHeartbeats 4000000
set_option maxRecDepth 100000
theorem intOf_8 (w : World) : Calls Try.prog 6 #[.int .i64 8, .bool true] w fun e w' => e = .returned tyI ∧ Below w.heap.size w w' := by
  go_enter Try.func6, Try.ntmps6
  go_wp2_with fail
  exact bodyPost_ret (v := tyI) (by simp [results, Try.results6, go_sem, tyI]) rfl ⟨rfl, below_alloc _ (Below.refl _ _)⟩
theorem ptrTo_8 (w : World) : Calls Try.prog 7 #[tyI] w fun e w' => e = .returned (tyQ' ⟨w.heap.size, 0, none⟩) ∧ Below w.heap.size w w' := by
  unfold tyI
  go_enter Try.func7, Try.ntmps7
  go_wp2_with fail
  exact bodyPost_ret (v := tyQ' ⟨w.heap.size, 0, none⟩) (by simp [results, Try.results7, go_sem, tyQ']) rfl ⟨rfl, below_alloc _ (below_alloc _ (Below.refl _ _))⟩
theorem new_mem (w : World) : Calls Try.prog 5 #[] w fun e w' => e = .returned (.pointer (some ⟨w.heap.size, 0, none⟩)) ∧ w' = w.alloc (.cells #[.slice none 0 0] 45) := by
  go_enter Try.func5, Try.ntmps5
  go_wp2
  go_returns
  exact ⟨rfl, rfl⟩
theorem mk_80 (w : World) : (Instr.makeSlice 33 (.int .i64 80) (.int .i64 80)).run Try.prog w = .ok (.slice (some ⟨w.heap.size, 0, none⟩) 80 80) (w.alloc (.cells lab80 4)) := by kernel_rfl
def tyIc : Array Value := #[.int .i64 1, .int .i64 8, .bool true, .bool false, .pointer none, .int .i64 0, .int .i64 0, .slice none 0 0, .pointer none]
def tyQc (a : Addr) : Array Value := #[.int .i64 2, .int .i64 8, .bool false, .bool false, .pointer (some a), .int .i64 0, .int .i64 0, .slice none 0 0, .pointer none]
/-- the two types that the law keeps, beside the memory -/
structure Typs (β : Place) (bI bQ : Nat) (a : Addr) (w : World) : Prop where
  i1 : w.heap[bI]? = some (.cells tyIc 29 (0, 0))
  q1 : w.heap[bQ]? = some (.cells (tyQc a) 29 (0, 0))
  i2 : Out β bI
  q2 : Out β bQ
theorem Typs.later {β : Place} {bI bQ : Nat} {a : Addr} {w w' : World} (h : Typs β bI bQ a w) (hb : Below w.heap.size w w') : Typs β bI bQ a w' := ⟨blk_below h.i1 hb, blk_below h.q1 hb, h.i2, h.q2⟩
theorem typs_one {wc w8 : World} {β8 : Place} {pm l bI bQ : Nat} {a : Addr} (hI : wc.heap[bI]? = some (.cells tyIc 29 (0, 0))) (hQ : wc.heap[bQ]? = some (.cells (tyQc a) 29 (0, 0))) (hk : ∀ b, b < wc.heap.size → b ≠ pm → b ≠ l → Out β8 b ∧ w8.heap[b]? = wc.heap[b]?) (h1 : bI ≠ pm) (h2 : bI ≠ l) (h3 : bQ ≠ pm) (h4 : bQ ≠ l) : Typs β8 bI bQ a w8 := by
  obtain ⟨k1, k2⟩ := hk bI (blk_lt hI) h1 h2
  obtain ⟨k3, k4⟩ := hk bQ (blk_lt hQ) h3 h4
  exact ⟨k2.trans hI, k4.trans hQ, k1, k3⟩
theorem typs_two {wc w9 : World} {β8 β9 : Place} {l bI bQ : Nat} {a : Addr} (h : Typs β8 bI bQ a wc) (hk : ∀ b, b < wc.heap.size → b ≠ l → Out β8 b → Out β9 b ∧ w9.heap[b]? = wc.heap[b]?) (h2 : bI ≠ l) (h4 : bQ ≠ l) : Typs β9 bI bQ a w9 := by
  obtain ⟨k1, k2⟩ := hk bI (blk_lt h.i1) h2 h.i2
  obtain ⟨k3, k4⟩ := hk bQ (blk_lt h.q1) h4 h.q2
  exact ⟨k2.trans h.i1, k4.trans h.q1, k1, k3⟩
theorem Typs.keep {w w' : World} {β β' : Place} {bI bQ : Nat} {a : Addr} (h : Typs β bI bQ a w) (hk : KeepB w β w' β') : Typs β' bI bQ a w' := by
  obtain ⟨k1, k2⟩ := hk.blk h.i2 h.i1
  obtain ⟨k3, k4⟩ := hk.blk h.q2 h.q1
  exact ⟨k2, k4, k1, k3⟩
theorem grown_set' (w : World) (b j : Nat) (v : Value) : w.grownBy (w.setCell ⟨b, j, none⟩ v) (some b) := ⟨rfl, rfl, rfl, by simp [World.setCell], fun k hk hne => Below.heap_setCell w ⟨b, j, none⟩ v k (fun e => hne (by rw [e]))⟩
theorem MR.other {ρ : Int → Int} {β : Place} {B pm b : Nat} {w w' : World} (h : MR ρ β B pm w) (hg : w.grownBy w' (some b)) (ho : Out β b) : MR ρ β B pm w' :=
  ⟨⟨h.rel.unborn, fun i o hi => let ⟨b1, d, x, e1, e2⟩ := h.rel.live i o hi; ⟨b1, d, x, e1, e2.mono (LeS.refl _) (hg.block b1 (h.rel.lt i b1 d x e1) (fun e => by cases e; exact ho i d x e1))⟩, h.rel.inj, fun i b1 d x hi => Nat.lt_of_lt_of_le (h.rel.lt i b1 d x hi) hg.size⟩, h.far, h.dead, h.at0, Nat.le_trans h.hB hg.size⟩
theorem Typs.other {w w' : World} {β : Place} {bI bQ b : Nat} {a : Addr} (h : Typs β bI bQ a w) (hg : w.grownBy w' (some b)) (h1 : bI ≠ b) (h2 : bQ ≠ b) : Typs β bI bQ a w' :=
  ⟨(hg.block bI (blk_lt h.i1) (fun e => h1 (by cases e; rfl))).trans h.i1, (hg.block bQ (blk_lt h.q1) (fun e => h2 (by cases e; rfl))).trans h.q1, h.i2, h.q2⟩
theorem below_set {w0 w : World} {b j : Nat} {v : Value} (h : Below w0.heap.size w0 w) (hb : w0.heap.size ≤ b) : Below w0.heap.size w0 (w.setCell ⟨b, j, none⟩ v) := h.setCell hb v
def cls (x : Int) : Wd := if bits .and .i64 x 3 = 0 then .no else if bits .and .i64 x 3 = 1 then .ptr (bits .and .i64 x 63) else .num x
theorem load_two (x : Int) (hx : In64 x) : ∃ (X a b c : Int) (o1 pp o2 : Bool), (∀ (ρ : Int → Int) (β : Place) (B pm : Nat) (w : World) (k i : Nat) (ad : Addr), MR ρ β B pm w → k < 2 → i < 4 → WordIs ρ k (5 + i) (cls x) →
    (Calls Try.prog 11 #[.pointer (some ⟨pm, 0, none⟩), pat k (8 * (5 + i)), tyI] w (LoadV ρ β B pm w X 0 0 0 false o1)) ∧ Calls Try.prog 11 #[.pointer (some ⟨pm, 0, none⟩), pat k (8 * (5 + i)), tyQ' ad] w (LoadV ρ β B pm w 0 a b c pp o2)) ∧
    (bits .and .i64 x 3 = 0 → o1 = false ∧ o2 = false) ∧ (bits .and .i64 x 3 = 1 → o1 = false ∧ o2 = true ∧ a = 1 ∧ b = 1 ∧ c = bits .and .i64 x 63) ∧ (bits .and .i64 x 3 ≠ 0 → bits .and .i64 x 3 ≠ 1 → o1 = true ∧ o2 = false ∧ X = x) := by
  by_cases h0 : bits .and .i64 x 3 = 0
  · refine ⟨0, 0, 0, 0, false, false, false, fun ρ β B pm w k i ad h hk hi hw => load_no h k i hk hi (by unfold cls at hw; rw [if_pos h0] at hw; exact hw) ad, fun _ => ⟨rfl, rfl⟩, (fun h => absurd (h0.symm.trans h) (by decide)), fun h => absurd h0 h⟩
  · by_cases h1 : bits .and .i64 x 3 = 1
    · refine ⟨0, 1, 1, bits .and .i64 x 63, false, true, true, fun ρ β B pm w k i ad h hk hi hw => load_ptr h k i hk hi _ (by unfold cls at hw; rw [if_neg h0, if_pos h1] at hw; exact hw) ad, fun h => absurd h h0, fun _ => ⟨rfl, rfl, rfl, rfl, rfl⟩, fun _ h => absurd h1 h⟩
    · refine ⟨x, 0, 0, 0, true, false, false, fun ρ β B pm w k i ad h hk hi hw => load_num h k i hk hi x hx (by unfold cls at hw; rw [if_neg h0, if_neg h1] at hw; exact hw) ad, fun h => absurd h h0, fun h => absurd h h1, fun _ _ => ⟨rfl, rfl, rfl⟩⟩
theorem base_fin {B pm : Nat} {W wc w8 w8' w9 : World} (h : Below B W wc) (h8 : Below pm wc w8) (h8' : Below w8.heap.size w8 w8') (h9 : Below pm w8' w9) (hp : B ≤ pm) (hB : B ≤ w8.heap.size) : Below B W w9 := ((h.trans (h8.mono hp)).trans (h8'.mono hB)).trans (h9.mono hp)
theorem copieslaw (W : World) (A : Option Addr) (n1 c1 : Nat) (same : Bool) (hl : n1 ≤ 9223372036854775807) (xf : Nat → Int) (hx : ∀ k, k < n1 → ∀ w', Below W.heap.size W w' → ∃ b o : Nat, A = some ⟨b, o, none⟩ ∧ w'.cell? ⟨b, o + k, none⟩ = some (.int .i64 (xf k)) ∧ In64 (xf k)) :
    Calls Try.prog 3 #[.slice A n1 c1, .bool same] W fun e w' => e = .returned (.bool true) ∧ Below W.heap.size W w' := by
  have HX := Lib.hid hx
  have hmk := mk_80
  clear hx
  go_enter Try.func3, Try.ntmps3
  go_wp2_with fail
  refine (fit_vm _).mono ?_
  rintro e w1 ⟨rfl, hb1⟩
  have HB1 := Lib.hid hb1
  clear hb1
  go_wp2_with fail
  refine (new_mem _).mono ?_
  rintro e w2 ⟨rfl, rfl⟩
  go_wp2_with fail
  refine (intOf_8 _).mono ?_
  rintro e w3 ⟨rfl, kb3⟩
  go_wp2_with fail
  refine (intOf_8 _).mono ?_
  rintro e w4 ⟨rfl, kb4⟩
  go_wp2_with fail
  refine (ptrTo_8 _).mono ?_
  rintro e w5 ⟨rfl, kb5⟩
  have HB5 := Lib.hid ((below_alloc (.cells #[.slice none 0 0] 45) HB1.out).bt (kb3.bt (kb4.bt kb5)))
  have HM5 := Lib.hid (blk_below (blk_new w1 (.cells #[.slice none 0 0] 45)) (kb3.bt (kb4.bt kb5)))
  have HZ := Lib.hid (show w1.heap.size < w5.heap.size from blk_lt HM5.out)
  have HZ1 := Lib.hid HB1.out.size
  clear kb3 kb4 kb5
  unfold tyI tyQ'
  generalize hpm : w1.heap.size = pm at *
  have HPM := Lib.hid hpm
  clear hpm
  go_upto_region 6 with (fail)
  obtain ⟨w6, hw6⟩ : ∃ w6, w6 = (w5.alloc (.cells tyIc 29)).alloc (.cells (tyQc ⟨w4.heap.size, 0, none⟩) 29) := ⟨_, rfl⟩
  have HB6 := Lib.hid (show Below W.heap.size W w6 by rw [hw6]; exact below_alloc _ (below_alloc _ HB5.out))
  have HM6 := Lib.hid (show w6.heap[pm]? = some (.cells #[.slice none 0 0] 45 (0, 0)) by rw [hw6]; exact blk_alloc (blk_alloc HM5.out _) _)
  have HI6 := Lib.hid (show w6.heap[w5.heap.size]? = some (.cells tyIc 29 (0, 0)) by rw [hw6]; exact blk_alloc (blk_new w5 _) _)
  have HQ6 := Lib.hid (show w6.heap[w5.heap.size + 1]? = some (.cells (tyQc ⟨w4.heap.size, 0, none⟩) 29 (0, 0)) by rw [hw6]; exact blk_new' (by simp))
  have HS6 := Lib.hid (show w6.heap.size = w5.heap.size + 2 by rw [hw6]; simp)
  unfold tyIc tyQc at hw6
  rw [← hw6]
  clear hw6
  obtain ⟨n, hn, hn4, hnl⟩ : ∃ n : Nat, (if (4 : Int) < (n1 : Int) then (4 : Int) else (n1 : Int)) = (n : Int) ∧ n ≤ 4 ∧ n ≤ n1 := by
    by_cases h : (4 : Int) < (n1 : Int)
    · exact ⟨4, by rw [if_pos h]; rfl, by omega, by omega⟩
    · exact ⟨n1, by rw [if_neg h], by omega, by omega⟩
  rw [hn]
  clear hn
  have HWP := Lib.hid (show W.heap.size ≤ pm from HZ1.out)
  generalize hbi : w5.heap.size = bI at *
  generalize w4.heap.size = b4 at *
  go_cut [9, 10] (fun x y wx => x = .int .i64 0 ∧ y = .int .i64 1 ∧ ∃ β, MR zR β pm pm wx ∧ Typs β bI (bI + 1) ⟨b4, 0, none⟩ wx ∧ Below W.heap.size W wx)
  case first =>
    have hz := HZ.out
    -- REGION6
    refine upto_begin 7 (fun _ => True) (by kernel_rfl) ?_ (fun hU0 => ?_)
    · trivial
    first | refine upto_run 0 (v := ?_) hU0 (by kernel_rfl) rfl (by kernel_rfl) (by kernel_rfl) (by kernel_rfl) (by kernel_rfl) (fun _ _ _ h => h) (Or.inl ⟨by rfl, ?_⟩) ?_ | fail
    rotate_left
    · first | (intro w _; go_simp; with_reducible rfl) | (intro w _; go_simp; done) | fail
    try simp only [Act.put, List.setIfInBounds_toArray, List.set_cons_zero, List.set_cons_succ]
    first | refine upto_run 3 (v := ?_) hU0 (by kernel_rfl) rfl (by kernel_rfl) (by kernel_rfl) (by kernel_rfl) (by kernel_rfl) (fun _ _ _ h => h) (Or.inl ⟨by rfl, ?_⟩) ?_ | fail
    rotate_left
    · first | (intro w _; go_simp; with_reducible rfl) | (intro w _; go_simp; done) | fail
    try simp only [Act.put, List.setIfInBounds_toArray, List.set_cons_zero, List.set_cons_succ]
    first | refine upto_two 1 4 rfl rfl (by kernel_rfl) (fun K hK => ?_) (fun K hK => ?_) | fail
    · go_simp
      first | refine hK.out _ _ ?_ (fun hU1 => ?_) | (go_wp2_with fail; refine hK.out _ _ ?_ (fun hU1 => ?_)) | fail
      · exact Or.inr trivial
      clear hK K
      clear hU0
      try simp only [Act.put, List.setIfInBounds_toArray, List.set_cons_zero, List.set_cons_succ]
      first | refine upto_two 2 4 rfl rfl (by kernel_rfl) (fun K hK => ?_) (fun K hK => ?_) | fail
      · go_simp
        go_at_call 8
        have hs6 := HS6.out
        refine (make_one (B := pm) (pm := pm) (l := w6.heap.size) (by omega) (by exact blk_alloc HM6.out _) (by exact blk_new w6 _) (Nat.le_refl _) (by omega)).mono ?_
        rintro r w8 ⟨rfl, β8, hM8, hb8, hk8⟩
        have hty8 := typs_one (wc := (w6.alloc (.cells lab80 4)).drew) (by exact blk_alloc HI6.out _) (by exact blk_alloc HQ6.out _) hk8 (by omega) (by omega) (by omega) (by omega)
        have hsz8 : ((w6.alloc (.cells lab80 4)).drew).heap.size ≤ w8.heap.size := hb8.size
        simp only [World.size_alloc, World.drew] at hsz8
        clear hs6
        try go_simp
        first | refine hK.out _ _ ?_ (fun hU2 => ?_) | (go_wp2_with fail; refine hK.out _ _ ?_ (fun hU2 => ?_)) | fail
        · exact Or.inr trivial
        clear hK K
        clear hU1
        try simp only [Act.put, List.setIfInBounds_toArray, List.set_cons_zero, List.set_cons_succ]
        first | refine upto_next 4 rfl (by kernel_rfl) (fun K hK => ?_) | fail
        go_simp
        first | refine hK.out _ _ ?_ (fun hU3 => ?_) | (go_wp2_with fail; refine hK.out _ _ ?_ (fun hU3 => ?_)) | fail
        · exact Or.inr trivial
        clear hK K
        clear hU2
        try simp only [Act.put, List.setIfInBounds_toArray, List.set_cons_zero, List.set_cons_succ]
        first | refine upto_next 5 rfl (by kernel_rfl) (fun K hK => ?_) | fail
        go_simp
        go_at_call 8
        have hs6 := HS6.out
        refine (make_two (B := pm) (pm := pm) (l := w8.heap.size) (β := β8) (by exact hM8.later (below_alloc _ (Below.refl _ _))) (by exact blk_new w8 _) (by omega) (by exact fun i d x hi => absurd (hM8.rel.lt i _ d x hi) (Nat.lt_irrefl _))).mono ?_
        rintro r w9 ⟨rfl, β9, hM9, hb9, hk9⟩
        have hty9 := typs_two (β8 := β8) (by exact hty8.later (below_alloc _ (Below.refl _ _))) hk9 (by omega) (by omega)
        clear hs6
        try go_simp
        first | refine hK.out _ _ ?_ (fun hU4 => ?_) | (go_wp2_with fail; refine hK.out _ _ ?_ (fun hU4 => ?_)) | fail
        · exact Or.inr trivial
        clear hK K
        clear hU3
        try simp only [Act.put, List.setIfInBounds_toArray, List.set_cons_zero, List.set_cons_succ]
        first | refine upto_run 6 (v := ?_) hU4 (by kernel_rfl) rfl (by kernel_rfl) (by kernel_rfl) (by kernel_rfl) (by kernel_rfl) (fun _ _ _ h => h) (Or.inl ⟨by rfl, ?_⟩) ?_ | fail
        rotate_left
        · first | (intro w _; go_simp; with_reducible rfl) | (intro w _; go_simp; done) | fail
        try simp only [Act.put, List.setIfInBounds_toArray, List.set_cons_zero, List.set_cons_succ]
        first | refine upto_next 7 rfl (by kernel_rfl) (fun K hK => ?_) | fail
        go_simp
        first | refine hK.out _ _ ?_ (fun hU5 => ?_) | (go_wp2_with fail; refine hK.out _ _ ?_ (fun hU5 => ?_)) | fail
        · exact Or.inl (by kernel_rfl)
        clear hK K
        clear hU4
        try simp only [Act.put, List.setIfInBounds_toArray, List.set_cons_zero, List.set_cons_succ]
        refine upto_done (by kernel_rfl) ?_ _
        go_wp2_with fail
        go_meet
        have hs6 := HS6.out
        have hwp := HWP.out
        exact ⟨rfl, rfl, β9, hM9, hty9, base_fin (show Below W.heap.size W ((w6.alloc (.cells lab80 4)).drew) from Below.drew (below_alloc _ HB6.out)) hb8 (below_alloc _ (Below.refl _ _)) hb9 HWP.out (by omega)⟩
      · go_simp
        first | refine hK.out _ _ ?_ (fun hU2 => ?_) | (go_wp2_with fail; refine hK.out _ _ ?_ (fun hU2 => ?_)) | fail
        · exact Or.inr trivial
        clear hK K
        clear hU1
        try simp only [Act.put, List.setIfInBounds_toArray, List.set_cons_zero, List.set_cons_succ]
        first | refine upto_next 2 rfl (by kernel_rfl) (fun K hK => ?_) | fail
        go_simp
        go_at_call 8
        have hs6 := HS6.out
        refine (make_one (B := pm) (pm := pm) (l := w6.heap.size) (by omega) (by exact blk_alloc (blk_alloc HM6.out _) _) (by exact blk_alloc (blk_new w6 _) _) (Nat.le_refl _) (by omega)).mono ?_
        rintro r w8 ⟨rfl, β8, hM8, hb8, hk8⟩
        have hty8 := typs_one (wc := ((w6.alloc (.cells lab80 4)).alloc (.cells lab80 4)).drew) (by exact blk_alloc (blk_alloc HI6.out _) _) (by exact blk_alloc (blk_alloc HQ6.out _) _) hk8 (by omega) (by omega) (by omega) (by omega)
        have hsz8 : (((w6.alloc (.cells lab80 4)).alloc (.cells lab80 4)).drew).heap.size ≤ w8.heap.size := hb8.size
        simp only [World.size_alloc, World.drew] at hsz8
        clear hs6
        try go_simp
        first | refine hK.out _ _ ?_ (fun hU3 => ?_) | (go_wp2_with fail; refine hK.out _ _ ?_ (fun hU3 => ?_)) | fail
        · exact Or.inr trivial
        clear hK K
        clear hU2
        try simp only [Act.put, List.setIfInBounds_toArray, List.set_cons_zero, List.set_cons_succ]
        first | refine upto_next 5 rfl (by kernel_rfl) (fun K hK => ?_) | fail
        go_simp
        go_at_call 8
        have hs6 := HS6.out
        refine (make_two (B := pm) (pm := pm) (l := w6.heap.size + 1) (β := β8) (by exact hM8) (by exact (hk8 (w6.heap.size + 1) (by simp [World.drew]) (by omega) (by omega)).2.trans (blk_new' (by simp))) (by omega) (by exact (hk8 (w6.heap.size + 1) (by simp [World.drew]) (by omega) (by omega)).1)).mono ?_
        rintro r w9 ⟨rfl, β9, hM9, hb9, hk9⟩
        have hty9 := typs_two (β8 := β8) (by exact hty8) hk9 (by omega) (by omega)
        clear hs6
        try go_simp
        first | refine hK.out _ _ ?_ (fun hU4 => ?_) | (go_wp2_with fail; refine hK.out _ _ ?_ (fun hU4 => ?_)) | fail
        · exact Or.inr trivial
        clear hK K
        clear hU3
        try simp only [Act.put, List.setIfInBounds_toArray, List.set_cons_zero, List.set_cons_succ]
        first | refine upto_run 6 (v := ?_) hU4 (by kernel_rfl) rfl (by kernel_rfl) (by kernel_rfl) (by kernel_rfl) (by kernel_rfl) (fun _ _ _ h => h) (Or.inl ⟨by rfl, ?_⟩) ?_ | fail
        rotate_left
        · first | (intro w _; go_simp; with_reducible rfl) | (intro w _; go_simp; done) | fail
        try simp only [Act.put, List.setIfInBounds_toArray, List.set_cons_zero, List.set_cons_succ]
        first | refine upto_next 7 rfl (by kernel_rfl) (fun K hK => ?_) | fail
        go_simp
        first | refine hK.out _ _ ?_ (fun hU5 => ?_) | (go_wp2_with fail; refine hK.out _ _ ?_ (fun hU5 => ?_)) | fail
        · exact Or.inl (by kernel_rfl)
        clear hK K
        clear hU4
        try simp only [Act.put, List.setIfInBounds_toArray, List.set_cons_zero, List.set_cons_succ]
        refine upto_done (by kernel_rfl) ?_ _
        go_wp2_with fail
        go_meet
        have hs6 := HS6.out
        have hwp := HWP.out
        exact ⟨rfl, rfl, β9, hM9, hty9, base_fin (show Below W.heap.size W (((w6.alloc (.cells lab80 4)).alloc (.cells lab80 4)).drew) from Below.drew (below_alloc _ (below_alloc _ HB6.out))) hb8 (Below.refl _ _) hb9 HWP.out (by omega)⟩
    · go_simp
      first | refine hK.out _ _ ?_ (fun hU1 => ?_) | (go_wp2_with fail; refine hK.out _ _ ?_ (fun hU1 => ?_)) | fail
      · exact Or.inr trivial
      clear hK K
      clear hU0
      try simp only [Act.put, List.setIfInBounds_toArray, List.set_cons_zero, List.set_cons_succ]
      first | refine upto_next 1 rfl (by kernel_rfl) (fun K hK => ?_) | fail
      go_simp
      first | refine hK.out _ _ ?_ (fun hU2 => ?_) | (go_wp2_with fail; refine hK.out _ _ ?_ (fun hU2 => ?_)) | fail
      · exact Or.inr trivial
      clear hK K
      clear hU1
      try simp only [Act.put, List.setIfInBounds_toArray, List.set_cons_zero, List.set_cons_succ]
      first | refine upto_next 2 rfl (by kernel_rfl) (fun K hK => ?_) | fail
      go_simp
      go_at_call 8
      have hs6 := HS6.out
      refine (make_one (B := pm) (pm := pm) (l := w6.heap.size + 1) (by omega) (by exact blk_alloc (blk_alloc HM6.out _) _) (by exact blk_new' (by simp)) (Nat.le_refl _) (by omega)).mono ?_
      rintro r w8 ⟨rfl, β8, hM8, hb8, hk8⟩
      have hty8 := typs_one (wc := ((w6.alloc (.cells lab80 4)).alloc (.cells lab80 4)).drew) (by exact blk_alloc (blk_alloc HI6.out _) _) (by exact blk_alloc (blk_alloc HQ6.out _) _) hk8 (by omega) (by omega) (by omega) (by omega)
      have hsz8 : (((w6.alloc (.cells lab80 4)).alloc (.cells lab80 4)).drew).heap.size ≤ w8.heap.size := hb8.size
      simp only [World.size_alloc, World.drew] at hsz8
      clear hs6
      try go_simp
      first | refine hK.out _ _ ?_ (fun hU3 => ?_) | (go_wp2_with fail; refine hK.out _ _ ?_ (fun hU3 => ?_)) | fail
      · exact Or.inr trivial
      clear hK K
      clear hU2
      try simp only [Act.put, List.setIfInBounds_toArray, List.set_cons_zero, List.set_cons_succ]
      first | refine upto_next 5 rfl (by kernel_rfl) (fun K hK => ?_) | fail
      go_simp
      go_at_call 8
      have hs6 := HS6.out
      refine (make_two (B := pm) (pm := pm) (l := w6.heap.size) (β := β8) (by exact hM8) (by exact (hk8 w6.heap.size (by simp [World.drew]; omega) (by omega) (by omega)).2.trans (blk_alloc (blk_new w6 _) _)) (by omega) (by exact (hk8 w6.heap.size (by simp [World.drew]; omega) (by omega) (by omega)).1)).mono ?_
      rintro r w9 ⟨rfl, β9, hM9, hb9, hk9⟩
      have hty9 := typs_two (β8 := β8) (by exact hty8) hk9 (by omega) (by omega)
      clear hs6
      try go_simp
      first | refine hK.out _ _ ?_ (fun hU4 => ?_) | (go_wp2_with fail; refine hK.out _ _ ?_ (fun hU4 => ?_)) | fail
      · exact Or.inr trivial
      clear hK K
      clear hU3
      try simp only [Act.put, List.setIfInBounds_toArray, List.set_cons_zero, List.set_cons_succ]
      first | refine upto_run 6 (v := ?_) hU4 (by kernel_rfl) rfl (by kernel_rfl) (by kernel_rfl) (by kernel_rfl) (by kernel_rfl) (fun _ _ _ h => h) (Or.inl ⟨by rfl, ?_⟩) ?_ | fail
      rotate_left
      · first | (intro w _; go_simp; with_reducible rfl) | (intro w _; go_simp; done) | fail
      try simp only [Act.put, List.setIfInBounds_toArray, List.set_cons_zero, List.set_cons_succ]
      first | refine upto_next 7 rfl (by kernel_rfl) (fun K hK => ?_) | fail
      go_simp
      first | refine hK.out _ _ ?_ (fun hU5 => ?_) | (go_wp2_with fail; refine hK.out _ _ ?_ (fun hU5 => ?_)) | fail
      · exact Or.inl (by kernel_rfl)
      clear hK K
      clear hU4
      try simp only [Act.put, List.setIfInBounds_toArray, List.set_cons_zero, List.set_cons_succ]
      refine upto_done (by kernel_rfl) ?_ _
      go_wp2_with fail
      go_meet
      have hs6 := HS6.out
      have hwp := HWP.out
      exact ⟨rfl, rfl, β9, hM9, hty9, base_fin (show Below W.heap.size W (((w6.alloc (.cells lab80 4)).alloc (.cells lab80 4)).drew) from Below.drew (below_alloc _ (below_alloc _ HB6.out))) hb8 (Below.refl _ _) hb9 HWP.out (by omega)⟩
    -- END6
  case rest =>
    obtain ⟨rfl, rfl, β, hM, hT, hB⟩ := hcut
    rename World => wx
    have HM := Lib.hid hM
    have HT := Lib.hid hT
    have HBx := Lib.hid hB
    have HN4 := Lib.hid hn4
    have HNL := Lib.hid hnl
    clear hM hT hB HB5 HM5 HB6 HM6 HI6 HQ6 HS6 HZ HZ1 HPM HB1 hmk
    go_upto_if 37 with (fail)
    clear hn4
    go_cut [] (fun wv => ∃ kk : Nat, kk < 2 ∧ wv.heap[wx.heap.size]? = some (.cells #[.int .i64 1, .int .i64 (kk : Nat), .int .i64 40] 35 (0, 0)) ∧ MR zR β pm pm wv ∧ Typs β bI (bI + 1) ⟨b4, 0, none⟩ wv ∧ Out β wx.heap.size ∧ Below W.heap.size W wv)
    case first =>
      have HO := Lib.hid (HM.out.out (Nat.le_refl _))
      have HBa := fun (o : Obj) => below_alloc o (Below.refl wx.heap.size wx)
      cases same with
      | false =>
        go_wp2_with fail
        go_meet
        exact ⟨1, by decide, blk_new wx _, HM.out.later (HBa _), HT.out.later (HBa _), HO.out, HBx.out.bt (HBa _)⟩
      | true =>
        go_wp2_with fail
        go_meet
        exact ⟨0, by decide, blk_new wx _, HM.out.later (HBa _), HT.out.later (HBa _), HO.out, HBx.out.bt (HBa _)⟩
    case rest =>
      obtain ⟨kk, hkk, hK, hM, hT, hO, hB⟩ := hcut
      rename World => wv
      have HKK := Lib.hid hkk
      have HK := Lib.hid hK
      have HM2 := Lib.hid hM
      have HT2 := Lib.hid hT
      have HO2 := Lib.hid hO
      have HB2 := Lib.hid hB
      clear hkk hK hM hT hO hB
      generalize wx.heap.size = bp at *
      go_wp2_with fail
      go_loopw [41] (fun i wr => ∃ (j : Nat) (ρ : Int → Int) (β' : Place), j ≤ n ∧ i = .int .i64 j ∧ MR ρ β' pm pm wr ∧ Typs β' bI (bI + 1) ⟨b4, 0, none⟩ wr ∧ Out β' bp ∧ wr.heap[bp]? = some (.cells #[.int .i64 1, .int .i64 (kk : Nat), .int .i64 40] 35 (0, 0)) ∧ (∀ i', i' < j → WordIs ρ 0 i' (cls (xf i'))) ∧ (∀ i', j ≤ i' → i' < 10 → WordIs ρ 0 i' .no) ∧ Below W.heap.size W wr) (fun i _ => n - (intOf i).toNat)
      case atStart => exact ⟨0, zR, β, by omega, rfl, HM2.out, HT2.out, HO2.out, HK.out, fun i' h => by omega, fun i' _ _ => zero_words 0 i', HB2.out⟩
      case round =>
        obtain ⟨j, ρ, β', hj, rfl, hM, hT, hO, hK, hW1, hW2, hB⟩ := hrel
        rename World => wo
        have HMr := Lib.hid hM
        have HTr := Lib.hid hT
        have HOr := Lib.hid hO
        have HKr := Lib.hid hK
        have HW1 := Lib.hid hW1
        have HW2 := Lib.hid hW2
        have HBr := Lib.hid hB
        clear hM hT hO hK hW1 hW2 hB
        by_cases hlt : j < n
        · obtain ⟨b0, o0, rfl, hc, hin⟩ := HX.out j (by have := HNL.out; omega) wo HBr.out
          have HLT := Lib.hid hlt
          have hjl : (j : Int) < (n1 : Int) := by have := HNL.out; omega
          obtain ⟨x, hxx⟩ : ∃ x, x = xf j := ⟨_, rfl⟩
          rw [← hxx] at hc hin
          have HXX := Lib.hid hxx
          have HIN := Lib.hid hin
          have hblk := World.block_lt_of_cell? _ _ hc
          obtain ⟨r, hr⟩ : ∃ r, bits .and .i64 x 3 = r := ⟨_, rfl⟩
          have HR := Lib.hid hr
          have hn4 := HN4.out
          clear hxx hin
          obtain ⟨w3, hw3⟩ : ∃ w3, w3 = wo.alloc (.cells #[.int .i64 1, .int .i64 0, .int .i64 (8 * (j : Int))] 35) := ⟨_, rfl⟩
          have hb3 : Below wo.heap.size wo w3 := by rw [hw3]; exact below_alloc _ (Below.refl _ _)
          have HP3 := Lib.hid (show w3.heap[wo.heap.size]? = some (.cells #[.int .i64 1, .int .i64 0, .int .i64 (8 * (j : Int))] 35 (0, 0)) by rw [hw3]; exact blk_new _ _)
          have HM3 := Lib.hid (HMr.out.later hb3)
          have HT3 := Lib.hid (HTr.out.later hb3)
          have HK3 := Lib.hid (blk_below HKr.out hb3)
          have HB3 := Lib.hid (HBr.out.bt hb3)
          have hc3 := (hb3.cell hblk).trans hc
          have hblk3 := World.block_lt_of_cell? _ _ hc3
          have HC3 := Lib.hid hc3
          clear hb3
          by_cases h0 : r = 0
          · have e0 : (r == 0) = true := by simpa using h0
            go_wp2_with fail
            rw [← hw3]
            have hlt := HLT.out
            have hcl : cls (xf j) = .no := by unfold cls; rw [← HXX.out, HR.out, if_pos h0]
            go_roundw
            case rel => exact ⟨j + 1, ρ, β', by omega, by go_num, HM3.out, HT3.out, HOr.out, HK3.out, fun i' hi' => by
              by_cases e : i' = j
              · subst e; rw [hcl]; exact HW2.out _ (Nat.le_refl _) (by omega)
              · exact HW1.out i' (by omega), fun i' h1 h2 => HW2.out i' (by omega) h2, HB3.out⟩
            case measure => simp [intOf]; omega
          · have e0 : (r == 0) = false := by simpa using h0
            by_cases h1 : r = 1
            · have e1 : (r == 1) = true := by simpa using h1
              go_upto_region 18 with (fail)
              rw [← hw3]
              have p0 := blk_cell (i := 0) HP3.out rfl
              have p1 := blk_cell (i := 1) HP3.out rfl
              have p2 := blk_cell (i := 2) HP3.out rfl
              have pl := blk_lt HP3.out
              have t0 := blk_cell (i := 0) HT3.out.q1 rfl
              have t1 := blk_cell (i := 1) HT3.out.q1 rfl
              have t2 := blk_cell (i := 2) HT3.out.q1 rfl
              have t3 := blk_cell (i := 3) HT3.out.q1 rfl
              have t4 := blk_cell (i := 4) HT3.out.q1 rfl
              have t5 := blk_cell (i := 5) HT3.out.q1 rfl
              have t6 := blk_cell (i := 6) HT3.out.q1 rfl
              have t7 := blk_cell (i := 7) HT3.out.q1 rfl
              have t8 := blk_cell (i := 8) HT3.out.q1 rfl
              have tl := blk_lt HT3.out.q1
              clear hc hblk hr hw3
              refine wp_region_over_tail 11 (by kernel_rfl) (by kernel_rfl) ?_
              simp only [List.take_succ_cons, List.take_zero, List.drop_succ_cons, List.drop_zero]
              repeat (go_big_quiet_step (fail))
              refine wpQuiet_nil ?_
              intro w5 kb5
              have HM5 := Lib.hid (HM3.out.later kb5)
              have HT5 := Lib.hid (HT3.out.later kb5)
              have HK5 := Lib.hid (blk_below HK3.out kb5)
              have HB5 := Lib.hid (HB3.out.bt kb5)
              have hst := store_ptr HM5.out j (by omega) (bits .and .i64 x 63) ⟨b4, 0, none⟩
              have hp : pat 0 (8 * j) = .agg #[.int .i64 1, .int .i64 0, .int .i64 (8 * (j : Int))] := by simp [pat]
              rw [hp] at hst
              unfold tyQ' at hst
              have HST := Lib.hid hst
              clear kb5 p0 p1 p2 pl t0 t1 t2 t3 t4 t5 t6 t7 t8 tl hst hp hc3 hblk3
              go_wp2_with fail
              refine HST.out.mono ?_
              rintro e w8 ⟨rfl, ρ8, β8, hM8, ⟨hb8, hk8⟩, hw8, hv8⟩
              have hcl : cls (xf j) = .ptr (bits .and .i64 x 63) := by unfold cls; rw [← HXX.out, HR.out, if_neg h0, if_pos h1]
              have HM8 := Lib.hid hM8
              have HT8 := Lib.hid (HT5.out.keep hk8)
              obtain ⟨ho8, hK8⟩ := hk8.blk HOr.out HK5.out
              have HO8 := Lib.hid ho8
              have HK8 := Lib.hid hK8
              have HB8 := Lib.hid (HB5.out.trans (hb8.mono HWP.out))
              have HW8 := Lib.hid hw8
              have HV8 := Lib.hid hv8
              clear hM8 hb8 hk8 hw8 hv8 ho8 hK8
              go_wp2_with fail
              have hlt := HLT.out
              go_roundw
              case rel => exact ⟨j + 1, ρ8, β8, by omega, by go_num, HM8.out, HT8.out, HO8.out, HK8.out, fun i' hi' => by
                by_cases e : i' = j
                · subst e; rw [hcl]; exact HW8.out
                · exact HV8.out 0 i' _ (by decide) (by omega) (Or.inr e) (HW1.out i' (by omega)), fun i' h1 h2 => HV8.out 0 i' _ (by decide) h2 (Or.inr (by omega)) (HW2.out i' (by omega) h2), HB8.out⟩
              case measure => simp [intOf]; omega
            · have e1 : (r == 1) = false := by simpa using h1
              go_upto_region 15 with (fail)
              rw [← hw3]
              have p0 := blk_cell (i := 0) HP3.out rfl
              have p1 := blk_cell (i := 1) HP3.out rfl
              have p2 := blk_cell (i := 2) HP3.out rfl
              have pl := blk_lt HP3.out
              have t0 := blk_cell (i := 0) HT3.out.i1 rfl
              have t1 := blk_cell (i := 1) HT3.out.i1 rfl
              have t2 := blk_cell (i := 2) HT3.out.i1 rfl
              have t3 := blk_cell (i := 3) HT3.out.i1 rfl
              have t4 := blk_cell (i := 4) HT3.out.i1 rfl
              have t5 := blk_cell (i := 5) HT3.out.i1 rfl
              have t6 := blk_cell (i := 6) HT3.out.i1 rfl
              have t7 := blk_cell (i := 7) HT3.out.i1 rfl
              have t8 := blk_cell (i := 8) HT3.out.i1 rfl
              have tl := blk_lt HT3.out.i1
              clear hc hblk hr hw3
              refine wp_region_over_tail 8 (by kernel_rfl) (by kernel_rfl) ?_
              simp only [List.take_succ_cons, List.take_zero, List.drop_succ_cons, List.drop_zero]
              repeat (go_big_quiet_step (fail))
              refine wpQuiet_nil ?_
              intro w5 kb5
              have HM5 := Lib.hid (HM3.out.later kb5)
              have HT5 := Lib.hid (HT3.out.later kb5)
              have HK5 := Lib.hid (blk_below HK3.out kb5)
              have HB5 := Lib.hid (HB3.out.bt kb5)
              have hst := store_num HM5.out j (by omega) x
              have hp : pat 0 (8 * j) = .agg #[.int .i64 1, .int .i64 0, .int .i64 (8 * (j : Int))] := by simp [pat]
              rw [hp] at hst
              unfold tyI at hst
              have HST := Lib.hid hst
              clear kb5 p0 p1 p2 pl t0 t1 t2 t3 t4 t5 t6 t7 t8 tl hst hp hc3 hblk3
              go_wp2_with fail
              refine HST.out.mono ?_
              rintro e w8 ⟨rfl, ρ8, β8, hM8, ⟨hb8, hk8⟩, hw8, hv8⟩
              have hcl : cls (xf j) = .num x := by unfold cls; rw [← HXX.out, HR.out, if_neg h0, if_neg h1]
              have HM8 := Lib.hid hM8
              have HT8 := Lib.hid (HT5.out.keep hk8)
              obtain ⟨ho8, hK8⟩ := hk8.blk HOr.out HK5.out
              have HO8 := Lib.hid ho8
              have HK8 := Lib.hid hK8
              have HB8 := Lib.hid (HB5.out.trans (hb8.mono HWP.out))
              have HW8 := Lib.hid hw8
              have HV8 := Lib.hid hv8
              clear hM8 hb8 hk8 hw8 hv8 ho8 hK8
              go_wp2_with fail
              have hlt := HLT.out
              go_roundw
              case rel => exact ⟨j + 1, ρ8, β8, by omega, by go_num, HM8.out, HT8.out, HO8.out, HK8.out, fun i' hi' => by
                by_cases e : i' = j
                · subst e; rw [hcl]; exact HW8.out
                · exact HV8.out 0 i' _ (by decide) (by omega) (Or.inr e) (HW1.out i' (by omega)), fun i' h1 h2 => HV8.out 0 i' _ (by decide) h2 (Or.inr (by omega)) (HW2.out i' (by omega) h2), HB8.out⟩
              case measure => simp [intOf]; omega
        · have e : j = n := by omega
          subst e
          have c0 := blk_cell (i := 0) HKr.out rfl
          have c1 := blk_cell (i := 1) HKr.out rfl
          have c2 := blk_cell (i := 2) HKr.out rfl
          have cl := blk_lt HKr.out
          have hcp := copy_ok HMr.out kk HKK.out
          have hq1 : pat kk 40 = .agg #[.int .i64 1, .int .i64 (kk : Nat), .int .i64 40] := by simp [pat]
          have hq2 : pat 0 0 = .agg #[.int .i64 1, .int .i64 0, .int .i64 0] := by simp [pat]
          rw [hq1, hq2] at hcp
          have HCP := Lib.hid hcp
          clear hcp hq1 hq2
          go_wp2_with fail
          refine HCP.out.mono ?_
          rintro e w8 ⟨rfl, ρ8, β8, hM8, ⟨hb8, hk8⟩, hw8⟩
          have HM8 := Lib.hid hM8
          have HT8 := Lib.hid (HTr.out.keep hk8)
          obtain ⟨ho8, hK8⟩ := hk8.blk HOr.out HKr.out
          have HO8 := Lib.hid ho8
          have HK8 := Lib.hid hK8
          have HB8 := Lib.hid (HBr.out.trans (hb8.mono HWP.out))
          have HW8 := Lib.hid (show ∀ i', i' < j → WordIs ρ8 kk (5 + i') (cls (xf i')) from fun i' hi' => hw8 i' _ (by have := HN4.out; omega) (HW1.out i' hi'))
          clear hM8 hb8 hk8 hw8 ho8 hK8 c0 c1 c2 cl
          generalize j = n at *
          go_wp2_with fail
          go_loopw [86] (fun i wr => ∃ (j : Nat) (ρ : Int → Int) (β' : Place), j ≤ n ∧ i = .int .i64 j ∧ MR ρ β' pm pm wr ∧ Typs β' bI (bI + 1) ⟨b4, 0, none⟩ wr ∧ Out β' bp ∧ wr.heap[bp]? = some (.cells #[.int .i64 1, .int .i64 (kk : Nat), .int .i64 40] 35 (0, 0)) ∧ (∀ i', i' < n → WordIs ρ kk (5 + i') (cls (xf i'))) ∧ Below W.heap.size W wr) (fun i _ => n - (intOf i).toNat)
          case atStart => exact ⟨0, ρ8, β8, by omega, rfl, HM8.out, HT8.out, HO8.out, HK8.out, HW8.out, HB8.out⟩
          case round =>
            obtain ⟨j, ρ, β', hj, rfl, hM, hT, hO, hK, hW1, hB⟩ := hrel
            rename World => wq
            have HMq := Lib.hid hM
            have HTq := Lib.hid hT
            have HOq := Lib.hid hO
            have HKq := Lib.hid hK
            have HWq := Lib.hid hW1
            have HBq := Lib.hid hB
            have c0 := blk_cell (i := 0) hK rfl
            have c1 := blk_cell (i := 1) hK rfl
            have c2 := blk_cell (i := 2) hK rfl
            have cl := blk_lt hK
            clear hM hT hO hK hW1 hB
            by_cases hlt : j < n
            · have HLT := Lib.hid hlt
              have hn4 := HN4.out
              obtain ⟨b0, o0, rfl, hcW, hin⟩ := HX.out j (by have := HNL.out; omega) W (Below.refl _ _)
              have hblkW := World.block_lt_of_cell? _ _ hcW
              have HCW := Lib.hid hcW
              have HBW := Lib.hid hblkW
              have hjl : (j : Int) < (n1 : Int) := by have := HNL.out; omega
              obtain ⟨x, hxx⟩ : ∃ x, x = xf j := ⟨_, rfl⟩
              rw [← hxx] at HCW hin
              obtain ⟨X, a, b, c, o1, pp, o2, HLD, F0, F1, F2⟩ := load_two x hin
              have HLD := Lib.hid HLD
              have HF0 := Lib.hid F0
              have HF1 := Lib.hid F1
              have HF2 := Lib.hid F2
              have HWj := Lib.hid (show WordIs ρ kk (5 + j) (cls x) by rw [hxx]; exact HWq.out j hlt)
              have hpat : pat kk (8 * (5 + j)) = .agg #[.int .i64 1, .int .i64 (kk : Nat), .int .i64 (40 + 8 * (j : Int))] := by simp [pat]; omega
              have HPAT := Lib.hid hpat
              have HXX := Lib.hid hxx
              clear hcW hblkW hin hxx F0 F1 F2 hpat
              go_upto_region 27 with (fail)
              clear c0 c1 c2 cl
              obtain ⟨w3, hw3⟩ : ∃ w3, w3 = wq.alloc (.cells #[.int .i64 1, .int .i64 (kk : Nat), .int .i64 (40 + 8 * (j : Int))] 35) := ⟨_, rfl⟩
              have hb3 : Below wq.heap.size wq w3 := by rw [hw3]; exact below_alloc _ (Below.refl _ _)
              have HP3 := Lib.hid (show w3.heap[wq.heap.size]? = some (.cells #[.int .i64 1, .int .i64 (kk : Nat), .int .i64 (40 + 8 * (j : Int))] 35 (0, 0)) by rw [hw3]; exact blk_new _ _)
              have HOP := Lib.hid (HMq.out.out (Nat.le_refl _))
              have HM3 := Lib.hid (HMq.out.later hb3)
              have HT3 := Lib.hid (HTq.out.later hb3)
              have HK3 := Lib.hid (blk_below HKq.out hb3)
              have HB3 := Lib.hid (HBq.out.bt hb3)
              rw [← hw3]
              clear hb3 hw3
              generalize wq.heap.size = b15 at *
              have hld := (HLD.out ρ β' pm pm w3 kk j ⟨b4, 0, none⟩ HM3.out HKK.out (by omega) HWj.out).1
              rw [HPAT.out] at hld
              unfold tyI at hld
              have HL1 := Lib.hid hld
              clear hld
              have p0 := blk_cell (i := 0) HP3.out rfl
              have p1 := blk_cell (i := 1) HP3.out rfl
              have p2 := blk_cell (i := 2) HP3.out rfl
              have pl := blk_lt HP3.out
              have t0 := blk_cell (i := 0) HT3.out.i1 rfl
              have t1 := blk_cell (i := 1) HT3.out.i1 rfl
              have t2 := blk_cell (i := 2) HT3.out.i1 rfl
              have t3 := blk_cell (i := 3) HT3.out.i1 rfl
              have t4 := blk_cell (i := 4) HT3.out.i1 rfl
              have t5 := blk_cell (i := 5) HT3.out.i1 rfl
              have t6 := blk_cell (i := 6) HT3.out.i1 rfl
              have t7 := blk_cell (i := 7) HT3.out.i1 rfl
              have t8 := blk_cell (i := 8) HT3.out.i1 rfl
              have tl := blk_lt HT3.out.i1
              go_wp2_with fail
              refine HL1.out.mono ?_
              rintro e w4 ⟨rfl, ρ4, β4, hM4, ⟨hb4, hk4⟩, hw4⟩
              unfold resL
              clear p0 p1 p2 pl t0 t1 t2 t3 t4 t5 t6 t7 t8 tl
              obtain ⟨w5, hw5⟩ : ∃ w5, w5 = w4.alloc (.cells #[.int .i64 X, .int .i64 0, .int .i64 0, .int .i64 0, .bool false] 38) := ⟨_, rfl⟩
              have hb5 : Below w4.heap.size w4 w5 := by rw [hw5]; exact below_alloc _ (Below.refl _ _)
              have HV5 := Lib.hid (show w5.heap[w4.heap.size]? = some (.cells #[.int .i64 X, .int .i64 0, .int .i64 0, .int .i64 0, .bool false] 38 (0, 0)) by rw [hw5]; exact blk_new _ _)
              have HOV := Lib.hid (hM4.out (Nat.le_refl _))
              have HM5 := Lib.hid (hM4.later hb5)
              have HT5 := Lib.hid ((HT3.out.keep hk4).later hb5)
              obtain ⟨hop4, hP4⟩ := hk4.blk HOP.out HP3.out
              obtain ⟨ho4, hK4⟩ := hk4.blk HOq.out HK3.out
              have HOP4 := Lib.hid hop4
              have HP5 := Lib.hid (blk_below hP4 hb5)
              have HO4 := Lib.hid ho4
              have HK5 := Lib.hid (blk_below hK4 hb5)
              have HB5 := Lib.hid ((HB3.out.trans (hb4.mono HWP.out)).bt hb5)
              have HW4 := Lib.hid (show ∀ i', i' < n → WordIs ρ4 kk (5 + i') (cls (xf i')) from fun i' hi' => hw4 kk (5 + i') _ HKK.out (by have := HN4.out; omega) (HWq.out i' hi'))
              have HWj4 := Lib.hid (hw4 kk (5 + j) _ HKK.out (by omega) HWj.out)
              clear hM4 hb4 hk4 hw4 hb5 hop4 hP4 ho4 hK4
              go_upto_region 28 with (fail)
              rw [← hw5]
              clear hw5
              generalize w4.heap.size = b16 at *
              have hld := (HLD.out ρ4 β4 pm pm w5 kk j ⟨b4, 0, none⟩ HM5.out HKK.out (by omega) HWj4.out).2
              rw [HPAT.out] at hld
              unfold tyQ' at hld
              have HL2 := Lib.hid hld
              clear hld
              have p0 := blk_cell (i := 0) HP5.out rfl
              have p1 := blk_cell (i := 1) HP5.out rfl
              have p2 := blk_cell (i := 2) HP5.out rfl
              have pl := blk_lt HP5.out
              have t0 := blk_cell (i := 0) HT5.out.q1 rfl
              have t1 := blk_cell (i := 1) HT5.out.q1 rfl
              have t2 := blk_cell (i := 2) HT5.out.q1 rfl
              have t3 := blk_cell (i := 3) HT5.out.q1 rfl
              have t4 := blk_cell (i := 4) HT5.out.q1 rfl
              have t5 := blk_cell (i := 5) HT5.out.q1 rfl
              have t6 := blk_cell (i := 6) HT5.out.q1 rfl
              have t7 := blk_cell (i := 7) HT5.out.q1 rfl
              have t8 := blk_cell (i := 8) HT5.out.q1 rfl
              have tl := blk_lt HT5.out.q1
              go_wp2_with fail
              refine HL2.out.mono ?_
              rintro e w6 ⟨rfl, ρ6, β6, hM6, ⟨hb6, hk6⟩, hw6⟩
              unfold resL
              clear p0 p1 p2 pl t0 t1 t2 t3 t4 t5 t6 t7 t8 tl
              obtain ⟨w7, hw7⟩ : ∃ w7, w7 = w6.alloc (.cells #[.int .i64 0, .int .i64 a, .int .i64 b, .int .i64 c, .bool pp] 38) := ⟨_, rfl⟩
              have hb7 : Below w6.heap.size w6 w7 := by rw [hw7]; exact below_alloc _ (Below.refl _ _)
              have HQ7 := Lib.hid (show w7.heap[w6.heap.size]? = some (.cells #[.int .i64 0, .int .i64 a, .int .i64 b, .int .i64 c, .bool pp] 38 (0, 0)) by rw [hw7]; exact blk_new _ _)
              have HM7 := Lib.hid (hM6.later hb7)
              have HT7 := Lib.hid ((HT5.out.keep hk6).later hb7)
              obtain ⟨hov6, hV6⟩ := hk6.blk HOV.out HV5.out
              obtain ⟨ho6, hK6⟩ := hk6.blk HO4.out HK5.out
              have HV7 := Lib.hid (blk_below hV6 hb7)
              have HO7 := Lib.hid ho6
              have HK7 := Lib.hid (blk_below hK6 hb7)
              have HB6 := Lib.hid (HB5.out.trans (hb6.mono HWP.out))
              have HB7 := Lib.hid (HB6.out.bt hb7)
              have HW7 := Lib.hid (show ∀ i', i' < n → WordIs ρ6 kk (5 + i') (cls (xf i')) from fun i' hi' => hw6 kk (5 + i') _ HKK.out (by have := HN4.out; omega) (HW4.out i' hi'))
              have hc6 := (HB6.out.cell HBW.out).trans HCW.out
              have hblk6 := World.block_lt_of_cell? _ _ hc6
              have hc7 := (hb7.cell hblk6).trans hc6
              have hblk7 := World.block_lt_of_cell? _ _ hc7
              clear hM6 hb6 hk6 hw6 hb7 hov6 hV6 ho6 hK6
              have HREL := Lib.hid (show ∀ w8, Below w7.heap.size w7 w8 → ∃ (j_1 : Nat) (ρ : Int → Int) (β' : Place), j_1 ≤ n ∧ Value.int .i64 ((j : Int) + 1) = .int .i64 j_1 ∧ MR ρ β' pm pm w8 ∧ Typs β' bI (bI + 1) ⟨b4, 0, none⟩ w8 ∧ Out β' bp ∧ w8.heap[bp]? = some (.cells #[.int .i64 1, .int .i64 (kk : Nat), .int .i64 40] 35 (0, 0)) ∧ (∀ i', i' < n → WordIs ρ kk (5 + i') (cls (xf i'))) ∧ Below W.heap.size W w8 from
                fun w8 hb => ⟨j + 1, ρ6, β6, by have := HLT.out; omega, by go_num, HM7.out.later hb, HT7.out.later hb, HO7.out, blk_below HK7.out hb, HW7.out, HB7.out.bt hb⟩)
              obtain ⟨r, hr⟩ : ∃ r, bits .and .i64 x 3 = r := ⟨_, rfl⟩
              have HR := Lib.hid hr
              by_cases h0 : r = 0
              · obtain ⟨rfl, rfl⟩ := HF0.out (HR.out.trans h0)
                have e0 : (r == 0) = true := by simpa using h0
                go_wp2_with fail
                rw [← hw7]
                have hlt := HLT.out
                exact ⟨HREL.out w7 (Below.refl _ _), by simp [intOf]; omega⟩
              · have e0 : (r == 0) = false := by simpa using h0
                by_cases h1 : r = 1
                · obtain ⟨rfl, rfl, rfl, rfl, rfl⟩ := HF1.out (HR.out.trans h1)
                  have e1 : (r == 1) = true := by simpa using h1
                  go_upto_region 36 with (fail)
                  rw [← hw7]
                  clear hw7
                  have v0 := blk_cell (i := 0) HQ7.out rfl
                  have v1 := blk_cell (i := 1) HQ7.out rfl
                  have v2 := blk_cell (i := 2) HQ7.out rfl
                  have v3 := blk_cell (i := 3) HQ7.out rfl
                  have v4 := blk_cell (i := 4) HQ7.out rfl
                  have vl := blk_lt HQ7.out
                  refine wp_region_over (by kernel_rfl) (by kernel_rfl) ?_
                  repeat (go_big_quiet_step (fail))
                  refine wpQuiet_nil ?_
                  intro w8 kb8
                  have HB8 := Lib.hid kb8
                  clear kb8
                  go_wp2_with fail
                  have hlt := HLT.out
                  exact ⟨HREL.out w8 HB8.out, by simp [intOf]; omega⟩
                · obtain ⟨rfl, rfl, rfl⟩ := HF2.out (by rw [HR.out]; exact h0) (by rw [HR.out]; exact h1)
                  have e1 : (r == 1) = false := by simpa using h1
                  go_upto_region 30 with (fail)
                  rw [← hw7]
                  clear hw7
                  have v0 := blk_cell (i := 0) HV7.out rfl
                  have v1 := blk_cell (i := 1) HV7.out rfl
                  have v2 := blk_cell (i := 2) HV7.out rfl
                  have v3 := blk_cell (i := 3) HV7.out rfl
                  have v4 := blk_cell (i := 4) HV7.out rfl
                  have vl := blk_lt HV7.out
                  refine wp_region_over (by kernel_rfl) (by kernel_rfl) ?_
                  repeat (go_big_quiet_step (fail))
                  refine wpQuiet_nil ?_
                  intro w8 kb8
                  have HB8 := Lib.hid kb8
                  clear kb8
                  go_wp2_with fail
                  have hlt := HLT.out
                  exact ⟨HREL.out w8 HB8.out, by simp [intOf]; omega⟩
            · have e : j = n := by omega
              subst e
              have hq1 : pat kk 40 = .agg #[.int .i64 1, .int .i64 (kk : Nat), .int .i64 40] := by simp [pat]
              have hq2 : pat 0 0 = .agg #[.int .i64 1, .int .i64 0, .int .i64 0] := by simp [pat]
              have hq3 : pat 0 1 = .agg #[.int .i64 1, .int .i64 0, .int .i64 1] := by simp [pat]
              have h41 := (copy_no HMq.out kk HKK.out).1
              rw [hq1, hq2] at h41
              have H41 := Lib.hid h41
              have HQ1 := Lib.hid hq1
              have HQ3 := Lib.hid hq3
              clear h41 hq1 hq2 hq3
              go_wp2_with fail
              refine H41.out.mono ?_
              rintro e w8 ⟨rfl, ρ8, β8, hM8, hb8, hk8⟩
              obtain ⟨_, hK8⟩ := hk8.blk HOq.out HKq.out
              have h48 := (copy_no hM8 kk HKK.out).2
              rw [HQ1.out, HQ3.out] at h48
              have H48 := Lib.hid h48
              have HB8 := Lib.hid (HBq.out.trans (hb8.mono HWP.out))
              clear c0 c1 c2 cl h48 hM8 hb8 hk8
              have c0 := blk_cell (i := 0) hK8 rfl
              have c1 := blk_cell (i := 1) hK8 rfl
              have c2 := blk_cell (i := 2) hK8 rfl
              have cl := blk_lt hK8
              clear hK8
              go_wp2_with fail
              refine H48.out.mono ?_
              rintro e w9 ⟨rfl, ρ9, β9, hM9, hb9, hk9⟩
              have HB9 := Lib.hid (HB8.out.trans (hb9.mono HWP.out))
              clear hM9 hb9 hk9 c0 c1 c2 cl
              go_wp2_with fail
              go_returns
              exact ⟨rfl, HB9.out⟩
end Go.Proofs.Ytcjfkbohgnopfaa
