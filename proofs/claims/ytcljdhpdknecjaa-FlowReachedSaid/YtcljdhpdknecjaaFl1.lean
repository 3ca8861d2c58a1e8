/- Walks: a function's blocks that are reached. No condition. -/
import Derived.Test.YtcljdhpdknecjaaSet
import Derived.Test.YtcljdhpdknecjaaFs
import Derived.Test.YtcljdhpdknecjaaRv
import Derived.Test.YtcljdhpdknecjaaFlP
import Derived.Test.YtcljdhpdknecjaaOw
import Derived.Deep.LoopGhost
namespace Go.Proofs.Ytcljdhpdknecjaa
open Go.RowKit
set_option linter.unusedVariables false
set_option maxHeartbeats 1000000
def iv (l : List Int) : List Value := l.map (Value.int .i64)
/-- a slice's value owns these numbers -/
def OwnI (w : World) (base : Nat) (v : Value) (l : List Int) : Prop := w.ownsRow base 3 1 v l.length (iv l)
theorem OwnI.cell {w : World} {base g n cap j : Nat} {l : List Int} (h : OwnI w base (.slice (some ⟨g, 0, none⟩) n cap) l) (hj : j < l.length) (x : Int) (hx : l[j]? = some x) : w.cell? ⟨g, j, none⟩ = some (.int .i64 x) := by
  have hn : n = l.length := by
    rcases h.2 with ⟨e, _⟩ | ⟨_, _, _, e, _⟩
    · cases e
    · cases e; rfl
  subst hn
  exact (World.ownsRow.cellAt h j (by omega)).trans (by simp [iv, hx])
theorem own_snoc {w : World} {base : Nat} {v : Value} {l : List Int} {x : Int} (h : OwnI w base v (l ++ [x])) :
    ∃ g cap, v = .slice (some ⟨g, 0, none⟩) (l.length + 1) cap ∧ l.length + 1 ≤ cap ∧ cap ≤ maxLen ∧ g < w.heap.size ∧ w.cell? ⟨g, l.length, none⟩ = some (.int .i64 x) ∧ OwnI w base (.slice (some ⟨g, 0, none⟩) l.length cap) l := by
  have h0 := h
  unfold OwnI at h0
  rw [show (l ++ [x]).length = l.length + 1 by simp] at h0
  obtain ⟨g, cap, rfl, h1, h2, h3, h4⟩ := own_form h0 (by omega)
  have ht := own_take h0 (m := l.length) (by omega)
  rw [show (iv (l ++ [x])).take l.length = iv l by simp [iv]] at ht
  exact ⟨g, cap, rfl, h1, h2, h4, h.cell (by simp) x (by simp), ht⟩
theorem var_set {w : World} {bw : Nat} {wv v : Value} {T : TypeId} (hb : w.heap[bw]? = some (.cells #[wv] T (0, 0))) (m : Nat) :
    ((w.drewN m).setCell ⟨bw, 0, none⟩ v).heap[bw]? = some (.cells #[v] T (0, 0)) ∧ w.grownBy ((w.drewN m).setCell ⟨bw, 0, none⟩ v) (some bw) := by
  have h : (w.drewN m).heap[bw]? = some (.cells #[wv] T (0, 0)) := hb
  refine ⟨by rw [blk_setCell h v]; rfl, rfl, rfl, rfl, by simp [World.setCell, World.drewN], fun k hk hne => ?_⟩
  exact Below.heap_setCell (w.drewN m) ⟨bw, 0, none⟩ v k (fun e => hne (by rw [e]))
/-- what pop does -/
def Popped (w : World) (B bw : Nat) (wv : Value) (l : List Int) (x : Int) (e : Ending) (w' : World) : Prop :=
  e = .returned (.int .i64 x) ∧ ∃ wv', w'.heap[bw]? = some (.cells #[wv'] 22 (0, 0)) ∧ OwnI w' B wv' l ∧ w.grownBy w' (some bw)
theorem pop_any (w : World) (B bw : Nat) (wv : Value) (l : List Int) (x : Int) (hb : w.heap[bw]? = some (.cells #[wv] 22 (0, 0))) (ho : OwnI w B wv (l ++ [x])) :
    Calls Try.prog 28 #[.pointer (some ⟨bw, 0, none⟩)] w (Popped w B bw wv l x) := by
  obtain ⟨g, cap, rfl, h1, h2, h3, h4, h5⟩ := own_snoc ho
  have hgb : g ≠ bw := by
    rcases own_blk ho hb (by decide) with h | h
    · cases h
    · exact fun e => h (by rw [e]; rfl)
  have c1 : w.cell? ⟨bw, 0, none⟩ = some (.slice (some ⟨g, 0, none⟩) (l.length + 1) cap) := blk_cell hb (by rfl)
  have f1 : w.frozen? ⟨bw, 0, none⟩ = false := blk_free hb
  have HB := Lib.hid hb
  have H5 := Lib.hid h5
  unfold maxLen at h2
  have hl : l.length + 1 ≤ 9223372036854775807 := by omega
  generalize l.length = n at *
  clear hb ho h5
  go_enter Try.func28, Try.ntmps28
  go_wp2_with fail
  go_quiet (fail)
  go_wp2_with fail
  go_region
  go_wp2_with fail
  go_returns
  have V := var_set (v := .slice (some ⟨g, 0, none⟩) n cap) HB.out (nq + 1)
  exact ⟨rfl, _, V.1, World.ownsRow.kept H5.out V.2 (Or.inr (by simpa [Value.ownBlock] using hgb)), V.2⟩
/-- a new slice of ints comes back -/
def NewI (w : World) (l : List Int) (e : Ending) (w' : World) : Prop := ∃ v, e = .returned v ∧ OwnI w' w.heap.size v l ∧ Below w.heap.size w w'
theorem lit_own (w : World) (B g : Nat) (cs : Array Value) (l : List Int) (hg : g = w.heap.size) (hB : B ≤ w.heap.size) (hc : cs.toList = iv l) (hl : l.length ≤ maxLen) :
    OwnI (w.alloc (.cells cs 3)) B (.slice (some ⟨g, 0, none⟩) l.length l.length) l := by
  subst hg
  have hs : cs.size = l.length * 1 := by rw [← Array.length_toList, hc]; simp [iv]
  unfold OwnI
  rw [← hc]
  exact World.ownsRow_lit (size := 1) w cs l.length hB hl hs
theorem next_own (w : World) (t : TermD) : Calls Try.prog 17 #[termV t] w (NewI w (nextT t)) := by
  unfold nextT
  by_cases k1 : t.kind = 1
  · rw [if_pos k1]
    go_enter Try.func17, Try.ntmps17
    go_wp2
    go_returns
    exact ⟨_, rfl, lit_own _ _ _ _ [t.to_] (by simp) (by simp) rfl (by simp [maxLen]), below_alloc _ (below_alloc _ (Below.refl _ _))⟩
  · rw [if_neg k1]
    have b1 : (t.kind == 1) = false := by simpa using k1
    by_cases k2 : t.kind = 2
    · rw [if_pos k2]
      clear b1 k1
      go_enter Try.func17, Try.ntmps17
      go_wp2
      go_returns
      exact ⟨_, rfl, lit_own _ _ _ _ [t.to_, t.els] (by simp) (by simp) rfl (by simp [maxLen]), below_alloc _ (below_alloc _ (Below.refl _ _))⟩
    · rw [if_neg k2]
      have b2 : (t.kind == 2) = false := by simpa using k2
      clear k1 k2
      go_enter Try.func17, Try.ntmps17
      go_wp2
      go_returns
      exact ⟨_, rfl, World.ownsRow_nil _ _ _ _, below_alloc _ (Below.refl _ _)⟩
/-! ### Reached -/
def nxF (f : FuncD) (i : Nat) : List Int := match f.blocks[i]? with
  | some b => nextT b.term
  | none => []
theorem nextT_len (t : TermD) : (nextT t).length ≤ 2 := by
  unfold nextT
  split
  · simp
  · split <;> simp
theorem nxF_of {f : FuncD} {i : Nat} {b : BlockD} (h : f.blocks[i]? = some b) : nxF f i = nextT b.term := by unfold nxF; rw [h]
structure RS (W0 w : World) (B n : Nat) (sv wv : Value) (bw : Nat) (l : List Nat) (work : List Int) : Prop where
  s : SetR w B sv l
  len : l.length = (n + 63) / 64
  b : w.heap[bw]? = some (.cells #[wv] 22 (0, 0))
  o : OwnI w B wv work
  bb : B ≤ bw
  below : Below B W0 w
theorem RS.more {W0 w w' : World} {B n bw : Nat} {sv wv : Value} {l : List Nat} {work : List Int} (h : RS W0 w B n sv wv bw l work) (hB : B ≤ W0.heap.size) (hb : Below w.heap.size w w') : RS W0 w' B n sv wv bw l work :=
  ⟨own_kept h.s (grown_of_below (r := none) hb) (by cases sv.ownBlock <;> simp), h.len, blk_kept h.b (grown_of_below (r := none) hb) (Or.inl rfl), own_below h.o hb, h.bb, h.below.trans (hb.mono (Nat.le_trans hB h.below.size))⟩
theorem RS.popped {W0 w w' : World} {B n bw : Nat} {sv wv wv' : Value} {l : List Nat} {work : List Int} {x : Int} (h : RS W0 w B n sv wv bw l (work ++ [x])) (hB : B ≤ W0.heap.size)
    (h1 : w'.heap[bw]? = some (.cells #[wv'] 22 (0, 0))) (h2 : OwnI w' B wv' work) (h3 : w.grownBy w' (some bw)) : RS W0 w' B n sv wv' bw l work :=
  ⟨own_kept h.s h3 (own_blk h.s.1 h.b (by decide)), h.len, h1, h2, h.bb, below_of_grown h.below hB h3 (fun k hk => by have := h.bb; cases hk; exact this)⟩
theorem RS.put {W0 w w' : World} {B n bw : Nat} {sv wv : Value} {l : List Nat} {work : List Int} {k : Nat} (h : RS W0 w B n sv wv bw l work) (hB : B ≤ W0.heap.size) (hk : k < n) (hno : bitL l k = false)
    (h1 : SetR w' B sv (putL l k)) (h2 : w.grownBy w' sv.ownBlock) : RS W0 w' B n sv wv bw (putL l k) work ∧ bitL (putL l k) = (fun i => bitL l i || decide (i = k)) ∧ cnt (bitL l) n < cnt (bitL (putL l k)) n := by
  have e : bitL (putL l k) = (fun i => bitL l i || decide (i = k)) := by
    funext i
    rw [bit_put]
    congr 1
    have := h.len
    rw [decide_eq_decide]
    constructor
    · intro h; omega
    · rintro rfl; exact ⟨rfl, by omega⟩
  have hc := cnt_set (p := bitL l) hk hno
  rw [← e] at hc
  refine ⟨⟨h1, by rw [putL_length]; exact h.len, blk_kept h.b h2 ?_, World.ownsRow.kept h.o h2 (own_ne h.o h.s.1 (by decide)), h.bb, below_of_grown h.below hB h2 (fun k hk => (h.s.1.lt k hk).1)⟩, e, hc⟩
  exact own_blk h.s.1 h.b (by decide)
theorem Try.infoInt : (Try.prog.info? 3).map (fun i => (i.zero, i.size, i.bytes)) = some (some (.int .i64 0), 1, 8) := by kernel_rfl
theorem RS.append {W0 w : World} {B n bw : Nat} {sv wv : Value} {l : List Nat} {work : List Int} {k : Nat} (h : RS W0 w B n sv wv bw l work) (hB : B ≤ W0.heap.size) (hn : n ≤ 1000000) (hw : work.length < cnt (bitL l) n) :
    ∃ v' w', (Builtin.append_ #[22, 22] 22 #[wv, .slice (some ⟨w.heap.size, 0, none⟩) 1 1]).run Try.prog (w.alloc (.cells #[.int .i64 (k : Nat)] 3)) = .ok v' w' ∧ w'.heap[bw]? = some (.cells #[wv] 22 (0, 0)) ∧
      ∀ m, RS W0 ((w'.drewN m).setCell ⟨bw, 0, none⟩ v') B n sv v' bw l (work ++ [(k : Int)]) ∧
        ∀ B2 u l2, OwnI w B2 u l2 → (u.ownBlock = none ∨ u.ownBlock ≠ wv.ownBlock) → OwnI ((w'.drewN m).setCell ⟨bw, 0, none⟩ v') B2 u l2 ∧ (u.ownBlock = none ∨ u.ownBlock ≠ v'.ownBlock) := by
  have hc := cnt_le (bitL l) n
  obtain ⟨i0, hi, hz0, hz1, hz2⟩ := info_parts Try.infoInt
  obtain ⟨v', w', r1, r2, r3, r4⟩ := append_one (P := Try.prog) (w := w) B 22 3 i0 _ 8 Try.underlying22 hi hz0 hz1 hz2 rfl wv work.length (iv work) h.o (.int .i64 (k : Nat)) _ rfl rfl (by unfold maxLen; omega) (by omega) (Nat.le_trans hB h.below.size)
  have hb' := blk_kept h.b r3 (own_blk h.o h.b (by decide))
  refine ⟨v', w', r1, hb', fun m => ?_⟩
  have V := var_set (v := v') hb' m
  have ho : OwnI w' B v' (work ++ [(k : Int)]) := by unfold OwnI; rw [List.length_append, show iv (work ++ [(k : Int)]) = iv work ++ [.int .i64 (k : Nat)] by simp [iv]]; exact r2
  have hs := own_kept h.s r3 (own_ne h.s.1 h.o (by decide))
  refine ⟨⟨own_kept hs V.2 (own_blk hs.1 hb' (by decide)), h.len, V.1, World.ownsRow.kept ho V.2 (own_blk ho hb' (by decide)), h.bb, ?_⟩, fun B2 u l2 hu hd => ?_⟩
  rotate_left
  · have hu2 : OwnI w' B2 u l2 := World.ownsRow.kept hu r3 hd
    refine ⟨World.ownsRow.kept hu2 V.2 (own_blk hu2 hb' (by decide)), ?_⟩
    cases hub : u.ownBlock with
    | none => exact Or.inl rfl
    | some g =>
      refine Or.inr (fun e => ?_)
      rcases r4 g e.symm with h1 | h1
      · rcases hd with h2 | h2
        · rw [h2] at hub; cases hub
        · exact h2 (hub.trans h1.symm)
      · have := hu.lt g hub; omega
  exact below_of_grown (below_of_grown h.below hB r3 (fun k hk => (h.o.lt k hk).1)) hB V.2 (fun k hk => by have := h.bb; cases hk; exact this)
theorem rs_start (W0 w w1 : World) (sv : Value) (n : Nat) (hs : SetR w1 w.heap.size sv (List.replicate ((n + 63) / 64) 0)) (hb : Below w.heap.size w w1) :
    RS w ((w1.alloc (.cells #[.int .i64 0] 3)).alloc (.cells #[.slice (some ⟨w1.heap.size, 0, none⟩) 1 1] 22)) w.heap.size n sv (.slice (some ⟨w1.heap.size, 0, none⟩) 1 1) (w1.heap.size + 1) (List.replicate ((n + 63) / 64) 0) [0] := by
  have h2 : Below w1.heap.size w1 ((w1.alloc (.cells #[.int .i64 0] 3)).alloc (.cells #[.slice (some ⟨w1.heap.size, 0, none⟩) 1 1] 22)) := below_alloc _ (below_alloc _ (Below.refl _ _))
  have hz := hb.size
  refine ⟨own_kept hs (grown_of_below (r := none) h2) (by cases sv.ownBlock <;> simp), by simp, ?_, ?_, by omega, hb.bt h2⟩
  · have := blk_new (w1.alloc (.cells #[.int .i64 0] 3)) (.cells #[.slice (some ⟨w1.heap.size, 0, none⟩) 1 1] 22)
    simpa using this
  · unfold OwnI
    refine World.ownsRow.alloc ?_ _
    have := World.ownsRow_lit (base := w.heap.size) (e := 3) (size := 1) w1 #[.int .i64 0] 1 hz (by decide) (by simp)
    exact this
theorem seen_start (f : FuncD) (n : Nat) (h0n : 0 < n) {l : List Nat} (h : bitL l = (fun i => bitL (List.replicate ((n + 63) / 64) 0) i || decide (i = 0))) : Seen (nxF f) n (bitL l) [0] ∧ cnt (bitL l) n ≥ 1 := by
  have e : bitL l = fun i => decide (i = 0) := by rw [h]; funext i; rw [bitL_zero]; rfl
  rw [e]
  refine ⟨⟨rfl, fun x hx => ?_, fun x hx => ?_, fun x hx hno => ?_⟩, ?_⟩
  · rw [List.mem_singleton.1 hx]; exact ⟨by omega, by omega, rfl⟩
  · have := of_decide_eq_true hx; subst this; exact ⟨h0n, .start⟩
  · have := of_decide_eq_true hx; subst this; exact absurd (by simp) hno
  · have : cnt (fun _ => false) n < cnt (fun i => decide (i = 0)) n := cnt_lt n (fun _ _ h => by cases h) ⟨0, h0n, by simp, rfl⟩
    omega
set_option maxRecDepth 100000 in
theorem reached_any (W0 w : World) (h0 : Below W0.heap.size W0 w) (fb fo : Nat) (f : FuncD) (vb : Value) (c5 : w.cell? ⟨fb, fo + 5, none⟩ = some vb) (hb : SlR W0 9 (BlockR W0) vb f.blocks)
    (n : Nat) (hn : n = f.blocks.length) (h0n : 0 < n) (hn6 : n ≤ 1000000) (hnx : ∀ i k, i < n → k ∈ nxF f i → 0 ≤ k ∧ k < n) :
    Calls Try.prog 20 #[.pointer (some ⟨fb, fo, none⟩)] w fun e w' => ∃ v l, e = .returned v ∧ SetR w' w.heap.size v l ∧ Below w.heap.size w w' ∧ l.length = (n + 63) / 64 ∧ ∀ i, bitL l i = true ↔ Way (nxF f) i := by
  obtain ⟨A, cap, rfl, _, m3, hi⟩ := hb
  have HI := Lib.hid hi
  have HX := Lib.hid hnx
  have H0 := Lib.hid h0
  have HN := Lib.hid hn
  rw [← hn] at c5
  have hz : ((n : Int) == 0) = false := by simp; omega
  clear hi hnx h0 hn m3
  go_enter Try.func20, Try.ntmps20
  go_wp2_with fail
  refine (empty_any _ n hn6).mono ?_
  rintro e w1 ⟨sv, rfl, hs, hb1⟩
  have HS := Lib.hid hs
  have HB1 := Lib.hid hb1
  have c5' := later c5 hb1
  clear hs hb1
  go_wp2_with fail
  have R0 := Lib.hid (rs_start W0 w w1 sv n HS.out HB1.out)
  have BB := Lib.hid (Nat.le_refl w.heap.size)
  refine (put_any _ w.heap.size sv _ 0 R0.out.s (by decide)).mono ?_
  rintro e w2 ⟨rfl, hs2, hg2⟩
  have R2 := Lib.hid (RS.put (k := 0) R0.out BB.out h0n (by rw [bitL_zero]) hs2 hg2)
  have S2 := Lib.hid (seen_start f n h0n R2.out.2.1)
  generalize w1.heap.size + 1 = bw at *
  generalize w1.heap.size = bz at *
  have hcast : ((0 : Nat) : Int) = 0 := rfl
  rw [hcast] at R2 S2
  generalize putL (List.replicate ((n + 63) / 64) 0) 0 = l2 at *
  clear hs2 hg2 c5' R0 hcast
  go_wp2_with fail
  go_loopg [] (2 * (n - cnt (bitL l2) n) + 1) (fun k wr => ∃ (l : List Nat) (wv : Value) (work : List Int), RS w wr w.heap.size n sv wv bw l work ∧ Seen (nxF f) n (bitL l) work ∧ work.length ≤ cnt (bitL l) n ∧ 2 * (n - cnt (bitL l) n) + work.length ≤ k)
  case atStart => exact ⟨l2, _, [0], R2.out.1, S2.out.1, S2.out.2, by simp⟩
  case round =>
    obtain ⟨l, wv, work, hR, hS, hW, hK⟩ := hrel
    have HR := Lib.hid hR
    have HSn := Lib.hid hS
    have HK := Lib.hid hK
    have HW := Lib.hid hW
    clear hR hS hK hW
    have b1 := HR.out.b
    have c1 : wr.cell? ⟨bw, 0, none⟩ = some wv := blk_cell b1 (by rfl)
    obtain ⟨A1, cap1, hwv, hA1⟩ := own_slice HR.out.o
    subst hwv
    unfold maxLen at hA1
    clear b1
    rcases List.eq_nil_or_concat work with hwk | ⟨wk, x, hwk⟩
    · subst hwk
      go_wp2_with fail
      go_returns
      exact ⟨_, _, rfl, HR.out.s, HR.out.below, HR.out.len, HSn.out.done HX.out⟩
    · rw [List.concat_eq_append] at hwk
      subst hwk
      obtain ⟨q, rfl, hq, hSe⟩ := HSn.out.take
      have hlen : (wk ++ [(q : Int)]).length = wk.length + 1 := by simp
      rw [hlen] at c1 hA1
      go_wp2_with fail
      refine (pop_any _ w.heap.size bw _ wk q HR.out.b HR.out.o).mono ?_
      rintro e w3 ⟨rfl, wv3, hb3, ho3, hg3⟩
      have R3 := Lib.hid (HR.out.popped BB.out hb3 ho3 hg3)
      have HSe := Lib.hid hSe
      clear c1 hb3 ho3 hg3 hlen hA1 hSe
      have c5' := later c5 R3.out.below
      obtain ⟨blk, hblk⟩ : ∃ b, f.blocks[q]? = some b := ⟨_, List.getElem?_eq_getElem (by rw [← HN.out]; exact hq)⟩
      obtain ⟨bb, bo, cs, rfl, e1, e2, vi, e3, y1, y2, t1, t2, t3, t4, t5, t6, t7, t8⟩ := HI.out q blk hblk
      subst e3
      have H03 := H0.out.trans (R3.out.below.mono H0.out.size)
      have r1 := later (e2 1 (by omega)) H03
      have r2 := later (e2 2 (by omega)) H03
      have r3 := later (e2 3 (by omega)) H03
      have r4 := later (e2 4 (by omega)) H03
      have r5 := later (e2 5 (by omega)) H03
      have r6 := later (e2 6 (by omega)) H03
      have r7 := later (e2 7 (by omega)) H03
      have r8 := later (e2 8 (by omega)) H03
      have HNx := Lib.hid (nxF_of hblk)
      clear e1 e2 y1 y2 t1 t2 t3 t4 t5 t6 t7 t8 hblk H03
      go_wp2_with fail
      refine (next_own _ blk.term).mono ?_
      rintro e w4 ⟨v4, rfl, ho4, hb4⟩
      have R4 := Lib.hid (R3.out.more BB.out hb4)
      have D4 := Lib.hid (show v4.ownBlock = none ∨ v4.ownBlock ≠ wv3.ownBlock by
        cases h4 : v4.ownBlock with
        | none => exact Or.inl rfl
        | some g => exact Or.inr (fun e => by have := R3.out.o.lt g e.symm; have := ho4.lt g h4; omega))
      have O4 := Lib.hid (own_base ho4 R3.out.below.size)
      clear r1 r2 r3 r4 r5 r6 r7 r8 hb4 ho4 c5'
      obtain ⟨A4, cap4, hv4, hm4⟩ := own_slice O4.out
      subst hv4
      have hT2 := nextT_len blk.term
      generalize nextT blk.term = nt at *
      have HT2 := Lib.hid hT2
      clear hm4
      have hgk := HK.out
      have HG := Lib.hid (show 2 * (n - cnt (bitL l) n) + wk.length < gk by simp at hgk; omega)
      have HWk := Lib.hid (show wk.length ≤ cnt (bitL l) n by have := HW.out; simp at this; omega)
      clear hgk hT2 HK
      go_wp2_with fail
      go_loopw [38] (fun i wr => ∃ (j : Nat) (l : List Nat) (wv : Value) (work : List Int), j ≤ nt.length ∧ i = .int .i64 j ∧ RS w wr w.heap.size n sv wv bw l work ∧ Seeing (nxF f) n q j (bitL l) work ∧ work.length ≤ cnt (bitL l) n ∧ 2 * (n - cnt (bitL l) n) + work.length < gk ∧
        OwnI wr w.heap.size (.slice A4 nt.length cap4) nt ∧ ((Value.slice A4 nt.length cap4).ownBlock = none ∨ (Value.slice A4 nt.length cap4).ownBlock ≠ wv.ownBlock)) (fun i _ => nt.length - (intOf i).toNat)
      case atStart => exact ⟨0, l, wv3, wk, by omega, rfl, R4.out, HSe.out, HWk.out, HG.out, O4.out, D4.out⟩
      case round =>
        obtain ⟨j, l5, wv5, work5, hj, rfl, hR, hS, hW, hG, hO, hD⟩ := hrel
        have HR5 := Lib.hid hR
        have HS5 := Lib.hid hS
        have HW5 := Lib.hid hW
        have HG5 := Lib.hid hG
        have HO5 := Lib.hid hO
        have HD5 := Lib.hid hD
        have hnl := HT2.out
        clear hR hS hW hG hD HR R3 R4 O4 D4 HSn HSe HG HWk
        by_cases hlt : j < nt.length
        · obtain ⟨k, hk⟩ : ∃ k, nt[j]? = some k := ⟨_, List.getElem?_eq_getElem hlt⟩
          have hkn := HX.out q k hq (by rw [HNx.out]; exact List.mem_of_getElem? hk)
          obtain ⟨k, rfl⟩ : ∃ k' : Nat, k = k' := ⟨k.toNat, by omega⟩
          obtain ⟨g4, c4, e4, _⟩ := own_form hO (by omega)
          cases e4
          have cc := hO.cell hlt _ hk
          have HKj := Lib.hid (show (nxF f q)[j]? = some (k : Int) by rw [HNx.out]; exact hk)
          have HC := Lib.hid (has_any wr w.heap.size sv l5 k HR5.out.s (by omega))
          have hh : hasL l5 (k : Int) = bitL l5 k := by unfold hasL; rw [decide_eq_true (by omega)]; rfl
          rw [hh] at HC
          have HKN := Lib.hid (show k < n by omega)
          clear hO hk hkn hh
          cases hbit : bitL l5 k
          · rw [hbit] at HC
            have HB0 := Lib.hid hbit
            clear hbit
            go_wp2_with fail
            refine HC.out.mono ?_
            rintro e w6 ⟨rfl, rfl⟩
            clear cc
            go_wp2_with fail
            refine (put_any _ w.heap.size sv l5 k HR5.out.s (by have := HKN.out; omega)).mono ?_
            rintro e w6 ⟨rfl, hs6, hg6⟩
            obtain ⟨hR6, hE6, hC6⟩ := RS.put (k := k) HR5.out BB.out HKN.out HB0.out hs6 hg6
            have O6 : OwnI w6 w.heap.size (.slice (some ⟨g4, 0, none⟩) nt.length cap4) nt := World.ownsRow.kept HO5.out hg6 (own_ne HO5.out HR5.out.s.1 (by decide))
            obtain ⟨v7, w7, hr7, hb7, h7⟩ := RS.append (k := k) hR6 BB.out hn6 (by have := HW5.out; omega)
            obtain ⟨A7, cap7, hv7, _⟩ := own_slice (h7 0).1.o
            subst hv7
            have hlw : (work5 ++ [(k : Int)]).length = work5.length + 1 := by simp
            simp only [hlw] at h7 hr7
            clear hlw
            have H7 := Lib.hid (h7 0)
            have H7b := Lib.hid (((h7 0).2 _ _ _ O6 HD5.out))
            have HSx := Lib.hid (show Seeing (nxF f) n q (j + 1) (bitL (putL l5 k)) (work5 ++ [(k : Int)]) by rw [hE6]; exact HS5.out.add HKj.out HKN.out HB0.out)
            have HCx := Lib.hid hC6
            have c6 : w6.cell? ⟨bw, 0, none⟩ = some wv5 := blk_cell hR6.b (by rfl)
            have c7 : w7.cell? ⟨bw, 0, none⟩ = some wv5 := blk_cell hb7 (by rfl)
            have f7 : w7.frozen? ⟨bw, 0, none⟩ = false := blk_free hb7
            have hl6 := blk_lt hR6.b
            clear hs6 hg6 hR6 hE6 hC6 O6 hb7 h7
            go_wp2_with (at_builtin; refine wpList_append_run' _ rfl _ _ _ rfl _ _ _ _ rfl rfl hr7 ?_)
            go_roundw
            case rel => exact ⟨j + 1, _, _, _, by omega, by go_num, H7.out.1, HSx.out, by have := HCx.out; have := HW5.out; simp; omega, by have := HCx.out; have := HG5.out; have := cnt_le (bitL (putL l5 k)) n; simp; omega, H7b.out.1, H7b.out.2⟩
            case measure => simp [intOf]; omega
          · rw [hbit] at HC
            have HB0 := Lib.hid hbit
            clear hbit
            go_wp2_with fail
            refine HC.out.mono ?_
            rintro e w6 ⟨rfl, rfl⟩
            clear cc
            go_wp2_with fail
            go_roundw
            case rel => exact ⟨j + 1, _, _, _, by omega, by go_num, HR5.out, HS5.out.skip HKj.out (by simpa using HB0.out), HW5.out, HG5.out, HO5.out, HD5.out⟩
            case measure => simp [intOf]; omega
        · have e : j = nt.length := by omega
          subst e
          go_wp2_with fail
          go_roundg (2 * (n - cnt (bitL l5) n) + work5.length)
          case measure => exact HG5.out
          case rel => exact ⟨l5, wv5, work5, HR5.out, HS5.out.end_ (by rw [HNx.out]; omega), HW5.out, by omega⟩
end Go.Proofs.Ytcljdhpdknecjaa
