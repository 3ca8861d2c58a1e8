/- What stands in memory while the statements' apart runs: rows of bools, a list of them. No condition. -/
import Derived.Test.YtednnkhomfabaaaGr5
import Derived.Test.YtednnkhomfabaaaFlB
namespace Go.Proofs.Ytednnkhomfabaaa
open Go.RowKit
set_option linter.unusedVariables false
set_option maxHeartbeats 2000000
def insMk (k : Nat) (S : Nat → Bool) (x : InsD) (M : Nat → Bool) (r : Nat) : Bool := M r || (callB x && decide (r < k) && (S r && !decide (x.dst = (r : Int))))
theorem insMk_zero (S : Nat → Bool) (x : InsD) (M : Nat → Bool) (r : Nat) : insMk 0 S x M r = M r := by unfold insMk; simp
theorem insMk_all {R : Nat} (S : Nat → Bool) (x : InsD) (M : Nat → Bool) (r : Nat) (hr : r < R) : insMk R S x M r = insM S x M r := by unfold insMk insM; rw [decide_eq_true hr]; simp
theorem insMk_no (k : Nat) (S : Nat → Bool) (x : InsD) (M : Nat → Bool) (h : (callB x && (S k && !decide (x.dst = (k : Int)))) = false) (r : Nat) : insMk (k + 1) S x M r = insMk k S x M r := by
  unfold insMk
  rw [lt_succ_dec]
  by_cases e : r = k
  · subst e
    cases h1 : callB x
    · simp
    · rw [h1] at h; simp at h; cases h2 : S r
      · simp
      · simp [h h2]
  · simp [e]
theorem insMk_yes (k : Nat) (S : Nat → Bool) (x : InsD) (M : Nat → Bool) (h1 : callB x = true) (h2 : S k = true) (h3 : x.dst ≠ (k : Int)) (r : Nat) : insMk (k + 1) S x M r = (insMk k S x M r || decide (r = k)) := by
  unfold insMk
  rw [lt_succ_dec, h1]
  by_cases e : r = k
  · subst e
    rw [h2, decide_eq_false h3]; simp
  · simp [e]
theorem insEk_neg (k : Nat) (S : Nat → Bool) (x : InsD) (E : Nat → Nat → Bool) (h : x.dst < 0) (a b : Nat) : insEk k S x E a b = E a b := by
  unfold insEk
  rw [decide_eq_false (show ¬ x.dst = (a : Int) by omega), decide_eq_false (show ¬ x.dst = (b : Int) by omega)]
  simp
/-- block g holds these bools -/
def BoolK (w : World) (g R : Nat) (S : Nat → Bool) : Prop := ∃ cs : Array Value, w.heap[g]? = some (.cells cs 4 (0, 0)) ∧ cs.size = R ∧ ∀ r, r < R → cs[r]? = some (.bool (S r))
structure ApR (w : World) (B gl gm R : Nat) (gs : Nat → Nat) (E : Nat → Nat → Bool) (M : Nat → Bool) : Prop where
  bl : ∃ cs : Array Value, w.heap[gl]? = some (.cells cs 28 (0, 0)) ∧ cs.size = R ∧ ∀ i, i < R → cs[i]? = some (.slice (some ⟨gs i, 0, none⟩) R R)
  lB : B ≤ gl
  rows : ∀ i, i < R → BoolK w (gs i) R (E i)
  rB : ∀ i, i < R → B ≤ gs i
  inj : ∀ i j, i < R → j < R → i ≠ j → gs i ≠ gs j
  mem : BoolK w gm R M
  mB : B ≤ gm
  nm : ∀ i, i < R → gs i ≠ gm
section
variable {w w' : World} {B g gl gm R : Nat} {gs : Nat → Nat} {S : Nat → Bool} {E : Nat → Nat → Bool} {M : Nat → Bool}
theorem BoolK.cell {r : Nat} (h : BoolK w g R S) (hr : r < R) : w.cell? ⟨g, r, none⟩ = some (.bool (S r)) ∧ w.frozen? ⟨g, r, none⟩ = false ∧ g < w.heap.size := by
  obtain ⟨cs, h1, h2, h3⟩ := h
  exact ⟨blk_cell h1 (h3 r hr), blk_free h1, blk_lt h1⟩
theorem BoolK.keep (h : BoolK w g R S) (hb : w'.heap[g]? = w.heap[g]?) : BoolK w' g R S := by
  obtain ⟨cs, h1, h2, h3⟩ := h
  exact ⟨cs, hb.trans h1, h2, h3⟩
theorem BoolK.set {r : Nat} (h : BoolK w g R S) (hr : r < R) (b : Bool) : BoolK (w.setCell ⟨g, r, none⟩ (.bool b)) g R (fun j => if j = r then b else S j) ∧ w.grownBy (w.setCell ⟨g, r, none⟩ (.bool b)) (some g) := by
  obtain ⟨cs, h1, h2, h3⟩ := h
  refine ⟨⟨cs.setIfInBounds r (.bool b), by rw [blk_setCell h1 (.bool b)], by simp [h2], fun j hj => ?_⟩, rfl, rfl, rfl, by simp [World.setCell], fun k hk hne => Below.heap_setCell w ⟨g, r, none⟩ _ k (fun e => hne (by rw [e]))⟩
  show (cs.setIfInBounds r (.bool b))[j]? = some (.bool (if j = r then b else S j))
  by_cases e : j = r
  · subst e
    rw [if_pos rfl, Array.getElem?_setIfInBounds_self_of_lt (by omega)]
  · rw [if_neg e, Array.getElem?_setIfInBounds_ne (Ne.symm e)]
    exact h3 j hj
theorem BoolK.congr {T : Nat → Bool} (h : BoolK w g R S) (hs : ∀ r, r < R → S r = T r) : BoolK w g R T := by
  obtain ⟨cs, h1, h2, h3⟩ := h
  exact ⟨cs, h1, h2, fun r hr => by rw [← hs r hr]; exact h3 r hr⟩
theorem ApR.congr {E' : Nat → Nat → Bool} {M' : Nat → Bool} (h : ApR w B gl gm R gs E M) (hE : ∀ a b, a < R → b < R → E a b = E' a b) (hM : ∀ r, r < R → M r = M' r) : ApR w B gl gm R gs E' M' :=
  { h with rows := fun i hi => (h.rows i hi).congr (fun r hr => hE i r hi hr), mem := h.mem.congr hM }
/-- the blocks are as they were -/
theorem ApR.keep (h : ApR w B gl gm R gs E M) (hk : ∀ (k : Nat) (cs : Array Value) (T : TypeId) (fr : Nat × Nat), w.heap[k]? = some (.cells cs T fr) → (T = 4 ∨ T = 28) → w'.heap[k]? = w.heap[k]?) : ApR w' B gl gm R gs E M := by
  have kb : ∀ {g : Nat} {S : Nat → Bool}, BoolK w g R S → BoolK w' g R S := fun hb => hb.keep (by obtain ⟨cs, h1, _⟩ := hb; exact hk _ _ _ _ h1 (Or.inl rfl))
  obtain ⟨cs, h1, h2, h3⟩ := h.bl
  exact ⟨⟨cs, (hk _ _ _ _ h1 (Or.inr rfl)).trans h1, h2, h3⟩, h.lB, fun i hi => kb (h.rows i hi), h.rB, h.inj, kb h.mem, h.mB, h.nm⟩
theorem ApR.more (h : ApR w B gl gm R gs E M) (hb : Below w.heap.size w w') : ApR w' B gl gm R gs E M := h.keep (fun k cs T fr hk _ => hb.block k (blk_lt hk))
theorem ApR.kept {base n size : Nat} {T : TypeId} {v : Value} {xs : List Value} (h : ApR w B gl gm R gs E M) (hg : w.grownBy w' v.ownBlock) (ho : w.ownsRow base T size v n xs) (h1 : T ≠ 4) (h2 : T ≠ 28) : ApR w' B gl gm R gs E M :=
  h.keep (fun k cs T' fr hk hT => hg.block k (blk_lt hk) (fun e => by
    rcases hT with rfl | rfl
    · rcases own_blk ho hk h1 with h3 | h3
      · rw [h3] at e; cases e
      · exact h3 e.symm
    · rcases own_blk ho hk h2 with h3 | h3
      · rw [h3] at e; cases e
      · exact h3 e.symm))
theorem ApR.cellL {i : Nat} (h : ApR w B gl gm R gs E M) (hi : i < R) : w.cell? ⟨gl, i, none⟩ = some (.slice (some ⟨gs i, 0, none⟩) R R) ∧ gl < w.heap.size := by
  obtain ⟨cs, h1, h2, h3⟩ := h.bl
  exact ⟨blk_cell h1 (h3 i hi), blk_lt h1⟩
theorem ApR.nl {i : Nat} (h : ApR w B gl gm R gs E M) (hi : i < R) : gs i ≠ gl := fun e => by
  obtain ⟨cs, h1, _⟩ := h.bl
  obtain ⟨cs2, h2, _⟩ := h.rows i hi
  rw [e, h1] at h2
  simp only [Option.some.injEq, Obj.cells.injEq] at h2
  exact absurd h2.2.1 (by decide)
theorem ApR.ml (h : ApR w B gl gm R gs E M) : gm ≠ gl := fun e => by
  obtain ⟨cs, h1, _⟩ := h.bl
  obtain ⟨cs2, h2, _⟩ := h.mem
  rw [e, h1] at h2
  simp only [Option.some.injEq, Obj.cells.injEq] at h2
  exact absurd h2.2.1 (by decide)
theorem ApR.setE {i r : Nat} (h : ApR w B gl gm R gs E M) (hi : i < R) (hr : r < R) (b : Bool) : ApR (w.setCell ⟨gs i, r, none⟩ (.bool b)) B gl gm R gs (updE E i (fun j => if j = r then b else E i j)) M ∧ w.grownBy (w.setCell ⟨gs i, r, none⟩ (.bool b)) (some (gs i)) := by
  obtain ⟨k1, k2⟩ := (h.rows i hi).set hr b
  obtain ⟨cs, h1, h2, h3⟩ := h.bl
  refine ⟨⟨⟨cs, (k2.block gl (blk_lt h1) (fun e => h.nl hi (by simpa using e.symm))).trans h1, h2, h3⟩, h.lB, fun j hj => ?_, h.rB, h.inj, h.mem.keep (k2.block gm (h.mem.cell (show 0 < R by omega)).2.2 (fun e => h.nm i hi (by simpa using e.symm))), h.mB, h.nm⟩, k2⟩
  unfold updE
  by_cases e : j = i
  · subst e; rw [if_pos rfl]; exact k1
  · rw [if_neg e]
    exact (h.rows j hj).keep (k2.block (gs j) ((h.rows j hj).cell (show 0 < R by omega)).2.2 (fun e2 => h.inj j i hj hi e (by simpa using e2)))
theorem ApR.setM {r : Nat} (h : ApR w B gl gm R gs E M) (hr : r < R) (b : Bool) : ApR (w.setCell ⟨gm, r, none⟩ (.bool b)) B gl gm R gs E (fun j => if j = r then b else M j) ∧ w.grownBy (w.setCell ⟨gm, r, none⟩ (.bool b)) (some gm) := by
  obtain ⟨k1, k2⟩ := h.mem.set hr b
  obtain ⟨cs, h1, h2, h3⟩ := h.bl
  exact ⟨⟨⟨cs, (k2.block gl (blk_lt h1) (fun e => h.ml (by simpa using e.symm))).trans h1, h2, h3⟩, h.lB, fun j hj => (h.rows j hj).keep (k2.block (gs j) ((h.rows j hj).cell (show 0 < R by omega)).2.2 (fun e2 => h.nm j hj (by simpa using e2))), h.rB, h.inj, k1, h.mB, h.nm⟩, k2⟩
/-- both ways -/
theorem ApR.edge {a b : Nat} (h : ApR w B gl gm R gs E M) (ha : a < R) (hb : b < R) (hab : a ≠ b) :
    ApR ((w.setCell ⟨gs a, b, none⟩ (.bool true)).setCell ⟨gs b, a, none⟩ (.bool true)) B gl gm R gs (edgeE E a b) M := by
  have h1 := (h.setE ha hb true).1
  have h2 := (h1.setE hb ha true).1
  refine h2.congr (fun x y _ _ => ?_) (fun _ _ => rfl)
  unfold updE edgeE
  rw [decide_eq_false hab]
  by_cases e1 : x = b
  · subst e1
    rw [if_pos rfl, if_neg (Ne.symm hab), decide_eq_false (Ne.symm hab)]
    by_cases e2 : y = a
    · simp [e2]
    · simp [e2]
  · rw [if_neg e1]
    by_cases e2 : x = a
    · subst e2
      rw [if_pos rfl]
      by_cases e3 : y = b
      · simp [e3]
      · simp [e3, e1]
    · rw [if_neg e2]; simp [e1, e2]
end
/-- between B and L0, and from L1 on, things may change -/
structure Gap (B L0 L1 : Nat) (w w' : World) : Prop where
  os : w'.os = w.os
  tape : w'.tape = w.tape
  output : w'.output = w.output
  size : w.heap.size ≤ w'.heap.size
  block : ∀ k, k < w.heap.size → (k < B ∨ (L0 ≤ k ∧ k < L1)) → w'.heap[k]? = w.heap[k]?
section
variable {B L0 L1 : Nat} {w w' w2 : World}
theorem Gap.refl (B L0 L1 : Nat) (w : World) : Gap B L0 L1 w w := ⟨rfl, rfl, rfl, Nat.le_refl _, fun _ _ _ => rfl⟩
theorem Gap.trans (h : Gap B L0 L1 w w') (k : Gap B L0 L1 w' w2) : Gap B L0 L1 w w2 := ⟨k.os.trans h.os, k.tape.trans h.tape, k.output.trans h.output, Nat.le_trans h.size k.size, fun i hi hj => (k.block i (Nat.lt_of_lt_of_le hi h.size) hj).trans (h.block i hi hj)⟩
theorem Gap.of_grown {r : Option Nat} (hg : w.grownBy w' r) (hr : ∀ k, r = some k → B ≤ k ∧ (k < L0 ∨ L1 ≤ k)) : Gap B L0 L1 w w' := ⟨hg.os, hg.tape, hg.output, hg.size, fun k hk hj => hg.block k hk (fun e => by have := hr k e.symm; omega)⟩
theorem Gap.of_below (hb : Below w.heap.size w w') : Gap B L0 L1 w w' := Gap.of_grown (r := none) (grown_of_below hb) (fun k h => by cases h)
theorem Gap.below (h : Gap B L0 L1 w w') (hB : B ≤ w.heap.size) : Below B w w' := ⟨h.os, h.tape, h.output, h.size, fun k hk => h.block k (by omega) (Or.inl hk)⟩
theorem Gap.row (h : Gap B L0 L1 w w') {base size n : Nat} {T : TypeId} {v : Value} {xs : List Value} (ho : w.ownsRow base T size v n xs) (hb : L0 ≤ base) (hl : ∀ g, v.ownBlock = some g → g < L1) : w'.ownsRow base T size v n xs := by
  refine ⟨ho.1, ?_⟩
  rcases ho.2 with h1 | ⟨g, cap, cur, rfl, h2, h3, h4⟩
  · exact Or.inl h1
  · exact Or.inr ⟨g, cap, cur, rfl, h2, (h.block g (blk_lt h3) (Or.inr ⟨Nat.le_trans hb h2, hl g rfl⟩)).trans h3, h4⟩
theorem Gap.set_ (h : Gap B L0 L1 w w') {base R : Nat} {v : Value} {S : Nat → Bool} (ho : SetB w base v R S) (hb : L0 ≤ base) (hl : ∀ g, v.ownBlock = some g → g < L1) : SetB w' base v R S := let ⟨l, h1, h2, h3⟩ := ho; ⟨l, ⟨h.row h1.1 hb hl, h1.2⟩, h2, h3⟩
end
theorem back_b (w : World) {base R : Nat} {sv va : Value} {S : Nat → Bool} (x : InsD) (hs : SetB w base sv R S) (h0 : In64 x.op) (h1 : In64 x.dst) (h2 : In64 x.a.reg ∧ In64 x.a.num) (h3 : In64 x.b.reg ∧ In64 x.b.num) (ha : SlR w 2 ArgR va x.args)
    (hsl : x.args.length ≤ 1000000) (hd : x.args = [] ∨ va.ownBlock ≠ sv.ownBlock) : Calls Try.prog 26 #[sv, insV x va] w (SetTB w base sv R (backF S x)) := by
  obtain ⟨l, a1, a2, a3⟩ := hs
  refine (back_any w base sv va l x a1 h0 h1 h2 h3 ha hsl hd).mono ?_
  rintro e w' ⟨rfl, hs, hg⟩
  exact ⟨rfl, ⟨_, hs, by rw [backL_length, a2], fun r hr => by rw [bit_back r l x (by omega), a3 r hr]; rfl⟩, hg⟩
theorem Try.infoBools : (Try.prog.info? 28).map (fun i => (i.zero, i.size, i.bytes)) = some (some (.slice none 0 0), 1, 24) := by kernel_rfl
theorem make_boolK (w : World) (n : Nat) (hn : n ≤ 1000000) : ∃ w2, (Instr.makeSlice 28 (.int .i64 (n : Nat)) (.int .i64 (n : Nat))).run Try.prog w = .ok (.slice (some ⟨w.heap.size, 0, none⟩) n n) w2 ∧ BoolK w2 w.heap.size n (fun _ => false) ∧ Below w.heap.size w w2 := by
  obtain ⟨w2, h1, h2, h3⟩ := make_bools w n hn
  refine ⟨w2, h1, ?_, h3⟩
  have ho : w2.ownsRow w.heap.size 4 1 (.slice (some ⟨w.heap.size, 0, none⟩) n n) n (bv (List.replicate n false)) := by
    have := h2
    unfold OwnB at this
    rw [List.length_replicate] at this
    exact this
  rcases ho.2 with ⟨e, _⟩ | ⟨g, cap, cur, e, g1, g2, g3, g4, g5, g6⟩
  · cases e
  · cases e
    refine ⟨cur, g2, by omega, fun r hr => ?_⟩
    have h5 : (cur.toList.take (n * 1))[r]? = (bv (List.replicate n false))[r]? := by rw [g6]
    rw [List.getElem?_take, if_pos (by omega)] at h5
    rw [← Array.getElem?_toList, h5]
    simp [bv, hr]
theorem make_boolsK (w : World) (n : Nat) (hn : n ≤ 1000000) : ∃ w2, (Instr.makeSlice 36 (.int .i64 (n : Nat)) (.int .i64 (n : Nat))).run Try.prog w = .ok (.slice (some ⟨w.heap.size, 0, none⟩) n n) w2 ∧ (∃ cs : Array Value, w2.heap[w.heap.size]? = some (.cells cs 28 (0, 0)) ∧ cs.size = n) ∧ Below w.heap.size w w2 := by
  obtain ⟨i0, hi, hz0, hz1, hz2⟩ := info_parts Try.infoBools
  obtain ⟨w2, hr, hown, hg⟩ := run_make_full (P := Try.prog) w w.heap.size 36 28 i0 (.slice none 0 0) 1 Try.underlying36 hi hz0 hz1 .i64 .i64 n (by rw [hz2]; omega) (by unfold maxLen; omega) (Nat.le_refl _)
  refine ⟨w2, hr, ?_, below_grown hg⟩
  rcases hown.2 with ⟨e, _⟩ | ⟨g, cap, cur, e, g1, g2, g3, g4, g5, g6⟩
  · cases e
  · cases e
    exact ⟨cur, g2, by omega⟩
theorem nb_ {w : World} {T : TypeId} {cs cs9 : Array Value} {g g9 : Nat} (h1 : w.heap[g]? = some (.cells cs T (0, 0))) (hT : T ≠ 4) (h2 : w.heap[g9]? = some (.cells cs9 4 (0, 0))) : (some g9 : Option Nat) = none ∨ (some g9 : Option Nat) ≠ some g := Or.inr (fun e => by
  simp only [Option.some.injEq] at e
  subst e
  rw [h1] at h2
  simp only [Option.some.injEq, Obj.cells.injEq] at h2
  exact hT h2.2.1)
end Go.Proofs.Ytednnkhomfabaaa
