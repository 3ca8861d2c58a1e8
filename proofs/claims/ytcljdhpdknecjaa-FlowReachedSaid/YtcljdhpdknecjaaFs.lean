/- FlowSets: what stands in memory. No condition. -/
import Derived.Test.YtcljdhpdknecjaaSet
import Derived.Test.YtcljdhpdknecjaaFit11
import Derived.Test.YtcljdhpdknecjaaRd
namespace Go.Proofs.Ytcljdhpdknecjaa
open Go.RowKit
set_option linter.unusedVariables false
set_option maxHeartbeats 1000000
/-- block b is a row of 200 bools -/
def BoolsAt (w : World) (b : Nat) (h : Nat → Bool) : Prop :=
  ∃ cs : Array Value, w.heap[b]? = some (.cells cs 27 (0, 0)) ∧ cs.size = 200 ∧ ∀ j, j < 200 → cs[j]? = some (.bool (h j))
def updB (h : Nat → Bool) (i : Nat) (x : Bool) (j : Nat) : Bool := if j = i then x else h j
theorem BoolsAt.cell {w : World} {b j : Nat} {h : Nat → Bool} (k : BoolsAt w b h) (hj : j < 200) : w.cell? ⟨b, j, none⟩ = some (.bool (h j)) ∧ w.frozen? ⟨b, j, none⟩ = false := by
  obtain ⟨cs, h1, h2, h3⟩ := k
  exact ⟨blk_cell h1 (h3 j hj), blk_free h1⟩
theorem BoolsAt.lt {w : World} {b : Nat} {h : Nat → Bool} (k : BoolsAt w b h) : b < w.heap.size := by
  obtain ⟨cs, h1, _⟩ := k; exact blk_lt h1
theorem BoolsAt.set {w : World} {b i : Nat} {h : Nat → Bool} (k : BoolsAt w b h) (hi : i < 200) (x : Bool) : BoolsAt (w.setCell ⟨b, i, none⟩ (.bool x)) b (updB h i x) := by
  obtain ⟨cs, h1, h2, h3⟩ := k
  refine ⟨_, blk_setCell h1 _, by simpa using h2, fun j hj => ?_⟩
  unfold updB
  by_cases e : j = i
  · subst e; rw [if_pos rfl, Array.getElem?_setIfInBounds_self_of_lt (by omega)]
  · rw [if_neg e, Array.getElem?_setIfInBounds_ne (Ne.symm e)]; exact h3 j hj
theorem BoolsAt.keep {w w' : World} {b : Nat} {h : Nat → Bool} (k : BoolsAt w b h) (e : w'.heap[b]? = w.heap[b]?) : BoolsAt w' b h := by
  obtain ⟨cs, h1, h2, h3⟩ := k
  exact ⟨cs, e.trans h1, h2, h3⟩
theorem set_bools_ne {w : World} {base b g : Nat} {v : Value} {l : List Nat} {h : Nat → Bool} (k : BoolsAt w b h) (s : SetR w base v l) (hg : v.ownBlock = some g) : g ≠ b := by
  rintro rfl
  rcases s.1.2 with ⟨rfl, e⟩ | ⟨g', cap, cur, rfl, h1, h2, _⟩
  · simp [Value.ownBlock] at hg
  · simp only [Value.ownBlock, Option.some.injEq] at hg
    subst hg
    obtain ⟨cs, h3, _⟩ := k
    rw [h3] at h2
    simp only [Option.some.injEq, Obj.cells.injEq] at h2
    exact absurd h2.2.1 (by decide)
/-- the two sets and the two rows of bools -/
structure FS (B : Nat) (w0 w : World) (v1 v2 : Value) (hb ob : Nat) (l o : List Nat) (h t : Nat → Bool) : Prop where
  s : SetR w B v1 l
  o : SetR w B v2 o
  hh : BoolsAt w hb h
  oh : BoolsAt w ob t
  ne : v2.ownBlock = none ∨ v2.ownBlock ≠ v1.ownBlock
  nb : hb ≠ ob
  bh : B ≤ hb
  bo : B ≤ ob
  below : Below B w0 w
theorem FS.drew {B : Nat} {w0 w : World} {v1 v2 : Value} {hb ob : Nat} {l o : List Nat} {h t : Nat → Bool} (k : FS B w0 w v1 v2 hb ob l o h t) (n : Nat) : FS B w0 (w.drewN n) v1 v2 hb ob l o h t :=
  ⟨k.s, k.o, k.hh, k.oh, k.ne, k.nb, k.bh, k.bo, ⟨k.below.os, k.below.tape, k.below.output, k.below.size, k.below.block⟩⟩
theorem grown_below {B : Nat} {w0 w w' : World} {v : Value} {l : List Nat} (hb : Below B w0 w) (hB : B ≤ w0.heap.size) (hs : SetR w B v l) (hg : w.grownBy w' v.ownBlock) : Below B w0 w' :=
  ⟨hg.os.trans hb.os, hg.tape.trans hb.tape, hg.output.trans hb.output, Nat.le_trans hb.size hg.size, fun k hk => by
    refine (hg.block k (by have := hb.size; omega) (fun e => ?_)).trans (hb.block k hk)
    have := hs.1.lt k e.symm
    omega⟩
theorem bools_kept {w w' : World} {base b : Nat} {v : Value} {l : List Nat} {h : Nat → Bool} (k : BoolsAt w b h) (s : SetR w base v l) (hg : w.grownBy w' v.ownBlock) : BoolsAt w' b h :=
  k.keep (hg.block b k.lt (fun e => set_bools_ne k s e.symm rfl))
theorem FS.one {B : Nat} {w0 w w' : World} {v1 v2 : Value} {hb ob : Nat} {l l' o : List Nat} {h t : Nat → Bool} (k : FS B w0 w v1 v2 hb ob l o h t) (hB : B ≤ w0.heap.size) (hs : SetR w' B v1 l') (hg : w.grownBy w' v1.ownBlock) : FS B w0 w' v1 v2 hb ob l' o h t :=
  ⟨hs, own_kept k.o hg k.ne, bools_kept k.hh k.s hg, bools_kept k.oh k.s hg, k.ne, k.nb, k.bh, k.bo, grown_below k.below hB k.s hg⟩
theorem ne_symm {v1 v2 : Value} (h : v2.ownBlock = none ∨ v2.ownBlock ≠ v1.ownBlock) : v1.ownBlock = none ∨ v1.ownBlock ≠ v2.ownBlock := by
  rcases h with h | h
  · rw [h]; cases v1.ownBlock <;> simp
  · exact Or.inr (Ne.symm h)
theorem FS.two {B : Nat} {w0 w w' : World} {v1 v2 : Value} {hb ob : Nat} {l o' o : List Nat} {h t : Nat → Bool} (k : FS B w0 w v1 v2 hb ob l o h t) (hB : B ≤ w0.heap.size) (hs : SetR w' B v2 o') (hg : w.grownBy w' v2.ownBlock) : FS B w0 w' v1 v2 hb ob l o' h t :=
  ⟨own_kept k.s hg (ne_symm k.ne), hs, bools_kept k.hh k.o hg, bools_kept k.oh k.o hg, k.ne, k.nb, k.bh, k.bo, grown_below k.below hB k.o hg⟩
theorem set_kept {w : World} {base b i : Nat} {v : Value} {l : List Nat} {h : Nat → Bool} (s : SetR w base v l) (k : BoolsAt w b h) (x : Value) : SetR (w.setCell ⟨b, i, none⟩ x) base v l := by
  refine own_kept (r := some b) s ⟨rfl, rfl, rfl, by simp [World.setCell], fun j hj hne => Below.heap_setCell _ _ _ _ (fun e => hne (by rw [e]))⟩ ?_
  cases e : v.ownBlock with
  | none => exact Or.inl rfl
  | some g => exact Or.inr (fun e2 => set_bools_ne k s e (Option.some.inj e2))
theorem FS.setH {B : Nat} {w0 w : World} {v1 v2 : Value} {hb ob i : Nat} {l o : List Nat} {h t : Nat → Bool} (k : FS B w0 w v1 v2 hb ob l o h t) (hi : i < 200) (x : Bool) : FS B w0 (w.setCell ⟨hb, i, none⟩ (.bool x)) v1 v2 hb ob l o (updB h i x) t :=
  ⟨set_kept k.s k.hh _, set_kept k.o k.hh _, k.hh.set hi x, k.oh.keep (Below.heap_setCell _ _ _ _ (Ne.symm k.nb)), k.ne, k.nb, k.bh, k.bo, k.below.setCell k.bh _⟩
theorem FS.setO {B : Nat} {w0 w : World} {v1 v2 : Value} {hb ob i : Nat} {l o : List Nat} {h t : Nat → Bool} (k : FS B w0 w v1 v2 hb ob l o h t) (hi : i < 200) (x : Bool) : FS B w0 (w.setCell ⟨ob, i, none⟩ (.bool x)) v1 v2 hb ob l o h (updB t i x) :=
  ⟨set_kept k.s k.oh _, set_kept k.o k.oh _, k.hh.keep (Below.heap_setCell _ _ _ _ k.nb), k.oh.set hi x, k.ne, k.nb, k.bh, k.bo, k.below.setCell k.bo _⟩
/-- a set has just what a row of bools says, of the first n -/
def Jst (n : Nat) (l : List Nat) (h : Nat → Bool) : Prop := l.length = (n + 63) / 64 ∧ ∀ i, bitL l i = (decide (i < n) && h i)
theorem Jst.put {n i : Nat} {l : List Nat} {h : Nat → Bool} (k : Jst n l h) (hi : i < n) : Jst n (putL l i) (updB h i true) := by
  refine ⟨by rw [putL_length]; exact k.1, fun j => ?_⟩
  rw [bit_put, k.2 j]
  unfold updB
  by_cases e : j = i
  · subst e
    rw [if_pos rfl, decide_eq_true hi, decide_eq_true ⟨rfl, by have := k.1; omega⟩]; simp
  · rw [if_neg e, decide_eq_false (p := ((i : Int) = (j : Int) ∧ j / 64 < l.length)) (by omega)]; simp
theorem Jst.out {n i : Nat} {l : List Nat} {h : Nat → Bool} (k : Jst n l h) (hi : i < n) : Jst n (outL (putL l i) i) (updB h i false) := by
  refine ⟨by rw [outL_length, putL_length]; exact k.1, fun j => ?_⟩
  rw [bit_out, (k.put hi).2 j]
  unfold updB
  by_cases e : j = i
  · subst e
    simp
  · rw [decide_eq_false (p := ((i : Int) = (j : Int))) (by omega)]; simp [e]
theorem Jst.zero (n : Nat) : Jst n (List.replicate ((n + 63) / 64) 0) (fun _ => false) := ⟨by simp, fun i => by rw [bitL_zero]; simp⟩
def anyK (h t : Nat → Bool) (k : Nat) : Bool := (List.range k).any fun i => t i && !h i
theorem anyK_succ (h t : Nat → Bool) (k : Nat) : anyK h t (k + 1) = (anyK h t k || (t k && !h k)) := by simp [anyK, List.range_succ]
theorem more_eq {n : Nat} {l o : List Nat} {h t : Nat → Bool} (k : Jst n l h) (q : Jst n o t) (hl : ∀ x ∈ l, x < 2 ^ 64) (ho : ∀ x ∈ o, x < 2 ^ 64) : moreK l o (min l.length o.length) = anyK h t n := by
  rw [Bool.eq_iff_iff, moreK_iff l o _ hl ho rfl]
  unfold anyK
  simp only [List.any_eq_true, List.mem_range, Bool.and_eq_true, Bool.not_eq_true']
  constructor
  · rintro ⟨i, h1, h2, h3⟩
    rw [q.2] at h2
    rw [k.2] at h3
    simp only [Bool.and_eq_true, decide_eq_true_eq] at h2
    rw [decide_eq_true h2.1] at h3
    exact ⟨i, h2.1, h2.2, by simpa using h3⟩
  · rintro ⟨i, h1, h2, h3⟩
    refine ⟨i, by have := k.1; omega, ?_, ?_⟩
    · rw [q.2, h2, decide_eq_true h1]; rfl
    · rw [k.2, h3, Bool.and_false]
theorem Jst.join {n : Nat} {l o : List Nat} {h t : Nat → Bool} (k : Jst n l h) (q : Jst n o t) : Jst n (joinK l o (min l.length o.length)) (fun i => h i || t i) := by
  refine ⟨by rw [joinK_length]; exact k.1, fun i => ?_⟩
  rw [bit_join _ _ _ _ rfl, k.2, q.2]
  by_cases e : i < n
  · rw [decide_eq_true e, decide_eq_true (p := i / 64 < l.length) (by have := k.1; omega)]; simp
  · rw [decide_eq_false e]; simp
theorem join_again {n : Nat} {l o : List Nat} {h t : Nat → Bool} (k : Jst n l h) (q : Jst n o t) : anyK (fun i => h i || t i) t n = false := by
  unfold anyK
  rw [List.any_eq_false]
  intro i _
  show ¬ (t i && !(h i || t i)) = true
  cases h i <;> cases t i <;> decide
/-- a slice of ints that came in: its cells -/
def IntsIn (w : World) (A : Option Addr) (n : Nat) : Prop := n ≤ 9223372036854775807 ∧ ∀ k, k < n → ∃ (ad : Addr) (x : Int), A = some ad ∧ ad.block < w.heap.size ∧ w.cell? (ad.add k) = some (.int .i64 x) ∧ In64 x
theorem below_to_grown {w w' : World} (h : Below w.heap.size w w') : w.grownBy w' none := ⟨h.os, h.tape, h.output, h.size, fun k hk _ => h.block k hk⟩
theorem SetR.below {w w' : World} {base : Nat} {v : Value} {l : List Nat} (h : SetR w base v l) (hb : Below w.heap.size w w') : SetR w' base v l :=
  own_kept h (below_to_grown hb) (by cases v.ownBlock <;> simp)
theorem SetR.base {w : World} {base B : Nat} {v : Value} {l : List Nat} (h : SetR w base v l) (hB : B ≤ base) : SetR w B v l := by
  refine ⟨⟨h.1.1, ?_⟩, h.2⟩
  rcases h.1.2 with h1 | ⟨g, cap, cur, h1, h2, h3⟩
  · exact Or.inl h1
  · exact Or.inr ⟨g, cap, cur, h1, by omega, h3⟩
theorem sets_apart {w w2 : World} {base base2 : Nat} {v v2 : Value} {l l2 : List Nat} (h : SetR w base v l) (h2 : SetR w2 base2 v2 l2) (hb : w.heap.size ≤ base2) : v2.ownBlock = none ∨ v2.ownBlock ≠ v.ownBlock := by
  cases e : v2.ownBlock with
  | none => exact Or.inl rfl
  | some g =>
    refine Or.inr (fun e2 => ?_)
    have a := h2.1.lt g e
    have b := h.1.lt g e2.symm
    omega
theorem IntsIn.at_ {w w' : World} {A : Option Addr} {n k : Nat} (h : IntsIn w A n) (hb : Below w.heap.size w w') (hk : k < n) : ∃ (ad : Addr) (x : Int), A = some ad ∧ w'.cell? (ad.add k) = some (.int .i64 x) ∧ In64 x := by
  obtain ⟨ad, x, h1, h2, h3, h4⟩ := h.2 k hk
  exact ⟨ad, x, h1, (hb.cell (p := ad.add k) (by rw [block_add]; exact h2)).trans h3, h4⟩
theorem ints_in {H : Type} {enc : TypeId × Value → H} {P : Program} {W : World} {A : Option Addr} {len C : Nat} {T : TypeId} (h : SliceAt W A len C (Rd enc P W T)) (hc : C = 1) (ht : P.underlying T = some (.int .i64)) (hl : len ≤ maxLen) : IntsIn W A len := by
  subst hc
  unfold maxLen at hl
  refine ⟨by omega, fun k hk => ?_⟩
  obtain ⟨ad, u, h1, h2, h3⟩ := h.one (Below.refl _ _) hk
  obtain ⟨x, e, hw⟩ := h3.int ht
  simp only [List.cons.injEq, and_true] at e
  subst e
  exact ⟨ad, x, h1, by have := cell_lt h2; rwa [block_add] at this, h2, in64_of hw⟩
theorem FS.more {B : Nat} {w0 w w' : World} {v1 v2 : Value} {hb ob : Nat} {l o : List Nat} {h t : Nat → Bool} (k : FS B w0 w v1 v2 hb ob l o h t) (hB : B ≤ w0.heap.size) (hb' : Below w.heap.size w w') : FS B w0 w' v1 v2 hb ob l o h t :=
  ⟨k.s.below hb', k.o.below hb', k.hh.keep (hb'.block _ k.hh.lt), k.oh.keep (hb'.block _ k.oh.lt), k.ne, k.nb, k.bh, k.bo, k.below.trans (hb'.mono (Nat.le_trans hB k.below.size))⟩
theorem FS.third {B : Nat} {w0 w w' : World} {v1 v2 v3 : Value} {hb ob : Nat} {l o l3 l4 : List Nat} {h t : Nat → Bool} (k : FS B w0 w v1 v2 hb ob l o h t) (hB : B ≤ w0.heap.size) (s3 : SetR w B v3 l3) (n1 : v3.ownBlock = none ∨ v3.ownBlock ≠ v1.ownBlock) (n2 : v3.ownBlock = none ∨ v3.ownBlock ≠ v2.ownBlock)
    (hs : SetR w' B v3 l4) (hg : w.grownBy w' v3.ownBlock) : FS B w0 w' v1 v2 hb ob l o h t :=
  ⟨own_kept k.s hg (ne_symm n1), own_kept k.o hg (ne_symm n2), bools_kept k.hh s3 hg, bools_kept k.oh s3 hg, k.ne, k.nb, k.bh, k.bo, grown_below k.below hB s3 hg⟩
theorem hasJ {n : Nat} {l : List Nat} {h : Nat → Bool} (k : Jst n l h) {i : Nat} (hi : i < n) : hasL l (i : Int) = h i := by
  unfold hasL
  rw [decide_eq_true (by omega), Int.toNat_natCast, k.2, decide_eq_true hi]; simp
theorem hasJ_no {n : Nat} {l : List Nat} {h : Nat → Bool} (k : Jst n l h) (hn : n < 200) : hasL l (-1) = false ∧ hasL l 1000 = false := by
  refine ⟨rfl, ?_⟩
  have : hasL l 1000 = bitL l 1000 := by unfold hasL; simp
  rw [this, k.2, decide_eq_false (by omega)]; rfl
end Go.Proofs.Ytcljdhpdknecjaa
