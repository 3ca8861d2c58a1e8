/- FlowCopies: rows of structs that a call built: what stands in them, what a store leaves. No condition. -/
import Derived.Test.YtdaildpfkchbhaaDoorFcK
import Derived.Test.YtdaildpfkchbhaaDoorFcS
import Derived.Test.YtdaildpfkchbhaaDoorPdC
namespace Go.Proofs.YtdaildpfkchbhaaDoor
open Go.RowKit
set_option linter.unusedVariables false
theorem grown_set (w : World) (b j : Nat) (v : Value) : w.grownBy (w.setCell ⟨b, j, none⟩ v) (some b) := ⟨rfl, rfl, rfl, by simp [World.setCell], fun k hk hne => Below.heap_setCell w ⟨b, j, none⟩ v k (fun e => hne (by rw [e]))⟩
theorem below_set {B : Nat} {w0 w : World} (h : Below B w0 w) (g j : Nat) (v : Value) (hB : B ≤ g) : Below B w0 (w.setCell ⟨g, j, none⟩ v) :=
  ⟨h.os, h.tape, h.output, by simpa [World.setCell] using h.size, fun k hk => (Below.heap_setCell w ⟨g, j, none⟩ v k (fun e => by have : k = g := e; omega)).trans (h.block k hk)⟩
theorem SlR.imp' {α : Type} {w : World} {C : Nat} {R R' : List Value → α → Prop} {v : Value} {xs : List α} (h : SlR w C R v xs) (hi : ∀ cs x, R cs x → R' cs x) : SlR w C R' v xs := by
  obtain ⟨A, cap, rfl, h2, h3, h4⟩ := h
  refine ⟨A, cap, rfl, h2, h3, fun i x hx => ?_⟩
  obtain ⟨b, o, cs, e1, e2, e3, e4⟩ := h4 i x hx
  exact ⟨b, o, cs, e1, e2, e3, hi _ _ e4⟩
theorem InsR.later {w w' : World} {cs : List Value} {x : InsD} (h : InsR w cs x) (hb : Below w.heap.size w w') : InsR w' cs x := by
  obtain ⟨va, h0, h1, h2, h3, h4, h5, h6, h7, h8, h9, h10, h11⟩ := h
  exact ⟨va, h0, h1, h2, h3, h4, h5, h6, h7, h8, h9, h10.later (by decide) hb, h11⟩
theorem BlockR.later {w w' : World} {cs : List Value} {x : BlockD} (h : BlockR w cs x) (hb : Below w.heap.size w w') : BlockR w' cs x := by
  obtain ⟨vi, h0, h1, h2⟩ := h
  exact ⟨vi, h0, (h1.later (by decide) hb).imp' (fun cs x h => InsR.later h hb), h2⟩
theorem FuncR.later {w w' : World} {cs : List Value} {x : FuncD} (h : FuncR w cs x) (hb : Below w.heap.size w w') : FuncR w' cs x := by
  obtain ⟨vs, vl, vb, h0, h1, h2, h3, h4, h5, h6, h7, h8, h9⟩ := h
  exact ⟨vs, vl, vb, h0, h1, h2, h3.later (by decide) hb, h4, h5, h6.later (by decide) hb, h7, (h8.later (by decide) hb).imp' (fun cs x h => BlockR.later h hb), h9⟩
def insL (x : InsD) (va : Value) : List Value := [.int .i64 x.op, .int .i64 x.dst, .int .i64 x.a.reg, .int .i64 x.a.num, .int .i64 x.b.reg, .int .i64 x.b.num, .int .i64 x.size, .bool x.signed, .bool x.secret, .int .i64 x.ref, .int .i64 x.off, va]
def blkL (b : BlockD) (vi : Value) : List Value := [vi, .int .i64 b.term.kind, .int .i64 b.term.op, .int .i64 b.term.a.reg, .int .i64 b.term.a.num, .int .i64 b.term.b.reg, .int .i64 b.term.b.num, .int .i64 b.term.to_, .int .i64 b.term.els]
/-- what a row of one's own has for cells -/
theorem own_cells {w : World} {B C n : Nat} {T : TypeId} {v : Value} {xs : List Value} (h : w.ownsRow B T C v n xs) : (v = .slice none 0 0 ∧ n = 0) ∨ ∃ g cap cur, v = .slice (some ⟨g, 0, none⟩) n cap ∧ B ≤ g ∧ w.heap[g]? = some (.cells cur T (0, 0)) ∧ n ≤ cap ∧ cap ≤ maxLen ∧ cur.size = cap * C ∧ ∀ i, i < n * C → cur[i]? = xs[i]? := by
  rcases h.2 with h1 | ⟨g, cap, cur, h1, h2, h3, h4, h5, h6, h7⟩
  · exact Or.inl h1
  · refine Or.inr ⟨g, cap, cur, h1, h2, h3, h4, h5, h6, fun i hi => ?_⟩
    rw [← h7, List.getElem?_take, if_pos hi, Array.getElem?_toList]
/-- a row of instructions; the first k have arguments of their own, the others those of w0 -/
def NewI (w0 w : World) (B : Nat) (v : Value) (ins : List InsD) (k : Nat) : Prop :=
  ∃ A c, v = .slice A ins.length c ∧ ins.length ≤ c ∧ c ≤ maxLen ∧ (ins = [] ∨ ∃ g cur, A = some ⟨g, 0, none⟩ ∧ B ≤ g ∧ w.heap[g]? = some (.cells cur 45 (0, 0)) ∧
    ∀ i x, ins[i]? = some x → ∃ va, (∀ j, j < 12 → cur[i * 12 + j]? = (insL x va)[j]?) ∧ (i < k → w.ownsRow B 37 2 va x.args.length (flatA x.args)) ∧ (k ≤ i → SlR w0 2 ArgR va x.args))
theorem NewI.base {w0 w : World} {B B' : Nat} {v : Value} {ins : List InsD} {k : Nat} (h : NewI w0 w B v ins k) (hB : B' ≤ B) : NewI w0 w B' v ins k := by
  obtain ⟨A, c, h1, h2, h3, h4⟩ := h
  refine ⟨A, c, h1, h2, h3, ?_⟩
  rcases h4 with h4 | ⟨g, cur, e1, e2, e3, e4⟩
  · exact Or.inl h4
  · refine Or.inr ⟨g, cur, e1, by omega, e3, fun i x hx => ?_⟩
    obtain ⟨va, f1, f2, f3⟩ := e4 i x hx
    exact ⟨va, f1, fun hk => own_base (f2 hk) hB, f3⟩
/-- memory that is the same but for one block of another type -/
theorem NewI.kept {w0 w w' : World} {B : Nat} {v : Value} {ins : List InsD} {k : Nat} {r : Option Nat} (h : NewI w0 w B v ins k) (hg : w.grownBy w' r)
    (hr : ∀ b, r = some b → b < w.heap.size → ∃ cur T fr, w.heap[b]? = some (.cells cur T fr) ∧ T ≠ 45 ∧ T ≠ 37) : NewI w0 w' B v ins k := by
  obtain ⟨A, c, h1, h2, h3, h4⟩ := h
  refine ⟨A, c, h1, h2, h3, ?_⟩
  rcases h4 with h4 | ⟨g, cur, e1, e2, e3, e4⟩
  · exact Or.inl h4
  · refine Or.inr ⟨g, cur, e1, e2, ?_, fun i x hx => ?_⟩
    · refine (hg.block g (blk_lt e3) (fun e => ?_)).trans e3
      obtain ⟨c2, T, fr, q1, q2, _⟩ := hr g e.symm (blk_lt e3)
      rw [e3] at q1
      simp only [Option.some.injEq, Obj.cells.injEq] at q1
      exact q2 q1.2.1.symm
    · obtain ⟨va, f1, f2, f3⟩ := e4 i x hx
      refine ⟨va, f1, fun hk => (f2 hk).kept hg ?_, f3⟩
      rcases own_cells (f2 hk) with ⟨rfl, _⟩ | ⟨g2, cap2, cur2, rfl, _, q3, _⟩
      · exact Or.inl rfl
      · refine Or.inr (fun e => ?_)
        obtain ⟨c2, T, fr, q1, _, q2⟩ := hr g2 e.symm (blk_lt q3)
        rw [q3] at q1
        simp only [Option.some.injEq, Obj.cells.injEq] at q1
        exact q2 q1.2.1.symm
theorem newI_slR {w0 w : World} {B : Nat} {v : Value} {ins : List InsD} (h : NewI w0 w B v ins ins.length) (hin : ∀ x ∈ ins, InsIn x ∧ x.args.length ≤ 140737488351232) : SlR w 12 (InsR w) v ins := by
  obtain ⟨A, c, h1, h2, h3, h4⟩ := h
  refine ⟨A, c, h1, h2, h3, fun i x hx => ?_⟩
  rcases h4 with rfl | ⟨g, cur, e1, e2, e3, e4⟩
  · simp at hx
  · obtain ⟨va, f1, f2, f3⟩ := e4 i x hx
    obtain ⟨⟨k1, k2, ⟨k3, k4⟩, ⟨k5, k6⟩, k7, k8, k9, k10⟩, k11⟩ := hin x (List.mem_of_getElem? hx)
    have hil := (List.getElem?_eq_some_iff.1 hx).1
    refine ⟨g, 0, insL x va, e1, rfl, fun j hj => ?_, va, rfl, k1, k2, k3, k4, k5, k6, k7, k8, k9, own_slR (f2 hil) rfl k10, k11⟩
    rw [Nat.zero_add]
    have := f1 j hj
    rw [List.getElem?_eq_getElem (show j < (insL x va).length from hj)] at this ⊢
    exact blk_cell e3 this
/-- one more has arguments of its own -/
theorem NewI.put {w0 w w1 : World} {B g c m k : Nat} {ins : List InsD} {x : InsD} {va : Value} (h : NewI w0 w B (.slice (some ⟨g, 0, none⟩) m c) ins k) (hb : Below w.heap.size w w1) (hx : ins[k]? = some x) (ho : w1.ownsRow B 37 2 va x.args.length (flatA x.args)) :
    NewI w0 (w1.setCell ⟨g, k * 12 + 11, none⟩ va) B (.slice (some ⟨g, 0, none⟩) m c) ins (k + 1) := by
  obtain ⟨A, c, h1, h2, h3, h4⟩ := h
  refine ⟨A, c, h1, h2, h3, ?_⟩
  rcases h4 with rfl | ⟨g', cur, e1, e2, e3, e4⟩
  · simp at hx
  · simp only [Value.slice.injEq] at h1
    obtain ⟨hA, hm, _⟩ := h1
    rw [e1] at hA
    obtain rfl : g = g' := by simpa using hA
    refine Or.inr ⟨g, _, e1, e2, blk_setCell (blk_below e3 hb) va, fun i y hy => ?_⟩
    obtain ⟨vb, f1, f2, f3⟩ := e4 i y hy
    have hgs := grown_set w1 g (k * 12 + 11) va
    have hgne : ∀ {v2 : Value} {n2 : Nat} {l2 : List Value}, w1.ownsRow B 37 2 v2 n2 l2 → v2.ownBlock = none ∨ v2.ownBlock ≠ some g := fun ho2 => own_blk ho2 (blk_below e3 hb) (by decide)
    by_cases hik : i = k
    · subst hik
      rw [hx] at hy
      obtain rfl := Option.some.inj hy
      refine ⟨va, fun j hj => ?_, fun _ => ho.kept hgs (hgne ho), fun h => by omega⟩
      have hs : i * 12 + 11 < cur.size := by
        have := f1 11 (by omega)
        rw [show (insL x vb)[11]? = some vb from rfl] at this
        exact (Array.getElem?_eq_some_iff.1 this).1
      rw [Array.getElem?_setIfInBounds]
      by_cases hj11 : j = 11
      · subst hj11
        rw [if_pos rfl, if_pos hs]; rfl
      · rw [if_neg (by omega), f1 j hj]
        match j, hj, hj11 with
        | 0, _, _ => rfl
        | 1, _, _ => rfl
        | 2, _, _ => rfl
        | 3, _, _ => rfl
        | 4, _, _ => rfl
        | 5, _, _ => rfl
        | 6, _, _ => rfl
        | 7, _, _ => rfl
        | 8, _, _ => rfl
        | 9, _, _ => rfl
        | 10, _, _ => rfl
        | 11, _, h => exact absurd rfl h
    · refine ⟨vb, fun j hj => ?_, fun hlt => ?_, fun hge => f3 (by omega)⟩
      · rw [Array.getElem?_setIfInBounds, if_neg (by omega), f1 j hj]
      · have h5 := own_below (f2 (by omega)) hb
        exact h5.kept hgs (hgne h5)
/-- a row of blocks -/
def RowB (w : World) (B g : Nat) (bs : List BlockD) (Pr : Nat → Value → BlockD → Prop) : Prop :=
  ∃ cur, B ≤ g ∧ w.heap[g]? = some (.cells cur 41 (0, 0)) ∧ ∀ i b, bs[i]? = some b → ∃ vi, (∀ j, j < 9 → cur[i * 9 + j]? = (blkL b vi)[j]?) ∧ Pr i vi b
theorem RowB.kept {w0 w w' : World} {B g : Nat} {bs : List BlockD} {r : Option Nat} (h : RowB w B g bs (fun _ vi b => NewI w0 w B vi b.ins b.ins.length)) (hg : w.grownBy w' r)
    (hr : ∀ b, r = some b → b < w.heap.size → ∃ cur T fr, w.heap[b]? = some (.cells cur T fr) ∧ T ≠ 41 ∧ T ≠ 45 ∧ T ≠ 37) : RowB w' B g bs (fun _ vi b => NewI w0 w' B vi b.ins b.ins.length) := by
  obtain ⟨cur, h1, h2, h3⟩ := h
  refine ⟨cur, h1, (hg.block g (blk_lt h2) (fun e => ?_)).trans h2, fun i b hb => ?_⟩
  · obtain ⟨c2, T, fr, q1, q2, _⟩ := hr g e.symm (blk_lt h2)
    rw [h2] at q1
    simp only [Option.some.injEq, Obj.cells.injEq] at q1
    exact q2 q1.2.1.symm
  · obtain ⟨vi, f1, f2⟩ := h3 i b hb
    exact ⟨vi, f1, f2.kept hg (fun b hb hl => by obtain ⟨c, T, fr, k1, _, k2, k3⟩ := hr b hb hl; exact ⟨c, T, fr, k1, k2, k3⟩)⟩
/-- one more block has instructions of its own -/
theorem rowB_next {w0 wq w : World} {B g k : Nat} {cur : Array Value} {bs : List BlockD} {b : BlockD} {v7 : Value} (hB : B ≤ g) (hb : bs[k]? = some b) (hs : B ≤ wq.heap.size) (hg : w.heap[g]? = some (.cells (cur.setIfInBounds (k * 9) v7) 41 (0, 0)))
    (h3 : ∀ i b, bs[i]? = some b → ∃ vi, (∀ j, j < 9 → cur[i * 9 + j]? = (blkL b vi)[j]?) ∧ (i < k → NewI w0 wq B vi b.ins b.ins.length) ∧ (k ≤ i → SlR w0 12 (InsR w0) vi b.ins))
    (hn : NewI w0 w wq.heap.size v7 b.ins b.ins.length) (hgr : wq.grownBy w (some g)) (hgq : ∃ c fr, wq.heap[g]? = some (.cells c 41 fr)) :
    RowB w B g bs (fun i vi b => (i < k + 1 → NewI w0 w B vi b.ins b.ins.length) ∧ (k + 1 ≤ i → SlR w0 12 (InsR w0) vi b.ins)) := by
  refine ⟨_, hB, hg, fun i c hc => ?_⟩
  obtain ⟨vi, f1, f2, f3⟩ := h3 i c hc
  by_cases hik : i = k
  · subst hik
    rw [hb] at hc
    obtain rfl := Option.some.inj hc
    refine ⟨v7, fun j hj => ?_, fun _ => hn.base hs, fun h => by omega⟩
    have hsz := (Array.getElem?_eq_some_iff.1 (f1 0 (by omega))).1
    rw [Array.getElem?_setIfInBounds]
    by_cases h0 : j = 0
    · subst h0
      rw [Nat.add_zero] at hsz ⊢; rw [if_pos rfl, if_pos hsz]; rfl
    · rw [if_neg (by omega), f1 j hj]
      match j, hj, h0 with
      | 0, _, h => exact absurd rfl h
      | 1, _, _ => rfl
      | 2, _, _ => rfl
      | 3, _, _ => rfl
      | 4, _, _ => rfl
      | 5, _, _ => rfl
      | 6, _, _ => rfl
      | 7, _, _ => rfl
      | 8, _, _ => rfl
  · refine ⟨vi, fun j hj => ?_, fun h => (f2 (by omega)).kept hgr (fun x hx _ => ?_), fun h => f3 (by omega)⟩
    · rw [Array.getElem?_setIfInBounds, if_neg (by omega), f1 j hj]
    · obtain ⟨c, fr, hq⟩ := hgq
      cases hx
      exact ⟨c, _, fr, hq, by decide, by decide⟩
theorem rowB_slR {w0 w : World} {B g cap : Nat} {bs : List BlockD} (h : RowB w B g bs (fun _ vi b => NewI w0 w B vi b.ins b.ins.length)) (hl : bs.length ≤ cap) (hc : cap ≤ maxLen) (hin : ∀ b ∈ bs, (∀ x ∈ b.ins, InsIn x ∧ x.args.length ≤ 140737488351232) ∧ TermIn b.term ∧ b.ins.length ≤ 140737488351232) :
    SlR w 9 (BlockR w) (.slice (some ⟨g, 0, none⟩) bs.length cap) bs := by
  obtain ⟨cur, h1, h2, h3⟩ := h
  refine ⟨_, cap, rfl, hl, hc, fun i b hb => ?_⟩
  obtain ⟨vi, f1, f2⟩ := h3 i b hb
  obtain ⟨k1, ⟨t1, t2, ⟨t3, t4⟩, ⟨t5, t6⟩, t7, t8⟩, k3⟩ := hin b (List.mem_of_getElem? hb)
  refine ⟨g, 0, blkL b vi, rfl, rfl, fun j hj => ?_, vi, rfl, newI_slR f2 k1, k3, t1, t2, t3, t4, t5, t6, t7, t8⟩
  rw [Nat.zero_add]
  have := f1 j hj
  rw [List.getElem?_eq_getElem (show j < (blkL b vi).length from hj)] at this ⊢
  exact blk_cell h2 this
end Go.Proofs.YtdaildpfkchbhaaDoor
