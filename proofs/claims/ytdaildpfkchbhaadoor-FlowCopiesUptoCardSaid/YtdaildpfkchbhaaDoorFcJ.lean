/- FlowCopies: (rtl.Ins).Show in the middle. No condition. -/
import Derived.Test.YtdaildpfkchbhaaDoorFcR
import Derived.Test.YtdaildpfkchbhaaDoorFcN
import Derived.Test.YtdaildpfkchbhaaDoorRk
import Derived.Deep.Cut
import Derived.Deep.CutRange
import Derived.Deep.DeepCutAuto
namespace Go.Proofs.YtdaildpfkchbhaaDoor
open Go.RowKit
set_option linter.unusedVariables false
set_option maxHeartbeats 4000000
/-- Ins.Show in the middle: the box stands, the row of words is the call's own -/
def Mid (w : World) (cs : Array Value) (l : List (List UInt8)) (v : Value) (wx : World) : Prop :=
  wx.ownsRow (w.heap.size + 1) 9 1 v l.length (sv l) ∧ Below w.heap.size w wx ∧ wx.heap[w.heap.size]? = some (.cells cs 45 (0, 0))
theorem Mid.app {w : World} {cs : Array Value} {l : List (List UInt8)} {v : Value} {wx w2 : World} (h : Mid w cs l v wx) (hb : Below wx.heap.size wx w2) (x : List UInt8) (hl : l.length ≤ 1000000000) :
    ∃ v' w', (Builtin.append_ #[60, 60] 60 #[v, .slice (some ⟨w2.heap.size, 0, none⟩) 1 1]).run Tryd.prog (w2.alloc (.cells #[.string ⟨⟨x⟩⟩] 9)) = .ok v' w' ∧ Mid w cs (l ++ [x]) v' w' ∧ w2.grownBy w' v.ownBlock := by
  obtain ⟨h1, h2, h3⟩ := h
  have hs := blk_lt h3
  have hs2 := hb.size
  have h1' := own_below h1 hb
  have h2' := below_over h2 hb
  have h3' := blk_below h3 hb
  obtain ⟨v', w', r1, r2, r3⟩ := own_str h1' x hl (by omega)
  refine ⟨v', w', r1, ⟨r2, below_of_grown h2' (Nat.le_refl _) r3 (fun j hj => ?_), blk_kept h3' r3 (own_blk h1' h3' (by decide))⟩, r3⟩
  rcases h1'.2 with ⟨rfl, e⟩ | ⟨g, cap, cur, rfl, g1, _⟩
  · cases hj
  · simp only [Value.ownBlock, Option.some.injEq] at hj; omega
theorem Mid.appB {w : World} {cs : Array Value} {l : List (List UInt8)} {v : Value} {wx w2 : World} (h : Mid w cs l v wx) (hb : Below wx.heap.size wx w2) (x : List UInt8) (B : ByteArray) (hB : B = ⟨⟨x⟩⟩) (hl : l.length ≤ 1000000000) :
    ∃ v' w', (Builtin.append_ #[60, 60] 60 #[v, .slice (some ⟨w2.heap.size, 0, none⟩) 1 1]).run Tryd.prog (w2.alloc (.cells #[.string B] 9)) = .ok v' w' ∧ Mid w cs (l ++ [x]) v' w' ∧ w2.grownBy w' v.ownBlock := by
  subst hB
  exact h.app hb x hl
theorem Mid.more {w : World} {cs : Array Value} {l : List (List UInt8)} {v : Value} {wx w2 : World} (h : Mid w cs l v wx) (hb : Below wx.heap.size wx w2) : Mid w cs l v w2 :=
  ⟨own_below h.1 hb, below_over h.2.1 hb, blk_below h.2.2 hb⟩
theorem SlR.grown {α : Type} {w w' : World} {C : Nat} {R : List Value → α → Prop} {v : Value} {xs : List α} {r : Option Nat} (h : SlR w C R v xs) (hg : w.grownBy w' r) (hd : xs = [] ∨ v.ownBlock ≠ r) : SlR w' C R v xs := by
  obtain ⟨A, cap, rfl, h2, h3, h4⟩ := h
  refine ⟨A, cap, rfl, h2, h3, fun i x hi => ?_⟩
  obtain ⟨b, o, cs, rfl, g2, g3, g4⟩ := h4 i x hi
  refine ⟨b, o, cs, rfl, g2, fun j hj => ?_, g4⟩
  have hj2 : j < cs.length := by omega
  have e := g3 j hj
  rw [List.getElem?_eq_getElem hj2] at e ⊢
  refine hg.cell e ?_
  rcases hd with rfl | hd
  · simp at hi
  · exact hd
theorem SlR.nil_of {α : Type} {w : World} {C : Nat} {R : List Value → α → Prop} {v : Value} {xs : List α} (h : SlR w C R v xs) (hn : v.ownBlock = none) : xs = [] := by
  obtain ⟨A, cap, rfl, h2, h3, h4⟩ := h
  cases xs with
  | nil => rfl
  | cons x xs =>
    obtain ⟨b, o, cs, rfl, _⟩ := h4 0 x rfl
    cases hn
theorem SlR.old {w : World} {v : Value} {al : List ArgD} (h : SlR w 2 ArgR v al) : al = [] ∨ ∃ b, v.ownBlock = some b ∧ b < w.heap.size := by
  obtain ⟨A, cap, rfl, h2, h3, h4⟩ := h
  cases al with
  | nil => exact Or.inl rfl
  | cons x xs =>
    obtain ⟨b, o, cs, rfl, g2, g3, g4⟩ := h4 0 x rfl
    refine Or.inr ⟨b, rfl, ?_⟩
    have e := g3 0 (by omega)
    rw [List.getElem?_eq_getElem (by omega)] at e
    exact World.block_lt_of_cell? _ _ e
theorem SlR.same_nil {w w' : World} {v : Value} {al bl : List ArgD} (h : SlR w 2 ArgR v al) (k : SlR w' 2 ArgR v bl) (e : al = []) : bl = [] := by
  subst e
  obtain ⟨A, cap, rfl, _⟩ := h
  obtain ⟨A', cap', e, _⟩ := k
  simp only [Value.slice.injEq] at e
  exact List.length_eq_zero_iff.1 e.2.1.symm
/-- a row of arguments that is not the row of words -/
def RA (w : World) (rv : Value) (al : List ArgD) (wx : World) : Prop :=
  SlR wx 2 ArgR rv al ∧ (al = [] ∨ (∃ b, rv.ownBlock = some b ∧ b < w.heap.size) ∨ ∃ B n xs, wx.ownsRow B 37 2 rv n xs)
theorem RA.below {w wx w2 : World} {rv : Value} {al : List ArgD} (h : RA w rv al wx) (hb : Below wx.heap.size wx w2) : RA w rv al w2 := by
  refine ⟨h.1.later (by decide) hb, ?_⟩
  rcases h.2 with h2 | h2 | ⟨B, n, xs, h2⟩
  · exact Or.inl h2
  · exact Or.inr (Or.inl h2)
  · exact Or.inr (Or.inr ⟨B, n, xs, own_below h2 hb⟩)
theorem RA.grown {w wx w2 : World} {rv v : Value} {al : List ArgD} {n : Nat} {xs : List Value} (h : RA w rv al wx) (hv : wx.ownsRow (w.heap.size + 1) 9 1 v n xs) (hg : wx.grownBy w2 v.ownBlock) : RA w rv al w2 := by
  have hne : al = [] ∨ rv.ownBlock ≠ v.ownBlock := by
    rcases h.2 with h2 | ⟨b, h2, h3⟩ | ⟨B, m, ys, h2⟩
    · exact Or.inl h2
    · refine Or.inr (fun e => ?_)
      rw [h2] at e
      rcases hv.2 with ⟨rfl, _⟩ | ⟨g, cap, cur, rfl, g1, _⟩
      · cases e
      · rw [show (Value.slice (some ⟨g, 0, none⟩) n cap).ownBlock = some g from rfl] at e; have := Option.some.inj e; omega
    · rcases own_ne h2 hv (by decide) with e | e
      · exact Or.inl (h.1.nil_of e)
      · exact Or.inr e
  refine ⟨h.1.grown hg hne, ?_⟩
  rcases h.2 with h2 | h2 | ⟨B, m, ys, h2⟩
  · exact Or.inl h2
  · exact Or.inr (Or.inl h2)
  · rcases hne with e | e
    · exact Or.inl e
    · exact Or.inr (Or.inr ⟨B, m, ys, h2.kept hg (Or.inr e)⟩)
theorem headS_le {x : InsD} (h : x.op = 22 ∨ x.op = 26 ∨ x.op = 27 → In64 (8 * x.size)) : (headS x).length ≤ 28 := by
  unfold headS
  have h1 := nameS_len x.op
  rw [List.length_append]
  by_cases hc : x.op = 22 ∨ x.op = 26 ∨ x.op = 27
  · have h2 := numS_len (h hc)
    rw [if_pos hc]
    split <;> (try split) <;> simp only [List.length_append, List.length_cons, List.length_nil] <;> omega
  · rw [if_neg hc]
    split <;> simp only [List.length_append, List.length_cons, List.length_nil] <;> omega
theorem wordsI_le {x : InsD} (hd : In64 x.dst) (hr : In64 x.ref) (ho : In64 x.off) (hs : x.op = 22 ∨ x.op = 26 ∨ x.op = 27 → In64 (8 * x.size)) (ha : ArgsIn (readsD x)) : LensLe 30 (wordsI x) := by
  intro s hm
  simp only [wordsI, List.mem_append] at hm
  have n1 := numS_len hd
  have n2 := numS_len hr
  have n3 := numS_len ho
  rcases hm with ((((hm | hm) | hm) | hm) | hm) | hm
  · unfold wordsD at hm
    split at hm
    · rw [List.mem_singleton] at hm; subst hm; rw [List.length_append, List.length_cons]; simp only [List.length_cons, List.length_nil]; omega
    · cases hm
  · rw [List.mem_singleton] at hm; subst hm; have := headS_le hs; omega
  · unfold wordsR at hm
    split at hm
    · rw [List.mem_singleton] at hm; subst hm; rw [List.length_cons]; omega
    · cases hm
  · obtain ⟨a, h1, rfl⟩ := List.mem_map.1 hm
    have := ha a h1
    have := argS_len this.1 this.2
    omega
  · unfold wordsO at hm
    split at hm
    · cases hm
    · rw [List.mem_singleton] at hm; subst hm; rw [List.length_cons]; omega
  · unfold wordsS at hm
    split at hm
    · rw [List.mem_singleton] at hm; subst hm; decide
    · cases hm
theorem wordsI_length (x : InsD) : (wordsI x).length ≤ (readsD x).length + 5 := by
  simp only [wordsI, List.length_append, wordsA, List.length_map, List.length_singleton]
  have h1 : (wordsD x).length ≤ 1 := by unfold wordsD; split <;> simp
  have h2 : (wordsR x).length ≤ 1 := by unfold wordsR; split <;> simp
  have h3 : (wordsO x).length ≤ 1 := by unfold wordsO; split <;> simp
  have h4 : (wordsS x).length ≤ 1 := by unfold wordsS; split <;> simp
  omega
theorem alloc_sz (w : World) (o : Obj) : (w.alloc o).heap.size = w.heap.size + 1 := by show (w.heap.push _).size = _; simp
theorem pre_text (c : UInt8) (n : Int) : ({ data := #[c] } ++ numB n : ByteArray) = ⟨⟨c :: numS n⟩⟩ := app_eq [c] (Lib.itoa n)
theorem dst_text (n : Int) : ({ data := #[114] } ++ numB n ++ { data := #[32, 61] } : ByteArray) = ⟨⟨114 :: numS n ++ [32, 61]⟩⟩ := by
  rw [show ({ data := #[114] } : ByteArray) = ⟨⟨[114]⟩⟩ from rfl, show ({ data := #[32, 61] } : ByteArray) = ⟨⟨[32, 61]⟩⟩ from rfl, numB, app_eq, app_eq]; rfl
end Go.Proofs.YtdaildpfkchbhaaDoor
