/- General facts over any program: regions that draw their order, what a call may turn, blocks, a statement's step. No condition. -/
import Derived.WalkKit
import Derived.ProofKit
import Derived.OpenShut
import Derived.WalkLawsBesides
import Derived.Lib.Hide
import Derived.Handy
import Derived.Deep.LoopGhost
import Derived.Deep.RegionWith
import Derived.Deep.QuietTactic
import Derived.BigQuiet
import Derived.Deep.RegionHeld3
import Derived.Deep.RegionLaw
import Derived.Deep.DeepCutAuto
import Derived.Deep.Light
import Derived.StillTailTactics
namespace Go.Proofs.YtmmpkkpmlaiapaaGreatDoor
open Go.RowKit Go.ChangeShapes Go.WideShapes Go.ChangeAt
set_option linter.unusedVariables false
/-! A region that draws its order: its head read and called in one class of worlds, its tail in one forced order. -/
section
variable {P : Program} {ops : Array Oper} {md : Region.Mode} {C : World → Prop}

end

/-! THE CLASS: all that stood is as it was; what has been made since is left open. -/
open Classical in
noncomputable def over (B : Nat) (w x : World) : World := if Below B w x then x else w
theorem over_below (B : Nat) (w x : World) : Below B w (over B w x) := by
  unfold over; split
  · assumption
  · exact Below.refl _ _
theorem over_of {B : Nat} {w x : World} (h : Below B w x) : x = over B w x := by unfold over; rw [if_pos h]
@[go_sem] theorem over_cell {B : Nat} {w x : World} {b o : Nat} (h : b < B) : (over B w x).cell? ⟨b, o, none⟩ = w.cell? ⟨b, o, none⟩ := (over_below B w x).cell (p := ⟨b, o, none⟩) h
@[go_sem] theorem over_frozen {B : Nat} {w x : World} {b o : Nat} (h : b < B) : (over B w x).frozen? ⟨b, o, none⟩ = w.frozen? ⟨b, o, none⟩ := (over_below B w x).frozen (p := ⟨b, o, none⟩) h

section
variable {P : Program}
theorem calls_over {f : FuncId} {args : Array Value} {B : Nat} {w x : World} {v : Value} (hB : B ≤ w.heap.size)
    (h : Calls P f args (over B w x) fun e w' => e = .returned v ∧ Below (over B w x).heap.size (over B w x) w') :
    Calls P f args (over B w x) fun e w'' => e = .returned v ∧ ∃ y, w'' = over B w y :=
  h.mono fun _ w' ⟨he, hb⟩ => ⟨he, w', over_of ((over_below B w x).trans (hb.mono (Nat.le_trans hB (over_below B w x).size)))⟩
theorem wp_region_over {id : Nat} {Q : Exit → Act → World → Prop} {a : Act} {w : World} {l : List Oper} (hm : P.follows .mixedOrders = true) (hB : Region.lexB .any l.toArray = true)
    (h : wpQuiet P l.toArray (fun w' => ∃ x, w' = over w.heap.size w x) (fun a' => ∀ w', Below w.heap.size w w' → Q .normal a' w') l a) : (Code.region id l.toArray true).wp P Q a w :=
  wp_region_quiet (C := fun w' => ∃ x, w' = over w.heap.size w x) hm hB ⟨_, over_of (Below.drew (Below.refl _ _))⟩
    (by
      have : (fun a' => ∀ w', (∃ x, w' = over w.heap.size w x) → Q .normal a' w') = (fun a' => ∀ w', Below w.heap.size w w' → Q .normal a' w') := by
        funext a'; refine propext ⟨fun hh w' hb => hh w' ⟨w', over_of hb⟩, ?_⟩
        rintro hh w' ⟨x, rfl⟩; exact hh _ (over_below _ _ _)
      rw [this]; simpa using h)
end
theorem bcell {W w1 : World} (hb : Below W.heap.size W w1) : (∀ b o, b < W.heap.size → w1.cell? ⟨b, o, none⟩ = W.cell? ⟨b, o, none⟩) ∧ (∀ b o, b < W.heap.size → w1.frozen? ⟨b, o, none⟩ = W.frozen? ⟨b, o, none⟩) :=
  ⟨fun b o h => hb.cell (p := ⟨b, o, none⟩) h, fun b o h => hb.frozen (p := ⟨b, o, none⟩) h⟩
theorem _root_.Go.RowKit.Below.bt {w w1 w2 : World} (h : Below w.heap.size w w1) (k : Below w1.heap.size w1 w2) : Below w.heap.size w w2 := h.trans (k.mono h.size)
theorem below_new {w w1 : World} {o : Obj} (h : Below (w.alloc o).heap.size (w.alloc o) w1) : Below w.heap.size w w1 :=
  ((Below.refl _ _).alloc (Nat.le_refl _) _).trans (h.mono (by simp))
theorem ret_bool {a b : Bool} (h : a = b) : Ending.returned (.bool a) = .returned (.bool b) := by rw [h]
/-! WHAT A CALL MAY TURN: the blocks of a set S, and new ones. -/
structure Only (S : Nat → Prop) (w w' : World) : Prop where
  os : w'.os = w.os
  tape : w'.tape = w.tape
  output : w'.output = w.output
  size : w.heap.size ≤ w'.heap.size
  block : ∀ k, k < w.heap.size → ¬ S k → w'.heap[k]? = w.heap[k]?
theorem Only.refl (S : Nat → Prop) (w : World) : Only S w w := ⟨rfl, rfl, rfl, Nat.le_refl _, fun _ _ _ => rfl⟩
theorem Only.trans {S S' : Nat → Prop} {a b c : World} (h : Only S a b) (k : Only S' b c) (hs : ∀ k, k < a.heap.size → S' k → S k) : Only S a c :=
  ⟨k.os.trans h.os, k.tape.trans h.tape, k.output.trans h.output, Nat.le_trans h.size k.size,
    fun i hi hn => (k.block i (Nat.lt_of_lt_of_le hi h.size) (fun hh => hn (hs i hi hh))).trans (h.block i hi hn)⟩
theorem Only.mono {S S' : Nat → Prop} {a b : World} (h : Only S a b) (hs : ∀ k, k < a.heap.size → S k → S' k) : Only S' a b :=
  ⟨h.os, h.tape, h.output, h.size, fun i hi hn => h.block i hi (fun hh => hn (hs i hi hh))⟩
theorem Only.of_below {S : Nat → Prop} {a b : World} (h : Below a.heap.size a b) : Only S a b := ⟨h.os, h.tape, h.output, h.size, fun i hi _ => h.block i hi⟩
theorem Only.below {S : Nat → Prop} {B : Nat} {a b : World} (h : Only S a b) (hB : B ≤ a.heap.size) (hs : ∀ k, S k → B ≤ k) : Below B a b :=
  ⟨h.os, h.tape, h.output, h.size, fun i hi => h.block i (Nat.lt_of_lt_of_le hi hB) (fun hh => by have := hs i hh; omega)⟩
theorem Only.drew {S : Nat → Prop} {a b : World} (h : Only S a b) : Only S a b.drew := ⟨h.os, h.tape, h.output, h.size, h.block⟩
theorem Only.alloc {S : Nat → Prop} {a b : World} (h : Only S a b) (o : Obj) : Only S a (b.alloc o) :=
  h.trans (Only.of_below ((Below.refl _ _).alloc (Nat.le_refl _) o)) (fun _ _ hh => hh)
theorem Only.setCell {S : Nat → Prop} {a b : World} (h : Only S a b) {p : Addr} (hp : a.heap.size ≤ p.block ∨ S p.block) (u : Value) : Only S a (b.setCell p u) :=
  ⟨h.os, h.tape, h.output, Nat.le_trans h.size (by simp [World.setCell]), fun k hk hn => by
    rw [Below.heap_setCell _ _ _ _ (by rintro rfl; rcases hp with hp | hp; · omega
                                       · exact hn hp)]
    exact h.block k hk hn⟩
theorem Only.cell {S : Nat → Prop} {a b : World} (h : Only S a b) {p : Addr} (hp : p.block < a.heap.size) (hn : ¬ S p.block) : b.cell? p = a.cell? p := World.cell?_of_block (w := a) (h.block p.block hp hn)
theorem blk_lt {w : World} {g : Nat} {o : Obj} (h : w.heap[g]? = some o) : g < w.heap.size := by
  rcases Nat.lt_or_ge g w.heap.size with h1 | h1
  · exact h1
  · rw [Array.getElem?_eq_none h1] at h; cases h
theorem blk_new (w : World) (o : Obj) : (w.alloc o).heap[w.heap.size]? = some o := by
  show (w.heap.push _)[w.heap.size]? = _
  simp
theorem blk_alloc {w : World} {g : Nat} {o : Obj} (h : w.heap[g]? = some o) (o' : Obj) : (w.alloc o').heap[g]? = some o := by
  rw [Below.heap_alloc _ _ _ (blk_lt h)]; exact h
theorem blk_set {w : World} {g : Nat} {o : Obj} (h : w.heap[g]? = some o) {p : Addr} (hp : g ≠ p.block) (v : Value) : (w.setCell p v).heap[g]? = some o := by
  rw [Below.heap_setCell _ _ _ _ hp]; exact h
theorem blk_below {w w' : World} {g : Nat} {o : Obj} (h : w.heap[g]? = some o) (hb : Below w.heap.size w w') : w'.heap[g]? = some o := by
  rw [hb.block g (blk_lt h)]; exact h
theorem blk_cell {w : World} {g i : Nat} {cs : Array Value} {T : TypeId} {fr : Nat × Nat} {v : Value} (h : w.heap[g]? = some (.cells cs T fr)) (hi : cs[i]? = some v) : w.cell? ⟨g, i, none⟩ = some v := by
  simp [World.cell?, h, hi]
theorem blk_free {w : World} {g i : Nat} {cs : Array Value} {T : TypeId} (h : w.heap[g]? = some (.cells cs T (0, 0))) : w.frozen? ⟨g, i, none⟩ = false := by
  simp [World.frozen?, h]
theorem blk_setCell {w : World} {g i : Nat} {cs : Array Value} {T : TypeId} {fr : Nat × Nat} (h : w.heap[g]? = some (.cells cs T fr)) (v : Value) :
    (w.setCell ⟨g, i, none⟩ v).heap[g]? = some (.cells (cs.setIfInBounds i v) T fr) := by
  simp [World.setCell, Array.getElem?_modify, h]
theorem below_alloc {w w1 : World} (o : Obj) (h : Below w.heap.size w w1) : Below w.heap.size w (w1.alloc o) := h.alloc h.size o

def In64 (n : Int) : Prop := -9223372036854775808 ≤ n ∧ n ≤ 9223372036854775807
/-! An array of two ints by value, read and read again. -/
section
variable {H : Type} {enc : TypeId × Value → H} {P : Program} {w : World} {base : Nat} {spare : Nat → Bool} {held : Bool}
end
theorem ent (w : World) (o : Obj) : ∃ w0, w0 = w.alloc o ∧ RowKit.Hid (Below w.heap.size w w0) ∧ RowKit.Hid (w0.heap[w.heap.size]? = some o) := ⟨_, rfl, Lib.hid (below_alloc _ (Below.refl _ _)), Lib.hid (blk_new _ _)⟩
theorem bk {w w1 w2 : World} {g : Nat} {o : Obj} (hB : RowKit.Hid (Below w.heap.size w w1)) (hK : RowKit.Hid (w1.heap[g]? = some o)) (kb : Below w1.heap.size w1 w2) : RowKit.Hid (Below w.heap.size w w2) ∧ RowKit.Hid (w2.heap[g]? = some o) := ⟨Lib.hid (hB.out.trans (kb.mono hB.out.size)), Lib.hid (blk_below hK.out kb)⟩
theorem cl {w : World} {i : Nat} {a0 a1 a2 a3 a4 a5 a6 a7 : Value} {t : TypeId} {fr : Nat × Nat} (h : RowKit.Hid (w.heap[i]? = some (.cells #[a0, a1, a2, a3, a4, a5, a6, a7] t fr))) :
    w.cell? ⟨i, 0, none⟩ = some a0 ∧ w.cell? ⟨i, 1, none⟩ = some a1 ∧ w.cell? ⟨i, 2, none⟩ = some a2 ∧ w.cell? ⟨i, 3, none⟩ = some a3 ∧ w.cell? ⟨i, 4, none⟩ = some a4 ∧ w.cell? ⟨i, 5, none⟩ = some a5 ∧ w.cell? ⟨i, 6, none⟩ = some a6 ∧ w.cell? ⟨i, 7, none⟩ = some a7 ∧ i < w.heap.size :=
  ⟨blk_cell h.out rfl, blk_cell h.out rfl, blk_cell h.out rfl, blk_cell h.out rfl, blk_cell h.out rfl, blk_cell h.out rfl, blk_cell h.out rfl, blk_cell h.out rfl, blk_lt h.out⟩
theorem cq {w : World} {i : Nat} {a0 a1 a2 a3 a4 a5 a6 a7 : Value} {t : TypeId} {fr : Nat × Nat} (h : w.heap[i]? = some (.cells #[a0, a1, a2, a3, a4, a5, a6, a7] t fr)) :
    w.cell? ⟨i, 0, none⟩ = some a0 ∧ w.cell? ⟨i, 1, none⟩ = some a1 ∧ w.cell? ⟨i, 2, none⟩ = some a2 ∧ w.cell? ⟨i, 3, none⟩ = some a3 ∧ w.cell? ⟨i, 4, none⟩ = some a4 ∧ w.cell? ⟨i, 5, none⟩ = some a5 ∧ w.cell? ⟨i, 6, none⟩ = some a6 ∧ w.cell? ⟨i, 7, none⟩ = some a7 :=
  ⟨blk_cell h rfl, blk_cell h rfl, blk_cell h rfl, blk_cell h rfl, blk_cell h rfl, blk_cell h rfl, blk_cell h rfl, blk_cell h rfl⟩
theorem c5q {w : World} {i : Nat} {a0 a1 a2 a3 a4 : Value} {t : TypeId} {fr : Nat × Nat} (h : w.heap[i]? = some (.cells #[a0, a1, a2, a3, a4] t fr)) :
    w.cell? ⟨i, 0, none⟩ = some a0 ∧ w.cell? ⟨i, 1, none⟩ = some a1 ∧ w.cell? ⟨i, 2, none⟩ = some a2 ∧ w.cell? ⟨i, 3, none⟩ = some a3 ∧ w.cell? ⟨i, 4, none⟩ = some a4 :=
  ⟨blk_cell h rfl, blk_cell h rfl, blk_cell h rfl, blk_cell h rfl, blk_cell h rfl⟩
end Go.Proofs.YtmmpkkpmlaiapaaGreatDoor
