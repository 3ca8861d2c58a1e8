/- The walk of FlowReached. No condition. -/
import Derived.Test.YtcljdhpdknecjaaFl2
import Derived.Test.YtcljdhpdknecjaaRn
import Derived.Test.YtcljdhpdknecjaaFit11
namespace Go.Proofs.Ytcljdhpdknecjaa
open Go.RowKit
set_option linter.unusedVariables false
set_option maxHeartbeats 1000000
def bv (l : List Bool) : List Value := l.map Value.bool
/-- a slice's value owns these bools -/
def OwnB (w : World) (base : Nat) (v : Value) (l : List Bool) : Prop := w.ownsRow base 4 1 v l.length (bv l)
theorem OwnB.cell {w : World} {base g n cap j : Nat} {l : List Bool} (h : OwnB w base (.slice (some ⟨g, 0, none⟩) n cap) l) (hj : j < l.length) (x : Bool) (hx : l[j]? = some x) : w.cell? ⟨g, j, none⟩ = some (.bool x) ∧ w.frozen? ⟨g, j, none⟩ = false := by
  have hn : n = l.length := by
    rcases h.2 with ⟨e, _⟩ | ⟨_, _, _, e, _⟩
    · cases e
    · cases e; rfl
  subst hn
  exact ⟨(World.ownsRow.cellAt h j (by omega)).trans (by simp [bv, hx]), World.ownsRow.frozenAt h j⟩
theorem OwnB.set {w : World} {base g n cap j : Nat} {l : List Bool} (h : OwnB w base (.slice (some ⟨g, 0, none⟩) n cap) l) (x : Bool) :
    OwnB (w.setCell ⟨g, j, none⟩ (.bool x)) base (.slice (some ⟨g, 0, none⟩) n cap) (l.set j x) ∧ w.grownBy (w.setCell ⟨g, j, none⟩ (.bool x)) (some g) := by
  have hn : n = l.length := by
    rcases h.2 with ⟨e, _⟩ | ⟨_, _, _, e, _⟩
    · cases e
    · cases e; rfl
  subst hn
  obtain ⟨h1, h2⟩ := World.ownsRow.stored h j (.bool x)
  have e : (bv l).set j (.bool x) = bv (l.set j x) := by simp [bv, List.map_set]
  rw [e] at h1
  exact ⟨by unfold OwnB; rw [List.length_set]; exact h1, h2⟩
theorem Try.infoBool : (Try.prog.info? 4).map (fun i => (i.zero, i.size, i.bytes)) = some (some (.bool false), 1, 1) := by kernel_rfl
theorem make_bools (w : World) (n : Nat) (hn : n ≤ 1000000) : ∃ w2, (Instr.makeSlice 38 (.int .i64 (n : Nat)) (.int .i64 (n : Nat))).run Try.prog w = .ok (.slice (some ⟨w.heap.size, 0, none⟩) n n) w2 ∧ OwnB w2 w.heap.size (.slice (some ⟨w.heap.size, 0, none⟩) n n) (List.replicate n false) ∧ Below w.heap.size w w2 := by
  obtain ⟨i0, hi, hz0, hz1, hz2⟩ := info_parts Try.infoBool
  obtain ⟨w2, hr, hown, hg⟩ := run_make_full (P := Try.prog) w w.heap.size 38 4 i0 (.bool false) 1 Try.underlying38 hi hz0 hz1 .i64 .i64 n (by rw [hz2]; omega) (by unfold maxLen; omega) (Nat.le_refl _)
  rw [show (Value.bool false).cells = #[.bool false] from rfl, Nat.mul_one, toList_madeCells_one] at hown
  refine ⟨w2, hr, ?_, below_grown hg⟩
  unfold OwnB
  rw [List.length_replicate, show bv (List.replicate n false) = List.replicate n (.bool false) by simp [bv]]
  exact hown
/-- where ways lead, as far as they have been gone -/
structure AtS (nx : Nat → List Int) (n t : Nat) (l : List Bool) : Prop where
  len : l.length = n
  way : ∀ i, l[i]? = some true → Way nx i
  all : ∀ i, WayIn nx t i → l[i]? = some true
/-- .. in round t, the first i gone on from -/
structure AtI (nx : Nat → List Int) (n t i : Nat) (l : List Bool) : Prop extends AtS nx n t l where
  on : ∀ x, x < i → WayIn nx t x → ∀ k ∈ nx x, l[k.toNat]? = some true
theorem set_true {l : List Bool} {i k : Nat} (h : l[i]? = some true) : (l.set k true)[i]? = some true := by
  by_cases e : k = i
  · subst e; rw [List.getElem?_set_self (List.getElem?_eq_some_iff.1 h).1]
  · rw [List.getElem?_set_ne e]; exact h
theorem AtI.put {nx : Nat → List Int} {n t i k : Nat} {l : List Bool} (h : AtI nx n t i l) (hk : Way nx k) : AtI nx n t i (l.set k true) :=
  ⟨⟨by simp [h.len], fun j hj => by
    by_cases e : k = j
    · subst e; exact hk
    · rw [List.getElem?_set_ne e] at hj; exact h.way j hj, fun j hj => set_true (h.all j hj)⟩, fun x hx hw k hk => set_true (h.on x hx hw k hk)⟩
theorem AtI.skip {nx : Nat → List Int} {n t i : Nat} {l : List Bool} (h : AtI nx n t i l) (hno : l[i]? = some false) : AtI nx n t (i + 1) l :=
  ⟨h.toAtS, fun x hx hw k hk => by
    by_cases e : x = i
    · subst e; have := h.all x hw; rw [hno] at this; cases this
    · exact h.on x (by omega) hw k hk⟩
theorem AtI.next {nx : Nat → List Int} {n t i : Nat} {l : List Bool} (h : AtI nx n t i l) (hall : ∀ k ∈ nx i, l[k.toNat]? = some true) : AtI nx n t (i + 1) l :=
  ⟨h.toAtS, fun x hx hw k hk => by
    by_cases e : x = i
    · subst e; exact hall k hk
    · exact h.on x (by omega) hw k hk⟩
theorem AtS.begin {nx : Nat → List Int} {n t : Nat} {l : List Bool} (h : AtS nx n t l) : AtI nx n t 0 l := ⟨h, fun x hx => by omega⟩
theorem AtI.end_ {nx : Nat → List Int} {n t : Nat} {l : List Bool} (h : AtI nx n t n l) : AtS nx n (t + 1) l :=
  ⟨h.len, h.way, fun i hi => by
    rcases hi with hi | ⟨x, hx, hk⟩
    · exact h.all i hi
    · have h1 := (List.getElem?_eq_some_iff.1 (h.all x hx)).1
      have h2 := h.len
      exact h.on x (by omega) hx i hk⟩
theorem AtS.start (nx : Nat → List Int) {n : Nat} (h0 : 0 < n) : AtS nx n 0 ((List.replicate n false).set 0 true) :=
  ⟨by simp, fun i hi => by
    by_cases e : 0 = i
    · subst e; exact .start
    · rw [List.getElem?_set_ne e] at hi
      have := List.eq_of_mem_replicate (List.mem_of_getElem? hi)
      exact absurd this (by decide), fun i hi => by
    cases (show i = 0 from hi)
    rw [List.getElem?_set_self (by simpa using h0)]⟩
theorem AtS.done {nx : Nat → List Int} {n : Nat} {l : List Bool} (h : AtS nx n n l) (h0 : 0 < n) (hnx : ∀ i k, i < n → k ∈ nx i → 0 ≤ k ∧ k < n) {s : Nat → Bool} (hs : ∀ i, s i = true ↔ Way nx i) {i : Nat} (hi : i < n) : l[i]? = some (s i) := by
  have hl := h.len
  cases e : s i
  · rw [List.getElem?_eq_getElem (by omega)]
    congr 1
    rw [Bool.eq_false_iff]
    intro ht
    have := h.way i (by rw [List.getElem?_eq_getElem (by omega), ht])
    rw [(hs i).2 this] at e; cases e
  · exact h.all i (wayIn_all h0 hnx ((hs i).1 e))
theorem befL_succ (nx : Nat → List Int) (m i : Nat) : befL nx (m + 1) i = if (i : Int) ∈ nx m then befL nx m i ++ [(m : Int)] else befL nx m i := by
  unfold befL
  rw [List.range_succ, List.filter_append, List.map_append]
  by_cases h : (i : Int) ∈ nx m
  · simp [h]
  · simp [h]
end Go.Proofs.Ytcljdhpdknecjaa
