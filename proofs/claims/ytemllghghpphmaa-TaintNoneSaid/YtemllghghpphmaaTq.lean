/- A row of sets in memory. No condition. -/
import Derived.Test.YtemllghghpphmaaFlA
import Derived.Test.YtemllghghpphmaaRk
import Derived.Test.YtemllghghpphmaaSet
import Derived.Test.YtemllghghpphmaaTp
import Derived.Deep.Cut
import Derived.Deep.CutRange
import Derived.Deep.DeepCutAuto
namespace Go.Proofs.Ytemllghghpphmaa
open Go.RowKit
set_option linter.unusedVariables false
set_option maxHeartbeats 1000000
theorem set_below {w w' : World} {base : Nat} {v : Value} {l : List Nat} (h : SetR w base v l) (hb : Below w.heap.size w w') : SetR w' base v l :=
  own_kept (r := none) h (grown_of_below hb) (by cases v.ownBlock <;> simp)
theorem row_cell {w : World} {B n g cap j : Nat} {T : TypeId} {xs : List Value} (h : w.ownsRow B T 1 (.slice (some ⟨g, 0, none⟩) n cap) n xs) (hj : j < n) {v : Value} (hv : xs[j]? = some v) : w.cell? ⟨g, j, none⟩ = some v ∧ w.frozen? ⟨g, j, none⟩ = false ∧ g < w.heap.size :=
  ⟨(h.cellAt j (by omega)).trans hv, h.frozenAt j, (h.lt g rfl).2⟩
theorem Try.infoSet : (Try.prog.info? 47).map (fun i => (i.zero, i.size, i.bytes)) = some (some (.slice none 0 0), 1, 24) := by kernel_rfl
theorem make_sets (w : World) (n : Nat) (hn : n ≤ 1000000) : ∃ w2, (Instr.makeSlice 57 (.int .i64 (n : Nat)) (.int .i64 (n : Nat))).run Try.prog w = .ok (.slice (some ⟨w.heap.size, 0, none⟩) n n) w2 ∧ w2.ownsRow w.heap.size 47 1 (.slice (some ⟨w.heap.size, 0, none⟩) n n) n (List.replicate n (.slice none 0 0)) ∧ Below w.heap.size w w2 := by
  obtain ⟨i0, hi, hz0, hz1, hz2⟩ := info_parts Try.infoSet
  obtain ⟨w2, hr, hown, hg⟩ := run_make_full (P := Try.prog) w w.heap.size 57 47 i0 (.slice none 0 0) 1 Try.underlying57 hi hz0 hz1 .i64 .i64 n (by rw [hz2]; omega) (by unfold maxLen; omega) (Nat.le_refl _)
  rw [show (Value.slice none 0 0).cells = #[.slice none 0 0] from rfl, Nat.mul_one, toList_madeCells_one] at hown
  exact ⟨w2, hr, hown, below_grown hg⟩
/-- a row of sets, the first m of which are there -/
structure TS (W0 w : World) (B n m : Nat) (iv : Value) (vs : List Value) (I : Nat → List Nat) : Prop where
  ri : w.ownsRow B 47 1 iv n vs
  len : vs.length = n
  si : ∀ i, i < m → ∃ v : Value, vs[i]? = some v ∧ SetR w B v (I i)
  rest : ∀ i, m ≤ i → i < n → vs[i]? = some (.slice none 0 0)
  ap : ∀ (a b : Nat) (u v : Value), a ≠ b → vs[a]? = some u → vs[b]? = some v → u.ownBlock = none ∨ u.ownBlock ≠ v.ownBlock
  below : Below B W0 w
section
variable {W0 w w' : World} {B n m : Nat} {iv : Value} {vs : List Value} {I : Nat → List Nat}
theorem TS.more (h : TS W0 w B n m iv vs I) (hB : B ≤ W0.heap.size) (hb : Below w.heap.size w w') : TS W0 w' B n m iv vs I :=
  ⟨own_below h.ri hb, h.len, fun i hi => let ⟨v, h1, h2⟩ := h.si i hi; ⟨v, h1, set_below h2 hb⟩, h.rest, h.ap, h.below.trans (hb.mono (Nat.le_trans hB h.below.size))⟩
theorem TS.inSet (h : TS W0 w B n n iv vs I) (hB : B ≤ W0.heap.size) {i : Nat} (hi : i < n) {v : Value} (hv : vs[i]? = some v) {l : List Nat} (h1 : SetR w' B v l) (h2 : w.grownBy w' v.ownBlock) : TS W0 w' B n n iv vs (updL I i l) := by
  obtain ⟨v0, e0, hs⟩ := h.si i hi
  rw [hv] at e0
  obtain rfl := Option.some.inj e0
  refine ⟨h.ri.kept h2 (own_ne h.ri hs.1 (by decide)), h.len, fun j hj => ?_, h.rest, h.ap, below_of_grown h.below hB h2 (fun k hk => (hs.1.lt k hk).1)⟩
  by_cases e : j = i
  · subst e; exact ⟨v, hv, by rw [updL_same]; exact h1⟩
  · obtain ⟨u, e2, hu⟩ := h.si j hj
    exact ⟨u, e2, by rw [updL_other _ _ e]; exact own_kept hu h2 (h.ap j i u v e e2 hv)⟩
theorem TS.cell {g cap k : Nat} {v : Value} (h : TS W0 w B n m (.slice (some ⟨g, 0, none⟩) n cap) vs I) (hk : k < n) (hv : vs[k]? = some v) : w.cell? ⟨g, k, none⟩ = some v ∧ w.frozen? ⟨g, k, none⟩ = false ∧ g < w.heap.size :=
  row_cell h.ri hk hv
theorem TS.start {w2 : World} {n : Nat} {v1 : Value} (h1 : w2.ownsRow w.heap.size 47 1 v1 n (List.replicate n (.slice none 0 0))) (b1 : Below w.heap.size w w2) (I : Nat → List Nat) : TS w w2 w.heap.size n 0 v1 (List.replicate n (.slice none 0 0)) I := by
  refine ⟨h1, by simp, fun i hi => by omega, fun i _ hi => by rw [List.getElem?_replicate, if_pos hi], ?_, b1⟩
  intro a b u v _ hu _
  have := List.eq_of_mem_replicate (List.mem_of_getElem? hu)
  subst this
  exact Or.inl rfl
theorem TS.lt (h : TS W0 w B n m iv vs I) : ∀ (a : Nat) (v : Value), vs[a]? = some v → ∀ g, v.ownBlock = some g → g < w.heap.size := by
  intro a v hv g hg
  have ha : a < n := by have := (List.getElem?_eq_some_iff.1 hv).1; have := h.len; omega
  by_cases h2 : a < m
  · obtain ⟨u, e, hu⟩ := h.si a h2
    rw [hv] at e
    obtain rfl := Option.some.inj e
    exact (hu.1.lt g hg).2
  · have := h.rest a (by omega) ha
    rw [hv] at this
    obtain rfl := Option.some.inj this
    cases hg
theorem TS.fill {gi ci : Nat} {v1 : Value} {l1 : List Nat} {w2 : World} (h : TS W0 w B n m (.slice (some ⟨gi, 0, none⟩) n ci) vs I) (hB : B ≤ W0.heap.size) (hm : m < n) (s1 : SetR w2 w.heap.size v1 l1) (b : Below w.heap.size w w2) :
    TS W0 (w2.setCell ⟨gi, m, none⟩ v1) B n (m + 1) (.slice (some ⟨gi, 0, none⟩) n ci) (vs.set m v1) (updL I m l1) := by
  have h2 := h.more hB b
  have hBw : B ≤ w.heap.size := Nat.le_trans hB h.below.size
  obtain ⟨i1, i2⟩ := h2.ri.stored m v1
  have hlen := h.len
  have keep : ∀ {v : Value} {l : List Nat} {B2 : Nat}, SetR w2 B2 v l → SetR (w2.setCell ⟨gi, m, none⟩ v1) B2 v l := fun hs => own_kept hs i2 (own_ne hs.1 h2.ri (by decide))
  have at1 : (vs.set m v1)[m]? = some v1 := by rw [List.getElem?_set_self (by omega)]
  have at3 : ∀ j, j ≠ m → (vs.set m v1)[j]? = vs[j]? := fun j h1 => by rw [List.getElem?_set_ne (Ne.symm h1)]
  have old : ∀ {x u : Value} {a : Nat} {l : List Nat}, SetR w2 w.heap.size x l → vs[a]? = some u → x.ownBlock = none ∨ x.ownBlock ≠ u.ownBlock := by
    intro x u a l hx hu
    cases e : x.ownBlock with
    | none => exact Or.inl rfl
    | some g => exact Or.inr (fun e2 => by have := (hx.1.lt g e).1; have := h.lt a u hu g e2.symm; omega)
  refine ⟨i1, by simp [hlen], fun j hj => ?_, fun j h1 h2' => ?_, ?_, ?_⟩
  · by_cases e : j = m
    · subst e; exact ⟨v1, at1, by rw [updL_same]; exact keep ⟨own_base s1.1 hBw, s1.2⟩⟩
    · obtain ⟨u, e2, hu⟩ := h2.si j (by omega)
      exact ⟨u, by rw [at3 j e]; exact e2, by rw [updL_other _ _ e]; exact keep hu⟩
  · rw [at3 j (by omega)]; exact h.rest j (by omega) h2'
  · intro a b u v hab hu hv
    by_cases ea : a = m
    · subst ea
      rw [at1] at hu
      obtain rfl := Option.some.inj hu
      rw [at3 b (Ne.symm hab)] at hv
      exact old s1 hv
    · rw [at3 a ea] at hu
      by_cases eb : b = m
      · subst eb
        rw [at1] at hv
        obtain rfl := Option.some.inj hv
        exact apart_symm (old s1 hu)
      · rw [at3 b eb] at hv
        exact h.ap a b u v hab hu hv
  · exact below_of_grown h2.below hB i2 (fun k hk => (h.ri.lt k hk).1)
end
end Go.Proofs.Ytemllghghpphmaa
