/- What stands in memory while flow.Live runs. No condition. -/
import Derived.Test.YtegnaeinpacafaaFl5
import Derived.Deep.Cut
import Derived.Deep.CutRange
import Derived.Deep.DeepCutAuto
namespace Go.Proofs.Ytegnaeinpacafaa
open Go.RowKit
set_option linter.unusedVariables false
set_option maxHeartbeats 1000000
/-- two rows of sets: beginnings (the first n of vs), ends (the others) -/
structure LS (W0 w : World) (B n m : Nat) (iv ov : Value) (vs : List Value) (I O : Nat → List Nat) : Prop where
  ri : w.ownsRow B 62 1 iv n (vs.take n)
  ro : w.ownsRow B 62 1 ov n (vs.drop n)
  dd : iv.ownBlock = none ∨ iv.ownBlock ≠ ov.ownBlock
  len : vs.length = 2 * n
  si : ∀ i, i < m → ∃ v : Value, vs[i]? = some v ∧ SetR w B v (I i)
  so : ∀ i, i < m → ∃ v : Value, vs[n + i]? = some v ∧ SetR w B v (O i)
  rest : ∀ i, m ≤ i → i < n → vs[i]? = some (.slice none 0 0) ∧ vs[n + i]? = some (.slice none 0 0)
  ap : ∀ (a b : Nat) (u v : Value), a ≠ b → vs[a]? = some u → vs[b]? = some v → u.ownBlock = none ∨ u.ownBlock ≠ v.ownBlock
  below : Below B W0 w
section
variable {W0 w w' : World} {B n m : Nat} {iv ov : Value} {vs : List Value} {I O : Nat → List Nat}
theorem set_below {w w' : World} {base : Nat} {v : Value} {l : List Nat} (h : SetR w base v l) (hb : Below w.heap.size w w') : SetR w' base v l :=
  own_kept (r := none) h (grown_of_below hb) (by cases v.ownBlock <;> simp)
theorem LS.more (h : LS W0 w B n m iv ov vs I O) (hB : B ≤ W0.heap.size) (hb : Below w.heap.size w w') : LS W0 w' B n m iv ov vs I O :=
  ⟨own_below h.ri hb, own_below h.ro hb, h.dd, h.len, fun i hi => let ⟨v, h1, h2⟩ := h.si i hi; ⟨v, h1, set_below h2 hb⟩, fun i hi => let ⟨v, h1, h2⟩ := h.so i hi; ⟨v, h1, set_below h2 hb⟩, h.rest, h.ap, h.below.trans (hb.mono (Nat.le_trans hB h.below.size))⟩
theorem LS.outSet (h : LS W0 w B n n iv ov vs I O) (hB : B ≤ W0.heap.size) {i : Nat} (hi : i < n) {v : Value} (hv : vs[n + i]? = some v) {l : List Nat} (h1 : SetR w' B v l) (h2 : w.grownBy w' v.ownBlock) : LS W0 w' B n n iv ov vs I (updL O i l) := by
  obtain ⟨v0, e0, hs⟩ := h.so i hi
  rw [hv] at e0
  obtain rfl := Option.some.inj e0
  refine ⟨h.ri.kept h2 (own_ne h.ri hs.1 (by decide)), h.ro.kept h2 (own_ne h.ro hs.1 (by decide)), h.dd, h.len, fun j hj => ?_, fun j hj => ?_, h.rest, h.ap, below_of_grown h.below hB h2 (fun k hk => (hs.1.lt k hk).1)⟩
  · obtain ⟨u, e, hu⟩ := h.si j hj
    exact ⟨u, e, own_kept hu h2 (h.ap j (n + i) u v (by omega) e hv)⟩
  · by_cases e : j = i
    · subst e; exact ⟨v, hv, by rw [updL_same]; exact h1⟩
    · obtain ⟨u, e2, hu⟩ := h.so j hj
      exact ⟨u, e2, by rw [updL_other _ _ e]; exact own_kept hu h2 (h.ap (n + j) (n + i) u v (by omega) e2 hv)⟩
theorem LS.inSet (h : LS W0 w B n n iv ov vs I O) (hB : B ≤ W0.heap.size) {i : Nat} (hi : i < n) {v : Value} (hv : vs[i]? = some v) {l : List Nat} (h1 : SetR w' B v l) (h2 : w.grownBy w' v.ownBlock) : LS W0 w' B n n iv ov vs (updL I i l) O := by
  obtain ⟨v0, e0, hs⟩ := h.si i hi
  rw [hv] at e0
  obtain rfl := Option.some.inj e0
  refine ⟨h.ri.kept h2 (own_ne h.ri hs.1 (by decide)), h.ro.kept h2 (own_ne h.ro hs.1 (by decide)), h.dd, h.len, fun j hj => ?_, fun j hj => ?_, h.rest, h.ap, below_of_grown h.below hB h2 (fun k hk => (hs.1.lt k hk).1)⟩
  · by_cases e : j = i
    · subst e; exact ⟨v, hv, by rw [updL_same]; exact h1⟩
    · obtain ⟨u, e2, hu⟩ := h.si j hj
      exact ⟨u, e2, by rw [updL_other _ _ e]; exact own_kept hu h2 (h.ap j i u v e e2 hv)⟩
  · obtain ⟨u, e, hu⟩ := h.so j hj
    exact ⟨u, e, own_kept hu h2 (h.ap (n + j) i u v (by omega) e hv)⟩
theorem row_cell {w : World} {B n g cap j : Nat} {T : TypeId} {xs : List Value} (h : w.ownsRow B T 1 (.slice (some ⟨g, 0, none⟩) n cap) n xs) (hj : j < n) {v : Value} (hv : xs[j]? = some v) : w.cell? ⟨g, j, none⟩ = some v ∧ w.frozen? ⟨g, j, none⟩ = false ∧ g < w.heap.size :=
  ⟨(h.cellAt j (by omega)).trans hv, h.frozenAt j, (h.lt g rfl).2⟩
theorem LS.cellI {g cap k : Nat} {v : Value} (h : LS W0 w B n m (.slice (some ⟨g, 0, none⟩) n cap) ov vs I O) (hk : k < n) (hv : vs[k]? = some v) : w.cell? ⟨g, k, none⟩ = some v ∧ w.frozen? ⟨g, k, none⟩ = false ∧ g < w.heap.size :=
  row_cell h.ri hk (by rw [List.getElem?_take, if_pos hk]; exact hv)
theorem LS.cellO {g cap k : Nat} {v : Value} (h : LS W0 w B n m iv (.slice (some ⟨g, 0, none⟩) n cap) vs I O) (hk : k < n) (hv : vs[n + k]? = some v) : w.cell? ⟨g, k, none⟩ = some v ∧ w.frozen? ⟨g, k, none⟩ = false ∧ g < w.heap.size :=
  row_cell h.ro hk (by rw [List.getElem?_drop]; exact hv)
theorem Try.infoSet : (Try.prog.info? 62).map (fun i => (i.zero, i.size, i.bytes)) = some (some (.slice none 0 0), 1, 24) := by kernel_rfl
theorem make_sets (w : World) (n : Nat) (hn : n ≤ 1000000) : ∃ w2, (Instr.makeSlice 57 (.int .i64 (n : Nat)) (.int .i64 (n : Nat))).run Try.prog w = .ok (.slice (some ⟨w.heap.size, 0, none⟩) n n) w2 ∧ w2.ownsRow w.heap.size 62 1 (.slice (some ⟨w.heap.size, 0, none⟩) n n) n (List.replicate n (.slice none 0 0)) ∧ Below w.heap.size w w2 := by
  obtain ⟨i0, hi, hz0, hz1, hz2⟩ := info_parts Try.infoSet
  obtain ⟨w2, hr, hown, hg⟩ := run_make_full (P := Try.prog) w w.heap.size 57 62 i0 (.slice none 0 0) 1 Try.underlying57 hi hz0 hz1 .i64 .i64 n (by rw [hz2]; omega) (by unfold maxLen; omega) (Nat.le_refl _)
  rw [show (Value.slice none 0 0).cells = #[.slice none 0 0] from rfl, Nat.mul_one, toList_madeCells_one] at hown
  exact ⟨w2, hr, hown, below_grown hg⟩
/-- both rows made, one behind the other -/
theorem LS.start {w1 w2 : World} {n : Nat} {v1 v2 : Value} (h1 : w1.ownsRow w.heap.size 62 1 v1 n (List.replicate n (.slice none 0 0))) (b1 : Below w.heap.size w w1)
    (h2 : w2.ownsRow w1.heap.size 62 1 v2 n (List.replicate n (.slice none 0 0))) (b2 : Below w1.heap.size w1 w2) (I O : Nat → List Nat) :
    LS w w2 w.heap.size n 0 v1 v2 (List.replicate (2 * n) (.slice none 0 0)) I O ∧ LS w w2 w.heap.size n 0 v2 v1 (List.replicate (2 * n) (.slice none 0 0)) I O := by
  have e1 : (List.replicate (2 * n) (Value.slice none 0 0)).take n = List.replicate n (.slice none 0 0) := by rw [List.take_replicate]; congr 1; omega
  have e2 : (List.replicate (2 * n) (Value.slice none 0 0)).drop n = List.replicate n (.slice none 0 0) := by rw [List.drop_replicate]; congr 1; omega
  have d : v1.ownBlock = none ∨ v1.ownBlock ≠ v2.ownBlock := by
    cases e : v1.ownBlock with
    | none => exact Or.inl rfl
    | some g => exact Or.inr (fun e2 => by have := (h1.lt g e).2; have := (h2.lt g e2.symm).1; omega)
  have a : ∀ (a b : Nat) (u v : Value), a ≠ b → (List.replicate (2 * n) (Value.slice none 0 0))[a]? = some u → (List.replicate (2 * n) (Value.slice none 0 0))[b]? = some v → u.ownBlock = none ∨ u.ownBlock ≠ v.ownBlock := by
    intro a b u v _ hu _
    have := List.eq_of_mem_replicate (List.mem_of_getElem? hu)
    subst this
    exact Or.inl rfl
  have r : ∀ i, 0 ≤ i → i < n → (List.replicate (2 * n) (Value.slice none 0 0))[i]? = some (.slice none 0 0) ∧ (List.replicate (2 * n) (Value.slice none 0 0))[n + i]? = some (.slice none 0 0) := fun i _ hi => by
    rw [List.getElem?_replicate, List.getElem?_replicate, if_pos (by omega), if_pos (by omega)]; exact ⟨rfl, rfl⟩
  have h1' := own_below h1 b2
  have h2' := own_base h2 b1.size
  exact ⟨⟨by rw [e1]; exact h1', by rw [e2]; exact h2', d, by simp, fun i hi => by omega, fun i hi => by omega, r, a, b1.bt b2⟩, ⟨by rw [e1]; exact h2', by rw [e2]; exact h1', apart_symm d, by simp, fun i hi => by omega, fun i hi => by omega, r, a, b1.bt b2⟩⟩
theorem LS.lt (h : LS W0 w B n m iv ov vs I O) : ∀ (a : Nat) (v : Value), vs[a]? = some v → ∀ g, v.ownBlock = some g → g < w.heap.size := by
  intro a v hv g hg
  have ha : a < 2 * n := by have := (List.getElem?_eq_some_iff.1 hv).1; have := h.len; omega
  by_cases h1 : a < n
  · by_cases h2 : a < m
    · obtain ⟨u, e, hu⟩ := h.si a h2
      rw [hv] at e
      obtain rfl := Option.some.inj e
      exact (hu.1.lt g hg).2
    · have := (h.rest a (by omega) h1).1
      rw [hv] at this
      obtain rfl := Option.some.inj this
      cases hg
  · obtain ⟨b, rfl⟩ : ∃ b, a = n + b := ⟨a - n, by omega⟩
    by_cases h2 : b < m
    · obtain ⟨u, e, hu⟩ := h.so b h2
      rw [hv] at e
      obtain rfl := Option.some.inj e
      exact (hu.1.lt g hg).2
    · have := (h.rest b (by omega) (by omega)).2
      rw [hv] at this
      obtain rfl := Option.some.inj this
      cases hg
theorem LS.fill {gi go ci co : Nat} {v1 v2 : Value} {l1 l2 : List Nat} {w2 : World} (h : LS W0 w B n m (.slice (some ⟨gi, 0, none⟩) n ci) (.slice (some ⟨go, 0, none⟩) n co) vs I O) (hB : B ≤ W0.heap.size) (hm : m < n)
    (s1 : SetR w2 w.heap.size v1 l1) (s2 : SetR w2 w.heap.size v2 l2) (d : v1.ownBlock = none ∨ v1.ownBlock ≠ v2.ownBlock) (b : Below w.heap.size w w2) :
    LS W0 ((w2.setCell ⟨gi, m, none⟩ v1).setCell ⟨go, m, none⟩ v2) B n (m + 1) (.slice (some ⟨gi, 0, none⟩) n ci) (.slice (some ⟨go, 0, none⟩) n co) ((vs.set m v1).set (n + m) v2) (updL I m l1) (updL O m l2) := by
  have h2 := h.more hB b
  have hne : gi ≠ go := by
    rcases h.dd with e | e
    · cases e
    · exact fun e2 => e (by rw [e2]; rfl)
  have hBw : B ≤ w.heap.size := Nat.le_trans hB h.below.size
  obtain ⟨i1, i2⟩ := h2.ri.stored m v1
  have ho1 := h2.ro.kept i2 (by rcases h.dd with e | e; cases e; exact Or.inr (fun e2 => e e2.symm))
  obtain ⟨o1, o2⟩ := ho1.stored m v2
  have hi2 := i1.kept o2 h.dd
  have hlen := h.len
  have et : ((vs.set m v1).set (n + m) v2).take n = (vs.take n).set m v1 := by rw [List.take_set, List.take_set, List.set_eq_of_length_le (by simp; omega)]
  have ed : ((vs.set m v1).set (n + m) v2).drop n = (vs.drop n).set m v2 := by rw [List.drop_set, if_neg (by omega), List.drop_set, if_pos hm]; congr 1; omega
  have keep : ∀ {v : Value} {l : List Nat} {B2 : Nat}, SetR w2 B2 v l → SetR ((w2.setCell ⟨gi, m, none⟩ v1).setCell ⟨go, m, none⟩ v2) B2 v l := by
    intro v l B2 hs
    have k1 := own_kept hs i2 (own_ne hs.1 h2.ri (by decide))
    exact own_kept k1 o2 (own_ne k1.1 ho1 (by decide))
  have at1 : ((vs.set m v1).set (n + m) v2)[m]? = some v1 := by rw [List.getElem?_set_ne (by omega), List.getElem?_set_self (by omega)]
  have at2 : ((vs.set m v1).set (n + m) v2)[n + m]? = some v2 := by rw [List.getElem?_set_self (by simp; omega)]
  have at3 : ∀ j, j ≠ m → j ≠ n + m → ((vs.set m v1).set (n + m) v2)[j]? = vs[j]? := fun j h1 h2 => by rw [List.getElem?_set_ne (Ne.symm h2), List.getElem?_set_ne (Ne.symm h1)]
  refine ⟨by rw [et]; exact hi2, by rw [ed]; exact o1, h.dd, by simp [hlen], fun j hj => ?_, fun j hj => ?_, fun j h1 h2 => ?_, ?_, ?_⟩
  · by_cases e : j = m
    · subst e; exact ⟨v1, at1, by rw [updL_same]; exact keep ⟨own_base s1.1 hBw, s1.2⟩⟩
    · obtain ⟨u, e2, hu⟩ := h2.si j (by omega)
      exact ⟨u, by rw [at3 j e (by omega)]; exact e2, by rw [updL_other _ _ e]; exact keep hu⟩
  · by_cases e : j = m
    · subst e; exact ⟨v2, at2, by rw [updL_same]; exact keep ⟨own_base s2.1 hBw, s2.2⟩⟩
    · obtain ⟨u, e2, hu⟩ := h2.so j (by omega)
      exact ⟨u, by rw [at3 (n + j) (by omega) (by omega)]; exact e2, by rw [updL_other _ _ e]; exact keep hu⟩
  · have := h.rest j (by omega) h2
    rw [at3 j (by omega) (by omega), at3 (n + j) (by omega) (by omega)]
    exact this
  · have old : ∀ {x u : Value} {a : Nat} {l : List Nat}, SetR w2 w.heap.size x l → vs[a]? = some u → x.ownBlock = none ∨ x.ownBlock ≠ u.ownBlock := by
      intro x u a l hx hu
      cases e : x.ownBlock with
      | none => exact Or.inl rfl
      | some g => exact Or.inr (fun e2 => by have := (hx.1.lt g e).1; have := h.lt a u hu g e2.symm; omega)
    intro a c u v hac hu hv
    by_cases a1 : a = m
    · subst a1
      rw [at1] at hu
      obtain rfl := Option.some.inj hu
      by_cases c2 : c = n + a
      · subst c2
        rw [at2] at hv
        obtain rfl := Option.some.inj hv
        exact d
      · rw [at3 c (Ne.symm hac) c2] at hv
        exact old s1 hv
    · by_cases a2 : a = n + m
      · subst a2
        rw [at2] at hu
        obtain rfl := Option.some.inj hu
        by_cases c1 : c = m
        · subst c1
          rw [at1] at hv
          obtain rfl := Option.some.inj hv
          exact apart_symm d
        · rw [at3 c c1 (Ne.symm hac)] at hv
          exact old s2 hv
      · rw [at3 a a1 a2] at hu
        by_cases c1 : c = m
        · subst c1
          rw [at1] at hv
          obtain rfl := Option.some.inj hv
          exact apart_symm (old s1 hu)
        · by_cases c2 : c = n + m
          · subst c2
            rw [at2] at hv
            obtain rfl := Option.some.inj hv
            exact apart_symm (old s2 hu)
          · rw [at3 c c1 c2] at hv
            exact h.ap a c u v hac hu hv
  · exact below_of_grown (below_of_grown h2.below hB i2 (fun k hk => (h2.ri.lt k hk).1)) hB o2 (fun k hk => (h2.ro.lt k hk).1)
end
end Go.Proofs.Ytegnaeinpacafaa
