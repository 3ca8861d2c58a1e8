/- Plain facts: ways in a graph of n nodes, from number 0 on. No condition. -/
namespace Go.Proofs.Ytemllghghpphmaa
/-- so many of the first n meet p -/
def cnt (p : Nat → Bool) : Nat → Nat
  | 0 => 0
  | n + 1 => cnt p n + (if p n then 1 else 0)
theorem cnt_le (p : Nat → Bool) : ∀ n, cnt p n ≤ n
  | 0 => Nat.le_refl _
  | n + 1 => by have := cnt_le p n; unfold cnt; split <;> omega
theorem cnt_mono {p q : Nat → Bool} : ∀ n, (∀ i, i < n → p i = true → q i = true) → cnt p n ≤ cnt q n
  | 0, _ => Nat.le_refl _
  | n + 1, h => by
    have h1 := cnt_mono n (fun i hi => h i (by omega))
    have h2 := h n (by omega)
    unfold cnt
    by_cases e : p n = true
    · rw [if_pos e, if_pos (h2 e)]; omega
    · rw [if_neg e]; split <;> omega
theorem cnt_lt {p q : Nat → Bool} : ∀ n, (∀ i, i < n → p i = true → q i = true) → (∃ i, i < n ∧ q i = true ∧ p i = false) → cnt p n < cnt q n
  | 0, _, h => by obtain ⟨i, h, _⟩ := h; omega
  | n + 1, h, hx => by
    obtain ⟨i, h1, h2, h3⟩ := hx
    have hm := cnt_mono n (fun i hi => h i (by omega))
    have hn := h n (by omega)
    unfold cnt
    by_cases e : i = n
    · subst e
      rw [h2, h3]; simp; omega
    · have hl := cnt_lt n (fun i hi => h i (by omega)) ⟨i, by omega, h2, h3⟩
      by_cases e : p n = true
      · rw [if_pos e, if_pos (hn e)]; omega
      · rw [if_neg e]; split <;> omega
theorem cnt_set {p : Nat → Bool} {k n : Nat} (hk : k < n) (hp : p k = false) : cnt p n < cnt (fun i => p i || decide (i = k)) n :=
  cnt_lt n (fun i _ h => by simp [h]) ⟨k, hk, by simp, hp⟩
/-- ways -/
inductive Way (nx : Nat → List Int) : Nat → Prop
  | start : Way nx 0
  | step {i k : Nat} : Way nx i → (k : Int) ∈ nx i → Way nx k
/-- ways of t steps at most -/
def WayIn (nx : Nat → List Int) : Nat → Nat → Prop
  | 0, k => k = 0
  | t + 1, k => WayIn nx t k ∨ ∃ i, WayIn nx t i ∧ (k : Int) ∈ nx i
theorem WayIn.way {nx : Nat → List Int} : ∀ {t k : Nat}, WayIn nx t k → Way nx k
  | 0, k, h => by cases (show k = 0 from h); exact .start
  | t + 1, k, h => by
    rcases h with h | ⟨i, h, hk⟩
    · exact h.way
    · exact .step h.way hk
theorem WayIn.zero {nx : Nat → List Int} : ∀ t, WayIn nx t 0
  | 0 => rfl
  | t + 1 => Or.inl (WayIn.zero t)
open Classical in
noncomputable def wayB (nx : Nat → List Int) (t k : Nat) : Bool := decide (WayIn nx t k)
theorem wayIn_closed {nx : Nat → List Int} {t : Nat} (h : ∀ k, WayIn nx (t + 1) k → WayIn nx t k) : ∀ {k : Nat}, Way nx k → WayIn nx t k := by
  intro k hw
  induction hw with
  | start => exact WayIn.zero t
  | step _ hk ih => exact h _ (Or.inr ⟨_, ih, hk⟩)
theorem wayIn_all {nx : Nat → List Int} {n : Nat} (hn : 0 < n) (hnx : ∀ i k, i < n → k ∈ nx i → 0 ≤ k ∧ k < n) : ∀ {k : Nat}, Way nx k → WayIn nx n k := by
  have hlt : ∀ t k, WayIn nx t k → k < n := by
    intro t
    induction t with
    | zero => intro k h; cases (show k = 0 from h); exact hn
    | succ t ih =>
      intro k h
      rcases h with h | ⟨i, h, hk⟩
      · exact ih k h
      · have := hnx i k (ih i h) hk; omega
  have key : ∀ t, t + 1 ≤ cnt (wayB nx t) n ∨ ∃ s, s ≤ t ∧ ∀ k, WayIn nx (s + 1) k → WayIn nx s k := by
    intro t
    induction t with
    | zero =>
      refine Or.inl ?_
      have : cnt (fun _ => false) n < cnt (wayB nx 0) n := cnt_lt n (fun _ _ h => by cases h) ⟨0, hn, by simp [wayB, WayIn], rfl⟩
      omega
    | succ t ih =>
      rcases ih with h | ⟨s, hs, h⟩
      · by_cases hc : ∀ k, WayIn nx (t + 1) k → WayIn nx t k
        · exact Or.inr ⟨t, by omega, hc⟩
        · refine Or.inl ?_
          have ⟨k, h1⟩ := Classical.not_forall.1 hc
          have ⟨h1, h2⟩ := Classical.not_imp.1 h1
          have : cnt (wayB nx t) n < cnt (wayB nx (t + 1)) n := cnt_lt n (fun i _ h => by
            simp only [wayB, decide_eq_true_eq] at h ⊢; exact Or.inl h) ⟨k, hlt _ _ h1, by simp only [wayB, decide_eq_true_eq]; exact h1, by simp only [wayB, decide_eq_false_iff_not]; exact h2⟩
          omega
      · exact Or.inr ⟨s, by omega, h⟩
  have mono : ∀ s t k, s ≤ t → WayIn nx s k → WayIn nx t k := by
    intro s t k hst h
    induction hst with
    | refl => exact h
    | step _ ih => exact Or.inl ih
  intro k hw
  rcases key n with h | ⟨s, hs, h⟩
  · have := cnt_le (wayB nx n) n; omega
  · exact mono s n k hs (wayIn_closed h hw)
/-! ### Reached: what is left to do -/
/-- S: seen; work: what is left to be gone on from -/
structure Seen (nx : Nat → List Int) (n : Nat) (S : Nat → Bool) (work : List Int) : Prop where
  zero : S 0 = true
  todo : ∀ x ∈ work, 0 ≤ x ∧ x < n ∧ S x.toNat = true
  way : ∀ x, S x = true → x < n ∧ Way nx x
  closed : ∀ x, S x = true → (x : Int) ∉ work → ∀ k ∈ nx x, S k.toNat = true
theorem Seen.done {nx : Nat → List Int} {n : Nat} {S : Nat → Bool} (h : Seen nx n S []) (hnx : ∀ i k, i < n → k ∈ nx i → 0 ≤ k ∧ k < n) (x : Nat) : S x = true ↔ Way nx x := by
  refine ⟨fun e => (h.way x e).2, fun hw => ?_⟩
  induction hw with
  | start => exact h.zero
  | step _ hk ih => exact h.closed _ ih (by simp) _ hk
/-- x was taken; the first ones that follow it are seen -/
structure Seeing (nx : Nat → List Int) (n x j : Nat) (S : Nat → Bool) (work : List Int) : Prop where
  zero : S 0 = true
  todo : ∀ x ∈ work, 0 ≤ x ∧ x < n ∧ S x.toNat = true
  way : ∀ x, S x = true → x < n ∧ Way nx x
  here : x < n ∧ S x = true
  closed : ∀ y, S y = true → y ≠ x → (y : Int) ∉ work → ∀ k ∈ nx y, S k.toNat = true
  some_ : ∀ k ∈ (nx x).take j, S k.toNat = true
theorem Seen.take {nx : Nat → List Int} {n : Nat} {S : Nat → Bool} {l : List Int} {x : Int} (h : Seen nx n S (l ++ [x])) : ∃ q : Nat, x = q ∧ q < n ∧ Seeing nx n q 0 S l := by
  obtain ⟨h1, h2, h3⟩ := h.todo x (by simp)
  refine ⟨x.toNat, by omega, by omega, h.zero, fun y hy => h.todo y (by simp [hy]), h.way, ⟨by omega, h3⟩, fun y hy hne hno => h.closed y hy ?_, by simp⟩
  rw [List.mem_append, not_or]
  refine ⟨hno, ?_⟩
  simp only [List.mem_singleton]
  omega
theorem Seeing.end_ {nx : Nat → List Int} {n x j : Nat} {S : Nat → Bool} {l : List Int} (h : Seeing nx n x j S l) (hj : (nx x).length ≤ j) : Seen nx n S l :=
  ⟨h.zero, h.todo, h.way, fun y hy hno => by
    by_cases e : y = x
    · subst e; have := h.some_; rwa [List.take_of_length_le hj] at this
    · exact h.closed y hy e hno⟩
theorem take_mem {l : List Int} {j : Nat} {k y : Int} (h : l[j]? = some k) (hy : y ∈ l.take (j + 1)) : y ∈ l.take j ∨ y = k := by
  rw [List.take_add_one, h] at hy
  simpa using hy
theorem Seeing.skip {nx : Nat → List Int} {n x j : Nat} {S : Nat → Bool} {l : List Int} {k : Int} (h : Seeing nx n x j S l) (hk : (nx x)[j]? = some k) (hs : S k.toNat = true) : Seeing nx n x (j + 1) S l :=
  ⟨h.zero, h.todo, h.way, h.here, h.closed, fun y hy => by
    rcases take_mem hk hy with hy | rfl
    · exact h.some_ y hy
    · exact hs⟩
theorem Seeing.add {nx : Nat → List Int} {n x j k : Nat} {S : Nat → Bool} {l : List Int} (h : Seeing nx n x j S l) (hk : (nx x)[j]? = some (k : Int)) (hn : k < n) (hs : S k = false) :
    Seeing nx n x (j + 1) (fun i => S i || decide (i = k)) (l ++ [(k : Int)]) :=
  ⟨by simp [h.zero], fun y hy => by
    rcases List.mem_append.1 hy with hy | hy
    · have := h.todo y hy
      exact ⟨this.1, this.2.1, by simp [this.2.2]⟩
    · obtain rfl := List.mem_singleton.1 hy
      exact ⟨by omega, by omega, by simp⟩, fun y hy => by
    rcases Bool.or_eq_true_iff.1 hy with hy | hy
    · exact h.way y hy
    · obtain rfl := of_decide_eq_true hy
      exact ⟨hn, .step (h.way x h.here.2).2 (List.mem_of_getElem? hk)⟩, ⟨h.here.1, by simp [h.here.2]⟩, fun y hy hne hno z hz => by
    rw [List.mem_append, not_or] at hno
    rcases Bool.or_eq_true_iff.1 hy with hy | hy
    · simp [h.closed y hy hne hno.1 z hz]
    · obtain rfl := of_decide_eq_true hy
      exact absurd (List.mem_singleton.2 rfl) hno.2, fun y hy => by
    rcases take_mem hk hy with hy | rfl
    · simp [h.some_ y hy]
    · simp⟩
end Go.Proofs.Ytemllghghpphmaa
