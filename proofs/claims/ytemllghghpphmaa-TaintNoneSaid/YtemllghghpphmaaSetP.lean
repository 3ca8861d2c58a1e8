/- Plain facts: sets of numbers as words of 64 bits. No condition. -/
namespace Go.Proofs.Ytemllghghpphmaa
def bitL (l : List Nat) (i : Nat) : Bool := (l.getD (i / 64) 0).testBit (i % 64)
def hasL (l : List Nat) (i : Int) : Bool := decide (0 ≤ i) && bitL l i.toNat
def maskL : Nat := 18446744073709551615
def putL (l : List Nat) (i : Int) : List Nat := if 0 ≤ i ∧ i.toNat / 64 < l.length then l.set (i.toNat / 64) (l.getD (i.toNat / 64) 0 ||| 2 ^ (i.toNat % 64)) else l
def outL (l : List Nat) (i : Int) : List Nat := if 0 ≤ i ∧ i.toNat / 64 < l.length then l.set (i.toNat / 64) (l.getD (i.toNat / 64) 0 &&& (maskL ^^^ 2 ^ (i.toNat % 64))) else l
/-- k words joined -/
def joinK (l o : List Nat) (k : Nat) : List Nat := (List.range l.length).map fun j => if j < k then l.getD j 0 ||| o.getD j 0 else l.getD j 0
def moreK (l o : List Nat) (k : Nat) : Bool := (List.range k).any fun j => decide (l.getD j 0 ||| o.getD j 0 ≠ l.getD j 0)
theorem getD_set (l : List Nat) (i j x : Nat) : (l.set i x).getD j 0 = if i = j ∧ j < l.length then x else l.getD j 0 := by
  simp only [List.getD_eq_getElem?_getD, List.getElem?_set]
  by_cases h : i = j
  · subst h
    by_cases h2 : i < l.length
    · simp [h2]
    · simp [h2]
  · simp [h]
theorem getD_out (l : List Nat) (j : Nat) (h : l.length ≤ j) : l.getD j 0 = 0 := by
  simp [List.getD_eq_getElem?_getD, List.getElem?_eq_none h]
theorem putL_length (l : List Nat) (i : Int) : (putL l i).length = l.length := by unfold putL; split <;> simp
theorem outL_length (l : List Nat) (i : Int) : (outL l i).length = l.length := by unfold outL; split <;> simp
theorem bit_put (l : List Nat) (i : Int) (k : Nat) : bitL (putL l i) k = (bitL l k || decide (i = (k : Int) ∧ k / 64 < l.length)) := by
  unfold putL bitL
  split
  · rename_i h
    rw [getD_set]
    by_cases hq : i.toNat / 64 = k / 64
    · rw [if_pos ⟨hq, by omega⟩, hq, Nat.testBit_or, Nat.testBit_two_pow]
      congr 1
      apply decide_eq_decide.2
      omega
    · rw [if_neg (by omega)]
      have : ¬ (i = (k : Int) ∧ k / 64 < l.length) := by omega
      simp [this]
  · rename_i h
    have : ¬ (i = (k : Int) ∧ k / 64 < l.length) := by omega
    simp [this]
theorem mask_bit (r j : Nat) (_hr : r < 64) (hj : j < 64) : (maskL ^^^ 2 ^ r).testBit j = !decide (r = j) := by
  rw [Nat.testBit_xor, Nat.testBit_two_pow]
  have : maskL.testBit j = true := by
    show (2 ^ 64 - 1).testBit j = true
    rw [Nat.testBit_two_pow_sub_one]; simpa using hj
  rw [this]; simp
theorem bit_out (l : List Nat) (i : Int) (k : Nat) : bitL (outL l i) k = (bitL l k && !decide (i = (k : Int))) := by
  unfold outL bitL
  split
  · rename_i h
    rw [getD_set]
    by_cases hq : i.toNat / 64 = k / 64
    · rw [if_pos ⟨hq, by omega⟩, hq, Nat.testBit_and, mask_bit _ _ (by omega) (by omega)]
      congr 2
      apply decide_eq_decide.2
      omega
    · rw [if_neg (by omega)]
      have : ¬ (i = (k : Int)) := by omega
      simp [this]
  · rename_i h
    by_cases hk : i = (k : Int)
    · rw [getD_out l _ (by omega)]; simp
    · simp [hk]
theorem joinK_length (l o : List Nat) (k : Nat) : (joinK l o k).length = l.length := by simp [joinK]
theorem joinK_at (l o : List Nat) (k j : Nat) : (joinK l o k).getD j 0 = if j < l.length ∧ j < k then l.getD j 0 ||| o.getD j 0 else l.getD j 0 := by
  unfold joinK
  by_cases h : j < l.length
  · simp [List.getD_eq_getElem?_getD, h]
  · have h1 := getD_out l j (by omega)
    have h2 : (List.map (fun j => if j < k then l.getD j 0 ||| o.getD j 0 else l.getD j 0) (List.range l.length)).getD j 0 = 0 := getD_out _ _ (by simpa using Nat.le_of_not_lt h)
    rw [h2, if_neg (by omega), h1]
theorem list_getD_ext {l m : List Nat} (hl : l.length = m.length) (h : ∀ j, l.getD j 0 = m.getD j 0) : l = m := by
  apply List.ext_getElem hl
  intro j h1 h2
  have := h j
  simpa [List.getD_eq_getElem?_getD, h1, h2] using this
theorem joinK_zero (l o : List Nat) : joinK l o 0 = l := list_getD_ext (joinK_length _ _ _) fun j => by rw [joinK_at, if_neg (by omega)]
theorem joinK_succ (l o : List Nat) (k : Nat) (hk : k < l.length) : joinK l o (k + 1) = (joinK l o k).set k (l.getD k 0 ||| o.getD k 0) := by
  refine list_getD_ext (by simp [joinK_length]) fun j => ?_
  rw [getD_set, joinK_at, joinK_at, joinK_length]
  by_cases h : k = j
  · subst h; rw [if_pos ⟨hk, by omega⟩, if_pos ⟨rfl, hk⟩]
  · rw [if_neg (c := k = j ∧ j < l.length) (by omega)]
    by_cases h2 : j < l.length ∧ j < k + 1
    · rw [if_pos h2, if_pos (by omega)]
    · rw [if_neg h2, if_neg (by omega)]
theorem joinK_same (l o : List Nat) (k : Nat) (hk : k < l.length) (h : l.getD k 0 ||| o.getD k 0 = l.getD k 0) : joinK l o (k + 1) = joinK l o k :=
  list_getD_ext (by simp [joinK_length]) fun j => by
    rw [joinK_at, joinK_at]
    by_cases e : j = k
    · subst e; rw [if_pos ⟨hk, by omega⟩, if_neg (by omega), h]
    · by_cases h2 : j < l.length ∧ j < k
      · rw [if_pos (by omega), if_pos h2]
      · rw [if_neg (by omega), if_neg h2]
theorem moreK_succ (l o : List Nat) (k : Nat) : moreK l o (k + 1) = (moreK l o k || decide (l.getD k 0 ||| o.getD k 0 ≠ l.getD k 0)) := by
  simp [moreK, List.range_succ]
theorem joinK_end (l o : List Nat) (k : Nat) (hk : k = min l.length o.length) : joinK l o k = joinK l o l.length :=
  list_getD_ext (by simp [joinK_length]) fun j => by
    rw [joinK_at, joinK_at]
    by_cases h1 : j < l.length
    · by_cases h2 : j < k
      · rw [if_pos ⟨h1, h2⟩, if_pos ⟨h1, h1⟩]
      · rw [if_neg (by omega), if_pos ⟨h1, h1⟩, getD_out o j (by omega), Nat.or_zero]
    · rw [if_neg (by omega), if_neg (by omega)]
theorem bit_join (l o : List Nat) (k i : Nat) (hk : k = min l.length o.length) : bitL (joinK l o k) i = (bitL l i || (decide (i / 64 < l.length) && bitL o i)) := by
  rw [joinK_end l o k hk]
  unfold bitL
  rw [joinK_at]
  by_cases h : i / 64 < l.length
  · rw [if_pos ⟨h, h⟩, Nat.testBit_or]; simp [h]
  · rw [if_neg (by omega)]; simp [h]
theorem or_ne_iff (a b : Nat) (_ha : a < 2 ^ 64) (hb : b < 2 ^ 64) : (a ||| b ≠ a) ↔ ∃ r, r < 64 ∧ b.testBit r = true ∧ a.testBit r = false := by
  constructor
  · intro h
    apply Classical.byContradiction
    intro hn
    apply h
    apply Nat.eq_of_testBit_eq
    intro r
    rw [Nat.testBit_or]
    by_cases hr : r < 64
    · cases hb2 : b.testBit r with
      | false => simp
      | true =>
        cases ha2 : a.testBit r with
        | true => rfl
        | false => exact absurd ⟨r, hr, hb2, ha2⟩ hn
    · have : b.testBit r = false := Nat.testBit_lt_two_pow (Nat.lt_of_lt_of_le hb (Nat.pow_le_pow_right (by decide) (by omega)))
      rw [this]; simp
  · rintro ⟨r, _, h1, h2⟩ e
    have := congrArg (fun x => Nat.testBit x r) e
    simp [Nat.testBit_or, h1, h2] at this
theorem moreK_iff (l o : List Nat) (k : Nat) (hl : ∀ x ∈ l, x < 2 ^ 64) (ho : ∀ x ∈ o, x < 2 ^ 64) (hk : k = min l.length o.length) :
    moreK l o k = true ↔ ∃ i, i / 64 < l.length ∧ bitL o i = true ∧ bitL l i = false := by
  have gl : ∀ (m : List Nat), (∀ x ∈ m, x < 2 ^ 64) → ∀ j, m.getD j 0 < 2 ^ 64 := by
    intro m hm j
    rw [List.getD_eq_getElem?_getD]
    cases h : m[j]? with
    | none => simp
    | some x => simpa using hm x (List.mem_of_getElem? h)
  unfold moreK
  simp only [List.any_eq_true, List.mem_range, decide_eq_true_eq]
  constructor
  · rintro ⟨j, hj, hne⟩
    obtain ⟨r, hr, h1, h2⟩ := (or_ne_iff _ _ (gl l hl j) (gl o ho j)).1 hne
    refine ⟨64 * j + r, by omega, ?_, ?_⟩
    · unfold bitL; rw [show (64 * j + r) / 64 = j by omega, show (64 * j + r) % 64 = r by omega]; exact h1
    · unfold bitL; rw [show (64 * j + r) / 64 = j by omega, show (64 * j + r) % 64 = r by omega]; exact h2
  · rintro ⟨i, hi, h1, h2⟩
    unfold bitL at h1 h2
    have hio : i / 64 < o.length := by
      apply Classical.byContradiction
      intro h
      rw [getD_out o _ (by omega)] at h1
      simp at h1
    exact ⟨i / 64, by omega, (or_ne_iff _ _ (gl l hl _) (gl o ho _)).2 ⟨i % 64, by omega, h1, h2⟩⟩
theorem bitL_out (l : List Nat) (i : Nat) (h : l.length ≤ i / 64) : bitL l i = false := by
  unfold bitL; rw [getD_out l _ h]; simp
theorem bitL_zero (n i : Nat) : bitL (List.replicate n 0) i = false := by
  unfold bitL
  rw [List.getD_eq_getElem?_getD]
  by_cases h : i / 64 < n
  · simp [h]
  · simp [h]
theorem or_lt64 {a r : Nat} (ha : a < 2 ^ 64) (hr : r < 64) : a ||| 2 ^ r < 2 ^ 64 := Nat.or_lt_two_pow ha (Nat.pow_lt_pow_right (by decide) hr)
end Go.Proofs.Ytemllghghpphmaa
