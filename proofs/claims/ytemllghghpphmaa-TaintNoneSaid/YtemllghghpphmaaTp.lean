/- Plain: what may be secret, on words and on bits; the least of what is closed. No condition. -/
import Derived.Test.YtemllghghpphmaaFlQ
namespace Go.Proofs.Ytemllghghpphmaa
open Go.RowKit
set_option linter.unusedVariables false
def hotB (J : Nat → Bool) (x : InsD) : Bool := x.secret || (!decide (x.op = 28 ∨ x.op = 29) && (readsD x).any fun a => decide (0 ≤ a.reg) && J a.reg.toNat)
def hotL (l : List Nat) (x : InsD) : Bool := hotB (bitL l) x
def stepL (l : List Nat) (x : InsD) : List Nat := if x.dst < 0 then l else if hotL l x = true then putL (outL l x.dst) x.dst else outL l x.dst
def stepsL (l : List Nat) (xs : List InsD) : List Nat := xs.foldl stepL l
def stepB (J : Nat → Bool) (x : InsD) : Nat → Bool := fun r => if x.dst < 0 then J r else if (r : Int) = x.dst then hotB J x else J r
def stepsB (J : Nat → Bool) (xs : List InsD) : Nat → Bool := xs.foldl stepB J
theorem stepL_length (l : List Nat) (x : InsD) : (stepL l x).length = l.length := by
  unfold stepL
  split
  · rfl
  · split
    · rw [putL_length, outL_length]
    · rw [outL_length]
theorem stepsL_length : ∀ (xs : List InsD) (l : List Nat), (stepsL l xs).length = l.length
  | [], l => rfl
  | x :: xs, l => by
    show (stepsL (stepL l x) xs).length = _
    rw [stepsL_length xs, stepL_length]
theorem stepsL_take {l : List Nat} {xs : List InsD} {q : Nat} {x : InsD} (h : xs[q]? = some x) : stepsL l (xs.take (q + 1)) = stepL (stepsL l (xs.take q)) x := by
  unfold stepsL
  rw [List.take_add_one, h]; simp
theorem bit_step (l : List Nat) (x : InsD) (hd : x.dst < 64 * l.length) (r : Nat) : bitL (stepL l x) r = stepB (bitL l) x r := by
  unfold stepL stepB
  by_cases h0 : x.dst < 0
  · rw [if_pos h0, if_pos h0]
  · rw [if_neg h0, if_neg h0]
    by_cases hr : (r : Int) = x.dst
    · rw [if_pos hr]
      show _ = hotL l x
      by_cases hh : hotL l x = true
      · rw [if_pos hh, bit_put, outL_length, hh]
        have : decide (x.dst = (r : Int) ∧ r / 64 < l.length) = true := decide_eq_true ⟨hr.symm, by omega⟩
        rw [this, Bool.or_true]
      · rw [if_neg hh, bit_out]
        have h1 : decide (x.dst = (r : Int)) = true := decide_eq_true hr.symm
        rw [h1]
        cases hb : hotL l x with
        | true => exact absurd hb hh
        | false => simp
    · rw [if_neg hr]
      have h1 : decide (x.dst = (r : Int)) = false := decide_eq_false (fun e => hr e.symm)
      have h2 : decide (x.dst = (r : Int) ∧ r / 64 < l.length) = false := decide_eq_false (fun e => hr e.1.symm)
      by_cases hh : hotL l x = true
      · rw [if_pos hh, bit_put, outL_length, h2, bit_out, h1]; simp
      · rw [if_neg hh, bit_out, h1]; simp
theorem bit_steps : ∀ (xs : List InsD) (l : List Nat), (∀ x ∈ xs, x.dst < 64 * l.length) → bitL (stepsL l xs) = stepsB (bitL l) xs
  | [], l, _ => rfl
  | x :: xs, l, h => by
    show bitL (stepsL (stepL l x) xs) = stepsB (stepB (bitL l) x) xs
    rw [bit_steps xs (stepL l x) (fun y hy => by rw [stepL_length]; exact h y (List.mem_cons_of_mem _ hy))]
    congr 1
    funext r
    exact bit_step l x (h x List.mem_cons_self) r
/-- one instruction is another one, but for being more secret -/
def Less (x y : InsD) : Prop := x.dst = y.dst ∧ x.op = y.op ∧ readsD x = readsD y ∧ (x.secret = true → y.secret = true)
theorem Less.refl (x : InsD) : Less x x := ⟨rfl, rfl, rfl, fun h => h⟩
theorem hotB_mono {J J' : Nat → Bool} {x y : InsD} (hl : Less x y) (hJ : ∀ r, J r = true → J' r = true) (h : hotB J x = true) : hotB J' y = true := by
  obtain ⟨e1, e2, e3, e4⟩ := hl
  unfold hotB at h ⊢
  rw [Bool.or_eq_true] at h ⊢
  rcases h with h | h
  · exact Or.inl (e4 h)
  · rw [Bool.and_eq_true] at h ⊢
    refine Or.inr ⟨by rw [← e2]; exact h.1, ?_⟩
    have h2 := h.2
    rw [← e3]
    rw [List.any_eq_true] at h2 ⊢
    obtain ⟨a, ha, hb⟩ := h2
    rw [Bool.and_eq_true] at hb
    exact ⟨a, ha, by rw [Bool.and_eq_true]; exact ⟨hb.1, hJ _ hb.2⟩⟩
theorem stepB_mono {J J' : Nat → Bool} {x y : InsD} (hl : Less x y) (hJ : ∀ r, J r = true → J' r = true) (r : Nat) (h : stepB J x r = true) : stepB J' y r = true := by
  have e1 := hl.1
  unfold stepB at h ⊢
  rw [← e1]
  by_cases h0 : x.dst < 0
  · rw [if_pos h0] at h ⊢; exact hJ r h
  · rw [if_neg h0] at h ⊢
    by_cases hr : (r : Int) = x.dst
    · rw [if_pos hr] at h ⊢; exact hotB_mono hl hJ h
    · rw [if_neg hr] at h ⊢; exact hJ r h
theorem stepsB_mono : ∀ (xs ys : List InsD) {J J' : Nat → Bool}, xs.length = ys.length → (∀ (i : Nat) x y, xs[i]? = some x → ys[i]? = some y → Less x y) → (∀ r, J r = true → J' r = true) → ∀ r, stepsB J xs r = true → stepsB J' ys r = true
  | [], [], J, J', _, _, hJ, r, h => hJ r h
  | [], _ :: _, J, J', hl, _, _, _, _ => by simp at hl
  | _ :: _, [], J, J', hl, _, _, _, _ => by simp at hl
  | x :: xs, y :: ys, J, J', hl, hi, hJ, r, h => by
    refine stepsB_mono xs ys (J := stepB J x) (J' := stepB J' y) (by simpa using hl) (fun i a b ha hb => hi (i + 1) a b (by simpa using ha) (by simpa using hb)) ?_ r h
    exact fun r h => stepB_mono (hi 0 x y (by simp) (by simp)) hJ r h
/-- closed: secret parameters, and what follows -/
def Post (sec : List Bool) (blk : Nat → BlockD) (nx : Nat → List Int) (n : Nat) (J : Nat → Nat → Bool) : Prop :=
  (∀ i, sec[i]? = some true → J 0 i = true) ∧ ∀ b k : Nat, b < n → k < n → (k : Int) ∈ nx b → ∀ r, stepsB (J b) (blk b).ins r = true → J k r = true
theorem Post.less {sec sec' : List Bool} {blk blk' : Nat → BlockD} {nx : Nat → List Int} {n : Nat} {J : Nat → Nat → Bool} (h : Post sec' blk' nx n J) (hs : ∀ i : Nat, sec[i]? = some true → sec'[i]? = some true)
    (hb : ∀ b, b < n → (blk b).ins.length = (blk' b).ins.length ∧ ∀ (i : Nat) x y, (blk b).ins[i]? = some x → (blk' b).ins[i]? = some y → Less x y) : Post sec blk nx n J :=
  ⟨fun i hi => h.1 i (hs i hi), fun b k h1 h2 hk r hr => h.2 b k h1 h2 hk r (stepsB_mono _ _ (hb b h1).1 (hb b h1).2 (fun _ h => h) r hr)⟩
/-- nothing is closed where nothing is secret -/
theorem stepsB_none : ∀ (xs : List InsD) (r : Nat), (∀ x ∈ xs, x.secret = false) → stepsB (fun _ => false) xs r = false
  | [], r, _ => rfl
  | x :: xs, r, h => by
    have e : stepB (fun _ => false) x = fun _ => false := by
      funext r
      unfold stepB hotB
      rw [h x List.mem_cons_self]
      simp
    show stepsB (stepB (fun _ => false) x) xs r = false
    rw [e]
    exact stepsB_none xs r (fun y hy => h y (List.mem_cons_of_mem _ hy))
theorem post_none {sec : List Bool} {blk : Nat → BlockD} {nx : Nat → List Int} {n : Nat} (hs : ∀ i : Nat, sec[i]? ≠ some true) (hb : ∀ b, b < n → ∀ x ∈ (blk b).ins, x.secret = false) : Post sec blk nx n (fun _ _ => false) :=
  ⟨fun i hi => absurd hi (hs i), fun b k h1 h2 hk r hr => by rw [stepsB_none _ r (hb b h1)] at hr; cases hr⟩
section
variable {sec : List Bool} {blk : Nat → BlockD} {nx : Nat → List Int} {n K : Nat} {I : Nat → List Nat}
/-- what holds of the sets all the time -/
structure TInv (sec : List Bool) (blk : Nat → BlockD) (nx : Nat → List Int) (n K : Nat) (I : Nat → List Nat) : Prop where
  len : ∀ b, (I b).length = K
  lt : ∀ b, ∀ x ∈ I b, x < 2 ^ 64
  least : ∀ J, Post sec blk nx n J → ∀ b r, b < n → bitL (I b) r = true → J b r = true
theorem TInv.start (sec : List Bool) (blk : Nat → BlockD) (nx : Nat → List Int) (n K : Nat) : TInv sec blk nx n K (fun _ => List.replicate K 0) :=
  ⟨fun _ => by simp, fun _ x hx => by rw [List.eq_of_mem_replicate hx]; decide, fun J _ b r _ h => by rw [bitL_zero] at h; cases h⟩
theorem putL_lt {l : List Nat} (h : ∀ x ∈ l, x < 2 ^ 64) (i : Int) : ∀ x ∈ putL l i, x < 2 ^ 64 := by
  intro x hx
  unfold putL at hx
  split at hx
  · rename_i hc
    rcases List.mem_or_eq_of_mem_set hx with hx | rfl
    · exact h x hx
    · refine or_lt64 ?_ (Nat.mod_lt _ (by decide))
      by_cases hj : i.toNat / 64 < l.length
      · rw [List.getD_eq_getElem?_getD, List.getElem?_eq_getElem hj]
        exact h _ (List.getElem_mem hj)
      · exact absurd hc.2 hj
  · exact h x hx
theorem outL_lt {l : List Nat} (h : ∀ x ∈ l, x < 2 ^ 64) (i : Int) : ∀ x ∈ outL l i, x < 2 ^ 64 := by
  intro x hx
  unfold outL at hx
  split at hx
  · rename_i hc
    rcases List.mem_or_eq_of_mem_set hx with hx | rfl
    · exact h x hx
    · refine Nat.lt_of_le_of_lt Nat.and_le_left ?_
      rw [List.getD_eq_getElem?_getD, List.getElem?_eq_getElem hc.2]
      exact h _ (List.getElem_mem hc.2)
  · exact h x hx
theorem stepL_lt {l : List Nat} (h : ∀ x ∈ l, x < 2 ^ 64) (x : InsD) : ∀ y ∈ stepL l x, y < 2 ^ 64 := by
  unfold stepL
  split
  · exact h
  · split
    · exact putL_lt (outL_lt h _) _
    · exact outL_lt h _
theorem stepsL_lt : ∀ (xs : List InsD) (l : List Nat), (∀ x ∈ l, x < 2 ^ 64) → ∀ y ∈ stepsL l xs, y < 2 ^ 64
  | [], l, h => h
  | x :: xs, l, h => stepsL_lt xs (stepL l x) (stepL_lt h x)
/-- a secret parameter put in -/
theorem TInv.put (h : TInv sec blk nx n K I) {i : Nat} (hi : sec[i]? = some true) : TInv sec blk nx n K (updL I 0 (putL (I 0) i)) := by
  refine ⟨fun b => ?_, fun b => ?_, fun J hJ b r hb hr => ?_⟩
  · by_cases e : b = 0
    · subst e; rw [updL_same, putL_length]; exact h.len 0
    · rw [updL_other _ _ e]; exact h.len b
  · by_cases e : b = 0
    · subst e; rw [updL_same]; exact putL_lt (h.lt 0) _
    · rw [updL_other _ _ e]; exact h.lt b
  · by_cases e : b = 0
    · subst e
      rw [updL_same, bit_put, Bool.or_eq_true] at hr
      rcases hr with hr | hr
      · exact h.least J hJ 0 r hb hr
      · have := of_decide_eq_true hr
        have e : r = i := by omega
        subst e
        exact hJ.1 r hi
    · rw [updL_other _ _ e] at hr; exact h.least J hJ b r hb hr
theorem joinK_lt {l o : List Nat} (h : ∀ x ∈ l, x < 2 ^ 64) (ho : ∀ x ∈ o, x < 2 ^ 64) (k : Nat) : ∀ x ∈ joinK l o k, x < 2 ^ 64 := by
  intro x hx
  unfold joinK at hx
  rw [List.mem_map] at hx
  obtain ⟨j, hj, rfl⟩ := hx
  have hjl : j < l.length := List.mem_range.1 hj
  have h1 : l.getD j 0 < 2 ^ 64 := by rw [List.getD_eq_getElem?_getD, List.getElem?_eq_getElem hjl]; exact h _ (List.getElem_mem hjl)
  split
  · refine Nat.or_lt_two_pow h1 ?_
    by_cases hjo : j < o.length
    · rw [List.getD_eq_getElem?_getD, List.getElem?_eq_getElem hjo]; exact ho _ (List.getElem_mem hjo)
    · rw [getD_out o j (by omega)]; decide
  · exact h1
theorem put_secs {sec : List Bool} {l : List Nat} {j : Nat} (h : ∀ i : Nat, i < j → sec[i]? = some true → bitL l i = true) (hj : j < 64 * l.length) : ∀ i : Nat, i < j + 1 → sec[i]? = some true → bitL (putL l (j : Nat)) i = true := by
  intro i hi hs
  rw [bit_put, Bool.or_eq_true]
  by_cases e : i = j
  · subst e
    exact Or.inr (decide_eq_true ⟨rfl, by omega⟩)
  · exact Or.inl (h i (by omega) hs)
/-- what a block leaves -/
theorem TInv.out (h : TInv sec blk nx n K I) {b : Nat} (hb : b < n) (hd : ∀ x ∈ (blk b).ins, x.dst < 64 * K) :
    (stepsL (I b) (blk b).ins).length = K ∧ (∀ x ∈ stepsL (I b) (blk b).ins, x < 2 ^ 64) ∧ ∀ J, Post sec blk nx n J → ∀ r, bitL (stepsL (I b) (blk b).ins) r = true → stepsB (J b) (blk b).ins r = true :=
  ⟨by rw [stepsL_length, h.len], stepsL_lt _ _ (h.lt b), fun J hJ r hr => by
    rw [bit_steps _ _ (fun x hx => by rw [h.len]; exact hd x hx)] at hr
    exact stepsB_mono _ _ rfl (fun i x y hx hy => by rw [hx] at hy; rw [Option.some.inj hy]; exact Less.refl _) (fun r hr => h.least J hJ b r hb hr) r hr⟩
/-- what a block leaves, joined into one that follows -/
theorem TInv.join (h : TInv sec blk nx n K I) {b k : Nat} (hb : b < n) (hk : k < n) (hnx : (k : Int) ∈ nx b) {s : List Nat} (hsl : s.length = K) (hst : ∀ x ∈ s, x < 2 ^ 64) (hsJ : ∀ J, Post sec blk nx n J → ∀ r, bitL s r = true → stepsB (J b) (blk b).ins r = true) :
    TInv sec blk nx n K (updL I k (joinK (I k) s K)) := by
  refine ⟨fun c => ?_, fun c => ?_, fun J hJ c r hc hr => ?_⟩
  · by_cases e : c = k
    · subst e; rw [updL_same, joinK_length]; exact h.len c
    · rw [updL_other _ _ e]; exact h.len c
  · by_cases e : c = k
    · subst e; rw [updL_same]; exact joinK_lt (h.lt c) hst K
    · rw [updL_other _ _ e]; exact h.lt c
  · by_cases e : c = k
    · subst e
      rw [updL_same, joinK_bits (by rw [h.len, hsl]; simp) r (by rw [h.len, hsl]), Bool.or_eq_true] at hr
      rcases hr with hr | hr
      · exact h.least J hJ c r hc hr
      · exact hJ.2 b c hb hc hnx r (hsJ J hJ r hr)
    · rw [updL_other _ _ e] at hr; exact h.least J hJ c r hc hr
theorem join_grow (h : TInv sec blk nx n K I) {k : Nat} {s : List Nat} (hsl : s.length = K) (c r : Nat) (hr : bitL (I c) r = true) : bitL (updL I k (joinK (I k) s K) c) r = true := by
  by_cases e : c = k
  · subst e
    rw [updL_same, joinK_bits (by rw [h.len, hsl]; simp) r (by rw [h.len, hsl]), hr]; rfl
  · rw [updL_other _ _ e]; exact hr
theorem join_has (h : TInv sec blk nx n K I) {k : Nat} {s : List Nat} (hsl : s.length = K) (r : Nat) (hr : bitL s r = true) : bitL (updL I k (joinK (I k) s K) k) r = true := by
  rw [updL_same, joinK_bits (by rw [h.len, hsl]; simp) r (by rw [h.len, hsl]), hr]; simp
theorem join_tot (h : TInv sec blk nx n K I) {k : Nat} (hk : k < n) {s : List Nat} (hsl : s.length = K) (hst : ∀ x ∈ s, x < 2 ^ 64) (hm : moreK (I k) s K = true) : tot K I n < tot K (updL I k (joinK (I k) s K)) n := by
  have hmin : K = min (I k).length s.length := by rw [h.len, hsl]; simp
  have := more_some (n := n) (I := I) (b := k) hk (h.len k) hsl (h.lt k) hst (by rw [← hmin]; exact hm)
  rw [← hmin] at this
  exact this
/-- the first blocks are closed -/
def TDone (blk : Nat → BlockD) (nx : Nat → List Int) (n : Nat) (I : Nat → List Nat) (j : Nat) : Prop :=
  ∀ b k : Nat, b < j → k < n → (k : Int) ∈ nx b → ∀ r, bitL (stepsL (I b) (blk b).ins) r = true → bitL (I k) r = true
theorem bits_eq {l m : List Nat} (h : l.length = m.length) (h1 : ∀ x ∈ l, x < 2 ^ 64) (h2 : ∀ x ∈ m, x < 2 ^ 64) (hb : ∀ r, bitL l r = bitL m r) : l = m := by
  refine list_getD_ext h fun j => Nat.eq_of_testBit_eq fun i => ?_
  by_cases hj : j < l.length
  · by_cases hi : i < 64
    · have := hb (64 * j + i)
      unfold bitL at this
      rw [show (64 * j + i) / 64 = j by omega, show (64 * j + i) % 64 = i by omega] at this
      exact this
    · have a1 : l.getD j 0 < 2 ^ 64 := by rw [List.getD_eq_getElem?_getD, List.getElem?_eq_getElem hj]; exact h1 _ (List.getElem_mem hj)
      have a2 : m.getD j 0 < 2 ^ 64 := by rw [List.getD_eq_getElem?_getD, List.getElem?_eq_getElem (by omega)]; exact h2 _ (List.getElem_mem (by omega))
      have hp : (2 : Nat) ^ 64 ≤ 2 ^ i := Nat.pow_le_pow_right (by decide) (by omega)
      rw [Nat.testBit_lt_two_pow (Nat.lt_of_lt_of_le a1 hp), Nat.testBit_lt_two_pow (Nat.lt_of_lt_of_le a2 hp)]
  · rw [getD_out l j (by omega), getD_out m j (by omega)]
/-- a join that says that nothing is more leaves all as it was -/
theorem TInv.still (h : TInv sec blk nx n K I) {k : Nat} {s : List Nat} (hs : s.length = K) (hst : ∀ x ∈ s, x < 2 ^ 64) (hm : moreK (I k) s K = false) : joinK (I k) s K = I k := by
  have hmin : K = min (I k).length s.length := by rw [h.len, hs]; simp
  refine bits_eq (joinK_length _ _ _) (joinK_lt (h.lt k) hst K) (h.lt k) fun r => ?_
  have := more_none (I := I) (b := k) (h.len k) hs (h.lt k) hst (by rw [← hmin]; exact hm) k r
  rw [updL_same, ← hmin] at this
  exact this
theorem updL_self (I : Nat → List Nat) (k : Nat) : updL I k (I k) = I := by
  funext j
  unfold updL
  split
  · rename_i e; rw [e]
  · rfl
/-- closed: then it is closed in the sense of Post -/
theorem TInv.post (h : TInv sec blk nx n K I) (hd : TDone blk nx n I n) (hdst : ∀ b, b < n → ∀ x ∈ (blk b).ins, x.dst < 64 * K) (hs : ∀ i, sec[i]? = some true → bitL (I 0) i = true) : Post sec blk nx n (fun b => bitL (I b)) :=
  ⟨hs, fun b k h1 h2 hk r hr => hd b k h1 h2 hk r (by rw [bit_steps _ _ (fun x hx => by rw [h.len]; exact hdst b h1 x hx)]; exact hr)⟩
end
end Go.Proofs.Ytemllghghpphmaa
