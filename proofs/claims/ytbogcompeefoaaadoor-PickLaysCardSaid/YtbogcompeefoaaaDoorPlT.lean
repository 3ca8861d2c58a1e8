/- taint: what it rests on, solve (for texts that hold the flow texts too). No condition. -/
import Derived.Test.YtbogcompeefoaaaDoorQd
import Derived.Test.YtbogcompeefoaaaDoorQf
import Derived.Test.YtbogcompeefoaaaDoorSet
import Derived.Deep.Cut
import Derived.Deep.CutRange
import Derived.Deep.DeepCutAuto
import Derived.Test.YtbogcompeefoaaaDoorFl7
namespace Go.Proofs.YtbogcompeefoaaaDoor
open Go.RowKit
set_option linter.unusedVariables false
def hotB (J : Nat → Bool) (x : InsD) : Bool := x.secret || (!decide (x.op = 28 ∨ x.op = 29) && (readsD x).any fun a => decide (0 ≤ a.reg) && J a.reg.toNat)
def hotL (l : List Nat) (x : InsD) : Bool := hotB (bitL l) x
def stepL (l : List Nat) (x : InsD) : List Nat := if x.dst < 0 then l else if hotL l x = true then putL (outL l x.dst) x.dst else outL l x.dst
def stepsL (l : List Nat) (xs : List InsD) : List Nat := xs.foldl stepL l
def stepB (J : Nat → Bool) (x : InsD) : Nat → Bool := fun r => if x.dst < 0 then J r else if (r : Int) = x.dst then hotB J x else J r
def stepsB (J : Nat → Bool) (xs : List InsD) : Nat → Bool := xs.foldl stepB J
theorem stepL_length (l : List Nat) (x : InsD) : (stepL l x).length = l.length := by
  unfold stepL
  split
  · rfl
  · split
    · rw [putL_length, outL_length]
    · rw [outL_length]
theorem stepsL_length : ∀ (xs : List InsD) (l : List Nat), (stepsL l xs).length = l.length
  | [], l => rfl
  | x :: xs, l => by
    show (stepsL (stepL l x) xs).length = _
    rw [stepsL_length xs, stepL_length]
theorem stepsL_take {l : List Nat} {xs : List InsD} {q : Nat} {x : InsD} (h : xs[q]? = some x) : stepsL l (xs.take (q + 1)) = stepL (stepsL l (xs.take q)) x := by
  unfold stepsL
  rw [List.take_add_one, h]; simp
theorem bit_step (l : List Nat) (x : InsD) (hd : x.dst < 64 * l.length) (r : Nat) : bitL (stepL l x) r = stepB (bitL l) x r := by
  unfold stepL stepB
  by_cases h0 : x.dst < 0
  · rw [if_pos h0, if_pos h0]
  · rw [if_neg h0, if_neg h0]
    by_cases hr : (r : Int) = x.dst
    · rw [if_pos hr]
      show _ = hotL l x
      by_cases hh : hotL l x = true
      · rw [if_pos hh, bit_put, outL_length, hh]
        have : decide (x.dst = (r : Int) ∧ r / 64 < l.length) = true := decide_eq_true ⟨hr.symm, by omega⟩
        rw [this, Bool.or_true]
      · rw [if_neg hh, bit_out]
        have h1 : decide (x.dst = (r : Int)) = true := decide_eq_true hr.symm
        rw [h1]
        cases hb : hotL l x with
        | true => exact absurd hb hh
        | false => simp
    · rw [if_neg hr]
      have h1 : decide (x.dst = (r : Int)) = false := decide_eq_false (fun e => hr e.symm)
      have h2 : decide (x.dst = (r : Int) ∧ r / 64 < l.length) = false := decide_eq_false (fun e => hr e.1.symm)
      by_cases hh : hotL l x = true
      · rw [if_pos hh, bit_put, outL_length, h2, bit_out, h1]; simp
      · rw [if_neg hh, bit_out, h1]; simp
theorem bit_steps : ∀ (xs : List InsD) (l : List Nat), (∀ x ∈ xs, x.dst < 64 * l.length) → bitL (stepsL l xs) = stepsB (bitL l) xs
  | [], l, _ => rfl
  | x :: xs, l, h => by
    show bitL (stepsL (stepL l x) xs) = stepsB (stepB (bitL l) x) xs
    rw [bit_steps xs (stepL l x) (fun y hy => by rw [stepL_length]; exact h y (List.mem_cons_of_mem _ hy))]
    congr 1
    funext r
    exact bit_step l x (h x List.mem_cons_self) r
/-- one instruction is another one, but for being more secret -/
def Less (x y : InsD) : Prop := x.dst = y.dst ∧ x.op = y.op ∧ readsD x = readsD y ∧ (x.secret = true → y.secret = true)
theorem Less.refl (x : InsD) : Less x x := ⟨rfl, rfl, rfl, fun h => h⟩
theorem hotB_mono {J J' : Nat → Bool} {x y : InsD} (hl : Less x y) (hJ : ∀ r, J r = true → J' r = true) (h : hotB J x = true) : hotB J' y = true := by
  obtain ⟨e1, e2, e3, e4⟩ := hl
  unfold hotB at h ⊢
  rw [Bool.or_eq_true] at h ⊢
  rcases h with h | h
  · exact Or.inl (e4 h)
  · rw [Bool.and_eq_true] at h ⊢
    refine Or.inr ⟨by rw [← e2]; exact h.1, ?_⟩
    have h2 := h.2
    rw [← e3]
    rw [List.any_eq_true] at h2 ⊢
    obtain ⟨a, ha, hb⟩ := h2
    rw [Bool.and_eq_true] at hb
    exact ⟨a, ha, by rw [Bool.and_eq_true]; exact ⟨hb.1, hJ _ hb.2⟩⟩
theorem stepB_mono {J J' : Nat → Bool} {x y : InsD} (hl : Less x y) (hJ : ∀ r, J r = true → J' r = true) (r : Nat) (h : stepB J x r = true) : stepB J' y r = true := by
  have e1 := hl.1
  unfold stepB at h ⊢
  rw [← e1]
  by_cases h0 : x.dst < 0
  · rw [if_pos h0] at h ⊢; exact hJ r h
  · rw [if_neg h0] at h ⊢
    by_cases hr : (r : Int) = x.dst
    · rw [if_pos hr] at h ⊢; exact hotB_mono hl hJ h
    · rw [if_neg hr] at h ⊢; exact hJ r h
theorem stepsB_mono : ∀ (xs ys : List InsD) {J J' : Nat → Bool}, xs.length = ys.length → (∀ (i : Nat) x y, xs[i]? = some x → ys[i]? = some y → Less x y) → (∀ r, J r = true → J' r = true) → ∀ r, stepsB J xs r = true → stepsB J' ys r = true
  | [], [], J, J', _, _, hJ, r, h => hJ r h
  | [], _ :: _, J, J', hl, _, _, _, _ => by simp at hl
  | _ :: _, [], J, J', hl, _, _, _, _ => by simp at hl
  | x :: xs, y :: ys, J, J', hl, hi, hJ, r, h => by
    refine stepsB_mono xs ys (J := stepB J x) (J' := stepB J' y) (by simpa using hl) (fun i a b ha hb => hi (i + 1) a b (by simpa using ha) (by simpa using hb)) ?_ r h
    exact fun r h => stepB_mono (hi 0 x y (by simp) (by simp)) hJ r h
/-- closed: secret parameters, and what follows -/
def Post (sec : List Bool) (blk : Nat → BlockD) (nx : Nat → List Int) (n : Nat) (J : Nat → Nat → Bool) : Prop :=
  (∀ i, sec[i]? = some true → J 0 i = true) ∧ ∀ b k : Nat, b < n → k < n → (k : Int) ∈ nx b → ∀ r, stepsB (J b) (blk b).ins r = true → J k r = true
theorem Post.less {sec sec' : List Bool} {blk blk' : Nat → BlockD} {nx : Nat → List Int} {n : Nat} {J : Nat → Nat → Bool} (h : Post sec' blk' nx n J) (hs : ∀ i : Nat, sec[i]? = some true → sec'[i]? = some true)
    (hb : ∀ b, b < n → (blk b).ins.length = (blk' b).ins.length ∧ ∀ (i : Nat) x y, (blk b).ins[i]? = some x → (blk' b).ins[i]? = some y → Less x y) : Post sec blk nx n J :=
  ⟨fun i hi => h.1 i (hs i hi), fun b k h1 h2 hk r hr => h.2 b k h1 h2 hk r (stepsB_mono _ _ (hb b h1).1 (hb b h1).2 (fun _ h => h) r hr)⟩
/-- nothing is closed where nothing is secret -/
theorem stepsB_none : ∀ (xs : List InsD) (r : Nat), (∀ x ∈ xs, x.secret = false) → stepsB (fun _ => false) xs r = false
  | [], r, _ => rfl
  | x :: xs, r, h => by
    have e : stepB (fun _ => false) x = fun _ => false := by
      funext r
      unfold stepB hotB
      rw [h x List.mem_cons_self]
      simp
    show stepsB (stepB (fun _ => false) x) xs r = false
    rw [e]
    exact stepsB_none xs r (fun y hy => h y (List.mem_cons_of_mem _ hy))
theorem post_none {sec : List Bool} {blk : Nat → BlockD} {nx : Nat → List Int} {n : Nat} (hs : ∀ i : Nat, sec[i]? ≠ some true) (hb : ∀ b, b < n → ∀ x ∈ (blk b).ins, x.secret = false) : Post sec blk nx n (fun _ _ => false) :=
  ⟨fun i hi => absurd hi (hs i), fun b k h1 h2 hk r hr => by rw [stepsB_none _ r (hb b h1)] at hr; cases hr⟩
section
variable {sec : List Bool} {blk : Nat → BlockD} {nx : Nat → List Int} {n K : Nat} {I : Nat → List Nat}
/-- what holds of the sets all the time -/
structure TInv (sec : List Bool) (blk : Nat → BlockD) (nx : Nat → List Int) (n K : Nat) (I : Nat → List Nat) : Prop where
  len : ∀ b, (I b).length = K
  lt : ∀ b, ∀ x ∈ I b, x < 2 ^ 64
  least : ∀ J, Post sec blk nx n J → ∀ b r, b < n → bitL (I b) r = true → J b r = true
theorem TInv.start (sec : List Bool) (blk : Nat → BlockD) (nx : Nat → List Int) (n K : Nat) : TInv sec blk nx n K (fun _ => List.replicate K 0) :=
  ⟨fun _ => by simp, fun _ x hx => by rw [List.eq_of_mem_replicate hx]; decide, fun J _ b r _ h => by rw [bitL_zero] at h; cases h⟩
theorem putL_lt {l : List Nat} (h : ∀ x ∈ l, x < 2 ^ 64) (i : Int) : ∀ x ∈ putL l i, x < 2 ^ 64 := by
  intro x hx
  unfold putL at hx
  split at hx
  · rename_i hc
    rcases List.mem_or_eq_of_mem_set hx with hx | rfl
    · exact h x hx
    · refine or_lt64 ?_ (Nat.mod_lt _ (by decide))
      by_cases hj : i.toNat / 64 < l.length
      · rw [List.getD_eq_getElem?_getD, List.getElem?_eq_getElem hj]
        exact h _ (List.getElem_mem hj)
      · exact absurd hc.2 hj
  · exact h x hx
theorem outL_lt {l : List Nat} (h : ∀ x ∈ l, x < 2 ^ 64) (i : Int) : ∀ x ∈ outL l i, x < 2 ^ 64 := by
  intro x hx
  unfold outL at hx
  split at hx
  · rename_i hc
    rcases List.mem_or_eq_of_mem_set hx with hx | rfl
    · exact h x hx
    · refine Nat.lt_of_le_of_lt Nat.and_le_left ?_
      rw [List.getD_eq_getElem?_getD, List.getElem?_eq_getElem hc.2]
      exact h _ (List.getElem_mem hc.2)
  · exact h x hx
theorem stepL_lt {l : List Nat} (h : ∀ x ∈ l, x < 2 ^ 64) (x : InsD) : ∀ y ∈ stepL l x, y < 2 ^ 64 := by
  unfold stepL
  split
  · exact h
  · split
    · exact putL_lt (outL_lt h _) _
    · exact outL_lt h _
theorem stepsL_lt : ∀ (xs : List InsD) (l : List Nat), (∀ x ∈ l, x < 2 ^ 64) → ∀ y ∈ stepsL l xs, y < 2 ^ 64
  | [], l, h => h
  | x :: xs, l, h => stepsL_lt xs (stepL l x) (stepL_lt h x)
/-- a secret parameter put in -/
theorem TInv.put (h : TInv sec blk nx n K I) {i : Nat} (hi : sec[i]? = some true) : TInv sec blk nx n K (updL I 0 (putL (I 0) i)) := by
  refine ⟨fun b => ?_, fun b => ?_, fun J hJ b r hb hr => ?_⟩
  · by_cases e : b = 0
    · subst e; rw [updL_same, putL_length]; exact h.len 0
    · rw [updL_other _ _ e]; exact h.len b
  · by_cases e : b = 0
    · subst e; rw [updL_same]; exact putL_lt (h.lt 0) _
    · rw [updL_other _ _ e]; exact h.lt b
  · by_cases e : b = 0
    · subst e
      rw [updL_same, bit_put, Bool.or_eq_true] at hr
      rcases hr with hr | hr
      · exact h.least J hJ 0 r hb hr
      · have := of_decide_eq_true hr
        have e : r = i := by omega
        subst e
        exact hJ.1 r hi
    · rw [updL_other _ _ e] at hr; exact h.least J hJ b r hb hr
theorem joinK_lt {l o : List Nat} (h : ∀ x ∈ l, x < 2 ^ 64) (ho : ∀ x ∈ o, x < 2 ^ 64) (k : Nat) : ∀ x ∈ joinK l o k, x < 2 ^ 64 := by
  intro x hx
  unfold joinK at hx
  rw [List.mem_map] at hx
  obtain ⟨j, hj, rfl⟩ := hx
  have hjl : j < l.length := List.mem_range.1 hj
  have h1 : l.getD j 0 < 2 ^ 64 := by rw [List.getD_eq_getElem?_getD, List.getElem?_eq_getElem hjl]; exact h _ (List.getElem_mem hjl)
  split
  · refine Nat.or_lt_two_pow h1 ?_
    by_cases hjo : j < o.length
    · rw [List.getD_eq_getElem?_getD, List.getElem?_eq_getElem hjo]; exact ho _ (List.getElem_mem hjo)
    · rw [getD_out o j (by omega)]; decide
  · exact h1
theorem put_secs {sec : List Bool} {l : List Nat} {j : Nat} (h : ∀ i : Nat, i < j → sec[i]? = some true → bitL l i = true) (hj : j < 64 * l.length) : ∀ i : Nat, i < j + 1 → sec[i]? = some true → bitL (putL l (j : Nat)) i = true := by
  intro i hi hs
  rw [bit_put, Bool.or_eq_true]
  by_cases e : i = j
  · subst e
    exact Or.inr (decide_eq_true ⟨rfl, by omega⟩)
  · exact Or.inl (h i (by omega) hs)
/-- what a block leaves -/
theorem TInv.out (h : TInv sec blk nx n K I) {b : Nat} (hb : b < n) (hd : ∀ x ∈ (blk b).ins, x.dst < 64 * K) :
    (stepsL (I b) (blk b).ins).length = K ∧ (∀ x ∈ stepsL (I b) (blk b).ins, x < 2 ^ 64) ∧ ∀ J, Post sec blk nx n J → ∀ r, bitL (stepsL (I b) (blk b).ins) r = true → stepsB (J b) (blk b).ins r = true :=
  ⟨by rw [stepsL_length, h.len], stepsL_lt _ _ (h.lt b), fun J hJ r hr => by
    rw [bit_steps _ _ (fun x hx => by rw [h.len]; exact hd x hx)] at hr
    exact stepsB_mono _ _ rfl (fun i x y hx hy => by rw [hx] at hy; rw [Option.some.inj hy]; exact Less.refl _) (fun r hr => h.least J hJ b r hb hr) r hr⟩
/-- what a block leaves, joined into one that follows -/
theorem TInv.join (h : TInv sec blk nx n K I) {b k : Nat} (hb : b < n) (hk : k < n) (hnx : (k : Int) ∈ nx b) {s : List Nat} (hsl : s.length = K) (hst : ∀ x ∈ s, x < 2 ^ 64) (hsJ : ∀ J, Post sec blk nx n J → ∀ r, bitL s r = true → stepsB (J b) (blk b).ins r = true) :
    TInv sec blk nx n K (updL I k (joinK (I k) s K)) := by
  refine ⟨fun c => ?_, fun c => ?_, fun J hJ c r hc hr => ?_⟩
  · by_cases e : c = k
    · subst e; rw [updL_same, joinK_length]; exact h.len c
    · rw [updL_other _ _ e]; exact h.len c
  · by_cases e : c = k
    · subst e; rw [updL_same]; exact joinK_lt (h.lt c) hst K
    · rw [updL_other _ _ e]; exact h.lt c
  · by_cases e : c = k
    · subst e
      rw [updL_same, joinK_bits (by rw [h.len, hsl]; simp) r (by rw [h.len, hsl]), Bool.or_eq_true] at hr
      rcases hr with hr | hr
      · exact h.least J hJ c r hc hr
      · exact hJ.2 b c hb hc hnx r (hsJ J hJ r hr)
    · rw [updL_other _ _ e] at hr; exact h.least J hJ c r hc hr
theorem join_grow (h : TInv sec blk nx n K I) {k : Nat} {s : List Nat} (hsl : s.length = K) (c r : Nat) (hr : bitL (I c) r = true) : bitL (updL I k (joinK (I k) s K) c) r = true := by
  by_cases e : c = k
  · subst e
    rw [updL_same, joinK_bits (by rw [h.len, hsl]; simp) r (by rw [h.len, hsl]), hr]; rfl
  · rw [updL_other _ _ e]; exact hr
theorem join_has (h : TInv sec blk nx n K I) {k : Nat} {s : List Nat} (hsl : s.length = K) (r : Nat) (hr : bitL s r = true) : bitL (updL I k (joinK (I k) s K) k) r = true := by
  rw [updL_same, joinK_bits (by rw [h.len, hsl]; simp) r (by rw [h.len, hsl]), hr]; simp
theorem join_tot (h : TInv sec blk nx n K I) {k : Nat} (hk : k < n) {s : List Nat} (hsl : s.length = K) (hst : ∀ x ∈ s, x < 2 ^ 64) (hm : moreK (I k) s K = true) : tot K I n < tot K (updL I k (joinK (I k) s K)) n := by
  have hmin : K = min (I k).length s.length := by rw [h.len, hsl]; simp
  have := more_some (n := n) (I := I) (b := k) hk (h.len k) hsl (h.lt k) hst (by rw [← hmin]; exact hm)
  rw [← hmin] at this
  exact this
/-- the first blocks are closed -/
def TDone (blk : Nat → BlockD) (nx : Nat → List Int) (n : Nat) (I : Nat → List Nat) (j : Nat) : Prop :=
  ∀ b k : Nat, b < j → k < n → (k : Int) ∈ nx b → ∀ r, bitL (stepsL (I b) (blk b).ins) r = true → bitL (I k) r = true
theorem bits_eq {l m : List Nat} (h : l.length = m.length) (h1 : ∀ x ∈ l, x < 2 ^ 64) (h2 : ∀ x ∈ m, x < 2 ^ 64) (hb : ∀ r, bitL l r = bitL m r) : l = m := by
  refine list_getD_ext h fun j => Nat.eq_of_testBit_eq fun i => ?_
  by_cases hj : j < l.length
  · by_cases hi : i < 64
    · have := hb (64 * j + i)
      unfold bitL at this
      rw [show (64 * j + i) / 64 = j by omega, show (64 * j + i) % 64 = i by omega] at this
      exact this
    · have a1 : l.getD j 0 < 2 ^ 64 := by rw [List.getD_eq_getElem?_getD, List.getElem?_eq_getElem hj]; exact h1 _ (List.getElem_mem hj)
      have a2 : m.getD j 0 < 2 ^ 64 := by rw [List.getD_eq_getElem?_getD, List.getElem?_eq_getElem (by omega)]; exact h2 _ (List.getElem_mem (by omega))
      have hp : (2 : Nat) ^ 64 ≤ 2 ^ i := Nat.pow_le_pow_right (by decide) (by omega)
      rw [Nat.testBit_lt_two_pow (Nat.lt_of_lt_of_le a1 hp), Nat.testBit_lt_two_pow (Nat.lt_of_lt_of_le a2 hp)]
  · rw [getD_out l j (by omega), getD_out m j (by omega)]
/-- a join that says that nothing is more leaves all as it was -/
theorem TInv.still (h : TInv sec blk nx n K I) {k : Nat} {s : List Nat} (hs : s.length = K) (hst : ∀ x ∈ s, x < 2 ^ 64) (hm : moreK (I k) s K = false) : joinK (I k) s K = I k := by
  have hmin : K = min (I k).length s.length := by rw [h.len, hs]; simp
  refine bits_eq (joinK_length _ _ _) (joinK_lt (h.lt k) hst K) (h.lt k) fun r => ?_
  have := more_none (I := I) (b := k) (h.len k) hs (h.lt k) hst (by rw [← hmin]; exact hm) k r
  rw [updL_same, ← hmin] at this
  exact this
theorem updL_self (I : Nat → List Nat) (k : Nat) : updL I k (I k) = I := by
  funext j
  unfold updL
  split
  · rename_i e; rw [e]
  · rfl
/-- closed: then it is closed in the sense of Post -/
theorem TInv.post (h : TInv sec blk nx n K I) (hd : TDone blk nx n I n) (hdst : ∀ b, b < n → ∀ x ∈ (blk b).ins, x.dst < 64 * K) (hs : ∀ i, sec[i]? = some true → bitL (I 0) i = true) : Post sec blk nx n (fun b => bitL (I b)) :=
  ⟨hs, fun b k h1 h2 hk r hr => hd b k h1 h2 hk r (by rw [bit_steps _ _ (fun x hx => by rw [h.len]; exact hdst b h1 x hx)]; exact hr)⟩
end
end Go.Proofs.YtbogcompeefoaaaDoor
namespace Go.Proofs.YtbogcompeefoaaaDoor
open Go.RowKit
set_option linter.unusedVariables false
set_option maxHeartbeats 1000000
/-- a row of sets, the first m of which are there -/
structure TS (W0 w : World) (B n m : Nat) (iv : Value) (vs : List Value) (I : Nat → List Nat) : Prop where
  ri : w.ownsRow B 103 1 iv n vs
  len : vs.length = n
  si : ∀ i, i < m → ∃ v : Value, vs[i]? = some v ∧ SetR w B v (I i)
  rest : ∀ i, m ≤ i → i < n → vs[i]? = some (.slice none 0 0)
  ap : ∀ (a b : Nat) (u v : Value), a ≠ b → vs[a]? = some u → vs[b]? = some v → u.ownBlock = none ∨ u.ownBlock ≠ v.ownBlock
  below : Below B W0 w
section
variable {W0 w w' : World} {B n m : Nat} {iv : Value} {vs : List Value} {I : Nat → List Nat}
theorem TS.more (h : TS W0 w B n m iv vs I) (hB : B ≤ W0.heap.size) (hb : Below w.heap.size w w') : TS W0 w' B n m iv vs I :=
  ⟨own_below h.ri hb, h.len, fun i hi => let ⟨v, h1, h2⟩ := h.si i hi; ⟨v, h1, set_below h2 hb⟩, h.rest, h.ap, h.below.trans (hb.mono (Nat.le_trans hB h.below.size))⟩
theorem TS.inSet (h : TS W0 w B n n iv vs I) (hB : B ≤ W0.heap.size) {i : Nat} (hi : i < n) {v : Value} (hv : vs[i]? = some v) {l : List Nat} (h1 : SetR w' B v l) (h2 : w.grownBy w' v.ownBlock) : TS W0 w' B n n iv vs (updL I i l) := by
  obtain ⟨v0, e0, hs⟩ := h.si i hi
  rw [hv] at e0
  obtain rfl := Option.some.inj e0
  refine ⟨h.ri.kept h2 (own_ne h.ri hs.1 (by decide)), h.len, fun j hj => ?_, h.rest, h.ap, below_of_grown h.below hB h2 (fun k hk => (hs.1.lt k hk).1)⟩
  by_cases e : j = i
  · subst e; exact ⟨v, hv, by rw [updL_same]; exact h1⟩
  · obtain ⟨u, e2, hu⟩ := h.si j hj
    exact ⟨u, e2, by rw [updL_other _ _ e]; exact own_kept hu h2 (h.ap j i u v e e2 hv)⟩
theorem TS.cell {g cap k : Nat} {v : Value} (h : TS W0 w B n m (.slice (some ⟨g, 0, none⟩) n cap) vs I) (hk : k < n) (hv : vs[k]? = some v) : w.cell? ⟨g, k, none⟩ = some v ∧ w.frozen? ⟨g, k, none⟩ = false ∧ g < w.heap.size :=
  row_cell h.ri hk hv
theorem TS.start {w2 : World} {n : Nat} {v1 : Value} (h1 : w2.ownsRow w.heap.size 103 1 v1 n (List.replicate n (.slice none 0 0))) (b1 : Below w.heap.size w w2) (I : Nat → List Nat) : TS w w2 w.heap.size n 0 v1 (List.replicate n (.slice none 0 0)) I := by
  refine ⟨h1, by simp, fun i hi => by omega, fun i _ hi => by rw [List.getElem?_replicate, if_pos hi], ?_, b1⟩
  intro a b u v _ hu _
  have := List.eq_of_mem_replicate (List.mem_of_getElem? hu)
  subst this
  exact Or.inl rfl
theorem TS.lt (h : TS W0 w B n m iv vs I) : ∀ (a : Nat) (v : Value), vs[a]? = some v → ∀ g, v.ownBlock = some g → g < w.heap.size := by
  intro a v hv g hg
  have ha : a < n := by have := (List.getElem?_eq_some_iff.1 hv).1; have := h.len; omega
  by_cases h2 : a < m
  · obtain ⟨u, e, hu⟩ := h.si a h2
    rw [hv] at e
    obtain rfl := Option.some.inj e
    exact (hu.1.lt g hg).2
  · have := h.rest a (by omega) ha
    rw [hv] at this
    obtain rfl := Option.some.inj this
    cases hg
theorem TS.fill {gi ci : Nat} {v1 : Value} {l1 : List Nat} {w2 : World} (h : TS W0 w B n m (.slice (some ⟨gi, 0, none⟩) n ci) vs I) (hB : B ≤ W0.heap.size) (hm : m < n) (s1 : SetR w2 w.heap.size v1 l1) (b : Below w.heap.size w w2) :
    TS W0 (w2.setCell ⟨gi, m, none⟩ v1) B n (m + 1) (.slice (some ⟨gi, 0, none⟩) n ci) (vs.set m v1) (updL I m l1) := by
  have h2 := h.more hB b
  have hBw : B ≤ w.heap.size := Nat.le_trans hB h.below.size
  obtain ⟨i1, i2⟩ := h2.ri.stored m v1
  have hlen := h.len
  have keep : ∀ {v : Value} {l : List Nat} {B2 : Nat}, SetR w2 B2 v l → SetR (w2.setCell ⟨gi, m, none⟩ v1) B2 v l := fun hs => own_kept hs i2 (own_ne hs.1 h2.ri (by decide))
  have at1 : (vs.set m v1)[m]? = some v1 := by rw [List.getElem?_set_self (by omega)]
  have at3 : ∀ j, j ≠ m → (vs.set m v1)[j]? = vs[j]? := fun j h1 => by rw [List.getElem?_set_ne (Ne.symm h1)]
  have old : ∀ {x u : Value} {a : Nat} {l : List Nat}, SetR w2 w.heap.size x l → vs[a]? = some u → x.ownBlock = none ∨ x.ownBlock ≠ u.ownBlock := by
    intro x u a l hx hu
    cases e : x.ownBlock with
    | none => exact Or.inl rfl
    | some g => exact Or.inr (fun e2 => by have := (hx.1.lt g e).1; have := h.lt a u hu g e2.symm; omega)
  refine ⟨i1, by simp [hlen], fun j hj => ?_, fun j h1 h2' => ?_, ?_, ?_⟩
  · by_cases e : j = m
    · subst e; exact ⟨v1, at1, by rw [updL_same]; exact keep ⟨own_base s1.1 hBw, s1.2⟩⟩
    · obtain ⟨u, e2, hu⟩ := h2.si j (by omega)
      exact ⟨u, by rw [at3 j e]; exact e2, by rw [updL_other _ _ e]; exact keep hu⟩
  · rw [at3 j (by omega)]; exact h.rest j (by omega) h2'
  · intro a b u v hab hu hv
    by_cases ea : a = m
    · subst ea
      rw [at1] at hu
      obtain rfl := Option.some.inj hu
      rw [at3 b (Ne.symm hab)] at hv
      exact old s1 hv
    · rw [at3 a ea] at hu
      by_cases eb : b = m
      · subst eb
        rw [at1] at hv
        obtain rfl := Option.some.inj hv
        exact apart_symm (old s1 hu)
      · rw [at3 b eb] at hv
        exact h.ap a b u v hab hu hv
  · exact below_of_grown h2.below hB i2 (fun k hk => (h.ri.lt k hk).1)
end
end Go.Proofs.YtbogcompeefoaaaDoor
namespace Go.Proofs.YtbogcompeefoaaaDoor
open Go.RowKit
set_option linter.unusedVariables false
set_option maxHeartbeats 1000000
theorem arg_any (w : World) (base : Nat) (sv : Value) (l : List Nat) (a : ArgD) (hs : SetR w base sv l) (ha : In64 a.reg) :
    Calls Tryd.prog 36 #[sv, .agg #[.int .i64 a.reg, .int .i64 a.num]] w fun e w' => e = .returned (.bool (hasL l a.reg)) ∧ Below w.heap.size w w' := by
  have hal := below_alloc (.cells #[.int .i64 a.reg, .int .i64 a.num] 52) (Below.refl w.heap.size w)
  have HAL := Lib.hid hal
  have HS1 := Lib.hid (set_below hs hal)
  have HA := Lib.hid ha
  clear hs ha hal
  go_enter Tryd.func36, Tryd.ntmps36
  go_wp2_with fail
  refine (has_any _ base sv l a.reg HS1.out HA.out.2).mono ?_
  rintro e w2 ⟨rfl, rfl⟩
  go_wp2_with fail
  go_returns
  exact ⟨rfl, HAL.out⟩
theorem any_take {α : Type} {l : List α} {k : Nat} {x : α} (p : α → Bool) (h : l[k]? = some x) : (l.take (k + 1)).any p = ((l.take k).any p || p x) := by
  rw [List.take_add_one, h]; simp
set_option maxRecDepth 100000 in
theorem step_any (w : World) (base : Nat) (sv va : Value) (l : List Nat) (x : InsD) (hs : SetR w base sv l) (h0 : In64 x.op) (h1 : In64 x.dst) (h2 : In64 x.a.reg ∧ In64 x.a.num) (h3 : In64 x.b.reg ∧ In64 x.b.num) (ha : SlR w 2 ArgR va x.args)
    (hsl : x.args.length ≤ 1000000) :
    Calls Tryd.prog 37 #[sv, insV x va] w (SetTo w base sv (stepL l x)) := by
  obtain ⟨A, cap, rfl, _⟩ := id ha
  have HA := Lib.hid ha
  have H0 := Lib.hid h0
  have H1 := Lib.hid h1
  have H2 := Lib.hid h2
  have H3 := Lib.hid h3
  have HSl := Lib.hid hsl
  have hal := below_alloc (.cells #[.int .i64 x.op, .int .i64 x.dst, .int .i64 x.a.reg, .int .i64 x.a.num, .int .i64 x.b.reg, .int .i64 x.b.num, .int .i64 x.size, .bool x.signed, .bool x.secret, .int .i64 x.ref, .int .i64 x.off, .slice A x.args.length cap] 74) (Below.refl w.heap.size w)
  have HAL := Lib.hid hal
  have HS1 := Lib.hid (set_below hs hal)
  have HBK := Lib.hid (blk_new w (.cells #[.int .i64 x.op, .int .i64 x.dst, .int .i64 x.a.reg, .int .i64 x.a.num, .int .i64 x.b.reg, .int .i64 x.b.num, .int .i64 x.size, .bool x.signed, .bool x.secret, .int .i64 x.ref, .int .i64 x.off, .slice A x.args.length cap] 74))
  have HA1 := Lib.hid (ha.later (by decide) hal)
  obtain ⟨q1, q2⟩ := h1
  obtain ⟨q3, q4⟩ := h0
  clear hs h2 h3 ha hsl hal
  by_cases hd : x.dst < 0
  · have d1 : decide (x.dst < 0) = true := decide_eq_true hd
    have HST := Lib.hid (show stepL l x = l by unfold stepL; rw [if_pos hd])
    go_enter Tryd.func37, Tryd.ntmps37
    go_wp2_with fail
    go_returns
    refine ⟨rfl, ?_, grown_of_below HAL.out⟩
    rw [HST.out]; exact HS1.out
  have d1 : decide (x.dst < 0) = false := decide_eq_false hd
  have HST := Lib.hid (show stepL l x = if hotL l x = true then putL (outL l x.dst) x.dst else outL l x.dst by unfold stepL; rw [if_neg hd])
  have HND := Lib.hid hd
  clear hd
  have hcase : x.op = 28 ∨ x.op = 29 ∨ ((x.op == 28) = false ∧ (x.op == 29) = false) := by simp only [beq_eq_false_iff_ne, ne_eq]; omega
  obtain ⟨w1, hw1⟩ : ∃ z, z = w.alloc (.cells #[.int .i64 x.op, .int .i64 x.dst, .int .i64 x.a.reg, .int .i64 x.a.num, .int .i64 x.b.reg, .int .i64 x.b.num, .int .i64 x.size, .bool x.signed, .bool x.secret, .int .i64 x.ref, .int .i64 x.off, .slice A x.args.length cap] 74) := ⟨_, rfl⟩
  have HZ := Lib.hid (show w.heap.size < w1.heap.size by rw [hw1]; simp)
  obtain ⟨gb, hgb0⟩ : ∃ z, w.heap.size = z := ⟨_, rfl⟩
  have HGB := Lib.hid hgb0
  have HW1 := Lib.hid hw1
  clear hgb0 hw1
  have HCL := Lib.hid (show x.op = 28 ∨ x.op = 29 → hotL l x = x.secret from fun h => by unfold hotL hotB; rw [decide_eq_true h]; simp)
  rcases hcase with k | k | ⟨k1, k2⟩
  · have b1 : (x.op == 28) = true := by simp [k]
    have HC := Lib.hid (HCL.out (Or.inl k))
    clear k
    go_enter Tryd.func37, Tryd.ntmps37
    go_wp2_with fail
    rw [← HW1.out] at HAL HS1 HBK ⊢
    rw [HGB.out] at HBK HAL ⊢
    refine (out_any w1 base sv l x.dst HS1.out H1.out.2).mono ?_
    rintro e w3 ⟨rfl, hs3, hg3⟩
    have HS3 := Lib.hid hs3
    have HG3 := Lib.hid (grown_trans (grown_of_below (r := sv.ownBlock) (w := w) (by rw [HGB.out]; exact HAL.out)) hg3)
    have HB3 := Lib.hid (blk_kept HBK.out hg3 (own_blk (HS1.out).1 (HBK.out) (by decide)))
    have k1 : w3.cell? ⟨gb, 1, none⟩ = some (.int .i64 x.dst) := blk_cell HB3.out rfl
    have lk := blk_lt HB3.out
    clear hs3 hg3
    cases hh : hotL l x with
    | false =>
      rw [hh] at HST HC
      have hsc := HC.out.symm
      have HHH := Lib.hid hh
      clear hh
      go_wp2_with fail
      go_returns
      refine ⟨rfl, ?_, HG3.out⟩
      rw [HST.out]; simpa using HS3.out
    | true =>
      rw [hh] at HST HC
      have hsc := HC.out.symm
      have HHH := Lib.hid hh
      clear hh
      go_wp2_with fail
      refine (put_any w3 base sv (outL l x.dst) x.dst HS3.out H1.out.2).mono ?_
      rintro e w4 ⟨rfl, hs4, hg4⟩
      have HS4 := Lib.hid hs4
      have HG4 := Lib.hid (grown_trans HG3.out hg4)
      clear hs4 hg4
      go_wp2_with fail
      go_returns
      refine ⟨rfl, ?_, HG4.out⟩
      rw [HST.out]; simpa using HS4.out
  · have b1 : (x.op == 28) = false := by simp [k]
    have b2 : (x.op == 29) = true := by simp [k]
    have HC := Lib.hid (HCL.out (Or.inr k))
    clear k
    go_enter Tryd.func37, Tryd.ntmps37
    go_wp2_with fail
    rw [← HW1.out] at HAL HS1 HBK ⊢
    rw [HGB.out] at HBK HAL ⊢
    refine (out_any w1 base sv l x.dst HS1.out H1.out.2).mono ?_
    rintro e w3 ⟨rfl, hs3, hg3⟩
    have HS3 := Lib.hid hs3
    have HG3 := Lib.hid (grown_trans (grown_of_below (r := sv.ownBlock) (w := w) (by rw [HGB.out]; exact HAL.out)) hg3)
    have HB3 := Lib.hid (blk_kept HBK.out hg3 (own_blk (HS1.out).1 (HBK.out) (by decide)))
    have k1 : w3.cell? ⟨gb, 1, none⟩ = some (.int .i64 x.dst) := blk_cell HB3.out rfl
    have lk := blk_lt HB3.out
    clear hs3 hg3
    cases hh : hotL l x with
    | false =>
      rw [hh] at HST HC
      have hsc := HC.out.symm
      have HHH := Lib.hid hh
      clear hh
      go_wp2_with fail
      go_returns
      refine ⟨rfl, ?_, HG3.out⟩
      rw [HST.out]; simpa using HS3.out
    | true =>
      rw [hh] at HST HC
      have hsc := HC.out.symm
      have HHH := Lib.hid hh
      clear hh
      go_wp2_with fail
      refine (put_any w3 base sv (outL l x.dst) x.dst HS3.out H1.out.2).mono ?_
      rintro e w4 ⟨rfl, hs4, hg4⟩
      have HS4 := Lib.hid hs4
      have HG4 := Lib.hid (grown_trans HG3.out hg4)
      clear hs4 hg4
      go_wp2_with fail
      go_returns
      refine ⟨rfl, ?_, HG4.out⟩
      rw [HST.out]; simpa using HS4.out
  · have HC := Lib.hid (show hotL l x = (x.secret || (readsD x).any fun a => hasL l a.reg) by
      unfold hotL hotB hasL
      have : decide (x.op = 28 ∨ x.op = 29) = false := decide_eq_false (by simp only [beq_eq_false_iff_ne, ne_eq] at k1 k2; omega)
      rw [this]; rfl)
    go_enter Tryd.func37, Tryd.ntmps37
    go_wp2_with fail
    rw [← HW1.out] at HAL HS1 HBK HA1 ⊢
    rw [HGB.out] at HBK HAL ⊢
    refine (ireads_new w1 x _ H0.out H2.out H3.out HA1.out HSl.out).mono ?_
    rintro e w2 ⟨v, rfl, hv, hb2, how⟩
    have HAR := Lib.hid hv.argsIn
    obtain ⟨Av, cv, rfl, l1, l2, l3⟩ := hv
    have HV := Lib.hid l3
    have HB2 := Lib.hid (show Below gb w w2 by have h1 := HAL.out; rw [← HGB.out] at h1 ⊢; exact h1.bt hb2)
    have HS2 := Lib.hid (set_below HS1.out hb2)
    have HBK2 := Lib.hid (blk_below HBK.out hb2)
    have hrl : (readsD x).length ≤ 9223372036854775807 := by unfold maxLen at l2; omega
    clear l1 l2 l3 hb2 how
    go_wp2_with fail
    go_loopw [4, 17] (fun h i wr => ∃ j : Nat, j ≤ (readsD x).length ∧ i = .int .i64 j ∧ h = .bool (x.secret || ((readsD x).take j).any fun a => hasL l a.reg) ∧ Below w2.heap.size w2 wr) (fun _ i _ => (readsD x).length - (intOf i).toNat)
    case atStart => exact ⟨0, by omega, rfl, by simp, Below.refl _ _⟩
    case round =>
      obtain ⟨j, hj, rfl, rfl, hb⟩ := hrel
      have HBR := Lib.hid hb
      by_cases hlt : j < (readsD x).length
      · obtain ⟨a, ha⟩ : ∃ a, (readsD x)[j]? = some a := ⟨_, List.getElem?_eq_getElem hlt⟩
        have HT := Lib.hid (any_take (fun a => hasL l a.reg) ha)
        obtain ⟨lb, lo, cs, rfl, e1, e2, e3, e4, e5⟩ := HV.out j a ha
        subst e3
        have r0 := later (e2 0 (by omega)) hb
        have r1 := later (e2 1 (by omega)) hb
        rw [Nat.add_zero] at r0
        have lr := World.block_lt_of_cell? _ _ r0
        have HSR := Lib.hid (set_below (set_below HS2.out hb) (below_alloc (.cells #[.int .i64 a.reg, .int .i64 a.num] 52) (Below.refl wr.heap.size wr)))
        have E4 := Lib.hid e4
        clear e1 e2 e4 e5 ha hb
        obtain ⟨hc, hhc⟩ : ∃ z, (x.secret || ((readsD x).take j).any fun a => hasL l a.reg) = z := ⟨_, rfl⟩
        rw [hhc]
        cases hc with
        | true =>
          have HN := Lib.hid (show (x.secret || ((readsD x).take (j + 1)).any fun a => hasL l a.reg) = true by rw [HT.out, ← Bool.or_assoc, hhc]; rfl)
          clear hhc
          go_wp2_with fail
          go_roundw
          case rel => exact ⟨j + 1, by omega, by go_num, by rw [HN.out], below_alloc _ HBR.out⟩
          case measure => simp [intOf]; omega
        | false =>
          have HN := Lib.hid (show (x.secret || ((readsD x).take (j + 1)).any fun a => hasL l a.reg) = hasL l a.reg by rw [HT.out, ← Bool.or_assoc, hhc]; rfl)
          clear hhc
          go_wp2_with fail
          refine (arg_any _ base sv l a HSR.out E4.out).mono ?_
          rintro e w5 ⟨rfl, hb5⟩
          have HB5 := Lib.hid (HBR.out.bt (below_new hb5))
          clear hb5
          go_wp2_with fail
          go_roundw
          case rel => exact ⟨j + 1, by omega, by go_num, by rw [HN.out], HB5.out⟩
          case measure => simp [intOf]; omega
      · have e : j = (readsD x).length := by omega
        subst e
        rw [List.take_length, ← HC.out]
        have HSE := Lib.hid (set_below HS2.out hb)
        have HBE := Lib.hid (show Below gb w wr by have h2 := HB2.out; rw [← HGB.out] at h2 ⊢; exact h2.bt hb)
        have HKE := Lib.hid (blk_below HBK2.out hb)
        have kk1 : wr.cell? ⟨gb, 1, none⟩ = some (.int .i64 x.dst) := blk_cell HKE.out rfl
        have lkk := blk_lt HKE.out
        clear hb
        go_wp2_with fail
        clear kk1 lkk
        refine (out_any wr base sv l x.dst HSE.out H1.out.2).mono ?_
        rintro e w3 ⟨rfl, hs3, hg3⟩
        have HS3 := Lib.hid hs3
        have HG3 := Lib.hid (grown_trans (grown_of_below (r := sv.ownBlock) (w := w) (by rw [HGB.out]; exact HBE.out)) hg3)
        have HB3 := Lib.hid (blk_kept HKE.out hg3 (own_blk (HSE.out).1 (HKE.out) (by decide)))
        have k1 : w3.cell? ⟨gb, 1, none⟩ = some (.int .i64 x.dst) := blk_cell HB3.out rfl
        have lk := blk_lt HB3.out
        clear hs3 hg3
        cases hh : hotL l x with
        | false =>
          rw [hh] at HST
          have HHH := Lib.hid hh
          clear hh
          go_wp2_with fail
          go_returns
          refine ⟨rfl, ?_, HG3.out⟩
          rw [HST.out]; simpa using HS3.out
        | true =>
          rw [hh] at HST
          have HHH := Lib.hid hh
          clear hh
          go_wp2_with fail
          refine (put_any w3 base sv (outL l x.dst) x.dst HS3.out H1.out.2).mono ?_
          rintro e w4 ⟨rfl, hs4, hg4⟩
          have HS4 := Lib.hid hs4
          have HG4 := Lib.hid (grown_trans HG3.out hg4)
          clear hs4 hg4
          go_wp2_with fail
          go_returns
          refine ⟨rfl, ?_, HG4.out⟩
          rw [HST.out]; simpa using HS4.out
end Go.Proofs.YtbogcompeefoaaaDoor
namespace Go.Proofs.YtbogcompeefoaaaDoor
open Go.RowKit
set_option linter.unusedVariables false
set_option maxHeartbeats 4000000
/-- what solve answers -/
def SolveR (w : World) (f : FuncD) (n K : Nat) (e : Ending) (w' : World) : Prop :=
  ∃ (iv : Value) (vs : List Value) (I : Nat → List Nat), e = .returned iv ∧ TS w w' w.heap.size n n iv vs I ∧ TInv f.secret (blkF f) (nxF f) n K I ∧ TDone (blkF f) (nxF f) n I n ∧ (∀ i : Nat, f.secret[i]? = some true → bitL (I 0) i = true)
set_option maxRecDepth 100000 in
theorem solve_any (W0 w : World) (h0 : Below W0.heap.size W0 w) (fb fo : Nat) (f : FuncD) (vc vb : Value) (c2 : w.cell? ⟨fb, fo + 2, none⟩ = some vc) (c5 : w.cell? ⟨fb, fo + 5, none⟩ = some vb) (R : Nat) (c3 : w.cell? ⟨fb, fo + 3, none⟩ = some (.int .i64 (R : Nat)))
    (hc : SlR W0 1 BoolR vc f.secret) (hb : SlR W0 9 (BlockR W0) vb f.blocks) (n : Nat) (hn : n = f.blocks.length) (h0n : 0 < n) (hn6 : n ≤ 1000000) (hR6 : R ≤ 1000000) (hnx : ∀ i k, i < n → k ∈ nxF f i → 0 ≤ k ∧ k < n)
    (hslim : ∀ b ∈ f.blocks, ∀ x ∈ b.ins, x.args.length ≤ 1000000) (hdst : ∀ b ∈ f.blocks, ∀ x ∈ b.ins, x.dst < R) (hsl : f.secret.length ≤ R) :
    Calls Tryd.prog 34 #[.pointer (some ⟨fb, fo, none⟩)] w (SolveR w f n ((R + 63) / 64)) := by
  obtain ⟨A, cap, rfl, _, m3, hi⟩ := hb
  obtain ⟨A1, cap1, rfl, _, m4, hi1⟩ := hc
  have HI := Lib.hid hi
  have HI1 := Lib.hid hi1
  have HX := Lib.hid hnx
  have H0 := Lib.hid h0
  have HN := Lib.hid hn
  have HSl := Lib.hid hslim
  have HDs := Lib.hid hdst
  have C5 := Lib.hid c5
  have C3 := Lib.hid c3
  have C2 := Lib.hid c2
  have HSC := Lib.hid hsl
  rw [← hn] at c5 C5
  obtain ⟨w1, hr1, ho1, hb1⟩ := make_sets w n hn6
  have HL1 := Lib.hid (TS.start (w := w) (n := n) ho1 hb1 (fun _ => List.replicate ((R + 63) / 64) 0))
  have BB := Lib.hid (Nat.le_refl w.heap.size)
  have hfl : fb < w.heap.size := World.block_lt_of_cell? _ _ c3
  have HFL := Lib.hid hfl
  clear hi hi1 hnx h0 hn m3 m4 hslim hdst hsl c3 c2 ho1 hb1
  go_enter Tryd.func34, Tryd.ntmps34
  go_wp2_with fail
  obtain ⟨gi, hgi⟩ : ∃ z, w.heap.size = z := ⟨_, rfl⟩
  have hfi : fb ≠ gi := by omega
  have HGI := Lib.hid hgi
  rw [hgi] at HL1 ⊢
  clear hr1 hfl hgi c5
  go_loopw [23] (fun i wr => ∃ (m : Nat) (vs : List Value), m ≤ n ∧ i = .int .i64 m ∧ TS w wr w.heap.size n m (.slice (some ⟨gi, 0, none⟩) n n) vs (fun _ => List.replicate ((R + 63) / 64) 0)) (fun i _ => n - (intOf i).toNat)
  case atStart => exact ⟨0, _, by omega, rfl, by have h := HL1.out; rw [← HGI.out] at h ⊢; exact h⟩
  case round =>
    obtain ⟨m, vs, hm, rfl, hL⟩ := hrel
    have HL := Lib.hid hL
    clear hL HL1
    by_cases hlt : m < n
    · have hv1 := HL.out.rest m (Nat.le_refl _) hlt
      obtain ⟨ci1, fi1, li1⟩ := HL.out.cell hlt hv1
      have c3 := later C3.out HL.out.below
      have lfb := World.block_lt_of_cell? _ _ c3
      have CI := Lib.hid (And.intro ci1 (And.intro fi1 li1))
      clear hv1 ci1 fi1 li1
      go_wp2_with fail
      refine (empty_any _ R hR6).mono ?_
      rintro e w3 ⟨v1, rfl, hs1, hb1⟩
      obtain ⟨A3, k3, hv3, _⟩ := hs1.slice_
      rw [List.length_replicate] at hv3
      subst hv3
      have HF := Lib.hid (TS.fill HL.out BB.out hlt hs1 hb1)
      have q1 : w3.cell? ⟨gi, m, none⟩ = some (.slice none 0 0) := later CI.out.1 hb1
      have q2 : w3.frozen? ⟨gi, m, none⟩ = false := (hb1.frozen (p := ⟨gi, m, none⟩) CI.out.2.2).trans CI.out.2.1
      have q3 : gi < w3.heap.size := Nat.lt_of_lt_of_le CI.out.2.2 hb1.size
      rw [updL_const] at HF
      clear hs1 hb1 c3 lfb
      go_wp2_with fail
      go_roundw
      case rel => exact ⟨m + 1, _, by omega, by go_num, HF.out⟩
      case measure => simp [intOf]; omega
    · have e : m = n := by omega
      subst e
      have c2 := later C2.out HL.out.below
      have lfb := World.block_lt_of_cell? _ _ c2
      have hKb : (R + 63) / 64 ≤ 1000000 := by omega
      have HRK := Lib.hid (show R ≤ 64 * ((R + 63) / 64) by omega)
      have HKB := Lib.hid hKb
      have HI0 := Lib.hid (TInv.start f.secret (blkF f) (nxF f) m ((R + 63) / 64))
      have hsc := HSC.out
      clear hKb
      generalize (R + 63) / 64 = K at *
      go_wp2_with fail
      clear c2 lfb
      go_loopw [40] (fun i wr => ∃ (j : Nat) (I : Nat → List Nat), j ≤ f.secret.length ∧ i = .int .i64 j ∧ TS w wr w.heap.size m m (.slice (some ⟨gi, 0, none⟩) m m) vs I ∧ TInv f.secret (blkF f) (nxF f) m K I ∧ (∀ i : Nat, i < j → f.secret[i]? = some true → bitL (I 0) i = true)) (fun i _ => f.secret.length - (intOf i).toNat)
      case atStart => exact ⟨0, _, by omega, rfl, HL.out, HI0.out, fun i hi => by omega⟩
      case round =>
        obtain ⟨j, I, hj, rfl, hL, hI, hS⟩ := hrel
        have HL2 := Lib.hid hL
        have HI2 := Lib.hid hI
        have HS2 := Lib.hid hS
        clear hL hI hS
        by_cases hltj : j < f.secret.length
        · obtain ⟨b, hbj⟩ : ∃ b, f.secret[j]? = some b := ⟨_, List.getElem?_eq_getElem hltj⟩
          have HBJ := Lib.hid hbj
          obtain ⟨lb, lo, cs, rfl, e1, e2, e3⟩ := HI1.out j b hbj
          have e3' : cs = [.bool b] := e3
          subst e3'
          have r0 := later (e2 0 (by omega)) (H0.out.trans (HL2.out.below.mono H0.out.size))
          rw [Nat.add_zero, Nat.mul_one] at r0
          have lr0 := World.block_lt_of_cell? _ _ r0
          clear e1 e2 hbj e3
          cases b with
          | false =>
            have HNS := Lib.hid (show ∀ i : Nat, i < j + 1 → f.secret[i]? = some true → bitL (I 0) i = true from fun i hi h => by
              by_cases e : i = j
              · subst e; rw [HBJ.out] at h; cases h
              · exact HS2.out i (by omega) h)
            go_wp2_with fail
            go_roundw
            case rel => exact ⟨j + 1, I, by omega, by go_num, HL2.out, HI2.out, HNS.out⟩
            case measure => simp [intOf]; omega
          | true =>
            obtain ⟨v, hv, hsv⟩ := HL2.out.si 0 h0n
            obtain ⟨cv, _, hgv⟩ := HL2.out.cell h0n hv
            have HV := Lib.hid hv
            have HSV := Lib.hid hsv
            have hlv := HI2.out.len 0
            obtain ⟨Av, kv, hve, _⟩ := hsv.slice_
            rw [hlv] at hve
            subst hve
            clear hv hsv hlv
            go_wp2_with fail
            refine (put_any _ w.heap.size _ (I 0) (j : Nat) HSV.out (by omega)).mono ?_
            rintro e w4 ⟨rfl, hs4, hg4⟩
            have L4 := Lib.hid (HL2.out.inSet BB.out h0n HV.out hs4 hg4)
            have I4 := Lib.hid (HI2.out.put HBJ.out)
            have hjK : j < 64 * (I 0).length := by have := HRK.out; have := HSC.out; rw [HI2.out.len]; omega
            have S4 := Lib.hid (show ∀ i : Nat, i < j + 1 → f.secret[i]? = some true → bitL (updL I 0 (putL (I 0) j) 0) i = true by rw [updL_same]; exact put_secs HS2.out hjK)
            clear hjK
            clear hs4 hg4 cv hgv
            go_wp2_with fail
            go_roundw
            case rel => exact ⟨j + 1, _, by omega, by go_num, L4.out, I4.out, S4.out⟩
            case measure => simp [intOf]; omega
        · have e : j = f.secret.length := by omega
          subst e
          have HSS := Lib.hid (show ∀ i : Nat, f.secret[i]? = some true → bitL (I 0) i = true from fun i h => HS2.out i (List.getElem?_eq_some_iff.1 h).1 h)
          clear HS2 HI0 HL hsc
          go_wp2_with fail
          go_loopg [7] (m * (64 * K) + 1) (fun g a wr => ∃ (ag : Bool) (I : Nat → List Nat), a = .bool ag ∧ TS w wr w.heap.size m m (.slice (some ⟨gi, 0, none⟩) m m) vs I ∧ TInv f.secret (blkF f) (nxF f) m K I ∧ (∀ i : Nat, f.secret[i]? = some true → bitL (I 0) i = true) ∧ (ag = true → m * (64 * K) + 1 ≤ tot K I m + g) ∧ (ag = false → TDone (blkF f) (nxF f) m I m))
          case atStart => exact ⟨true, I, rfl, HL2.out, HI2.out, HSS.out, (fun _ => by omega), (fun h => by cases h)⟩
          case round =>
            obtain ⟨ag, I, rfl, hL, hI, hS, hT, hD⟩ := hrel
            have HLg := Lib.hid hL
            have HIg := Lib.hid hI
            have HSg := Lib.hid hS
            cases ag
            · have HDg := Lib.hid (hD rfl)
              clear hL hI hT hD hS
              go_wp2_with fail
              go_returns
              exact ⟨_, vs, I, rfl, HLg.out, HIg.out, HDg.out, HSg.out⟩
            · have HTg := Lib.hid (hT rfl)
              have c5 := later C5.out hL.below
              have lfb := World.block_lt_of_cell? _ _ c5
              clear hL hI hT hD hS
              go_wp2_with fail
              clear c5 lfb
              go_loopw [7, 58] (fun a i wr => ∃ (ag : Bool) (j : Nat) (I2 : Nat → List Nat), a = .bool ag ∧ j ≤ m ∧ i = .int .i64 j ∧ TS w wr w.heap.size m m (.slice (some ⟨gi, 0, none⟩) m m) vs I2 ∧ TInv f.secret (blkF f) (nxF f) m K I2 ∧ (∀ i : Nat, f.secret[i]? = some true → bitL (I2 0) i = true) ∧ tot K I m ≤ tot K I2 m ∧ (ag = true → tot K I m < tot K I2 m) ∧ (ag = false → TDone (blkF f) (nxF f) m I2 j)) (fun _ i _ => m - (intOf i).toNat)
              case atStart => exact ⟨false, 0, I, rfl, by omega, rfl, HLg.out, HIg.out, HSg.out, Nat.le_refl _, (fun h => by cases h), (fun _ b k h1 => by omega)⟩
              case round =>
                obtain ⟨ag, j, I2, rfl, hj, rfl, hL, hI, hS, hTl, hT, hD⟩ := hrel
                have HL3 := Lib.hid hL
                have HI3 := Lib.hid hI
                have HS3 := Lib.hid hS
                have HTL := Lib.hid hTl
                have HT3 := Lib.hid hT
                have HD3 := Lib.hid hD
                clear hL hI hS hTl hT hD HLg HIg HSg
                by_cases hltb : j < m
                · obtain ⟨blk, hblk⟩ : ∃ b', f.blocks[j]? = some b' := ⟨_, List.getElem?_eq_getElem (by rw [← HN.out]; exact hltb)⟩
                  obtain ⟨bb, bo, cs, rfl, e1, e2, vi, e3, y1, y2, t1, t2, t3, t4, t5, t6, t7, t8⟩ := HI.out j blk hblk
                  subst e3
                  have H03 := H0.out.trans (HL3.out.below.mono H0.out.size)
                  obtain ⟨A9, cap9, rfl, _, _, h9⟩ := id y1
                  have H9 := Lib.hid h9
                  have r0 := later (e2 0 (by omega)) H03
                  have r1 := later (e2 1 (by omega)) H03
                  have r2 := later (e2 2 (by omega)) H03
                  have r3 := later (e2 3 (by omega)) H03
                  have r4 := later (e2 4 (by omega)) H03
                  have r5 := later (e2 5 (by omega)) H03
                  have r6 := later (e2 6 (by omega)) H03
                  have r7 := later (e2 7 (by omega)) H03
                  have r8 := later (e2 8 (by omega)) H03
                  rw [Nat.add_zero] at r0
                  have lr0 := World.block_lt_of_cell? _ _ r0
                  have HNx := Lib.hid (nxF_of hblk)
                  have HBk := Lib.hid (blkF_of hblk)
                  have HSb := Lib.hid (HSl.out blk (List.mem_of_getElem? hblk))
                  have HDb := Lib.hid (show ∀ x ∈ (blkF f j).ins, x.dst < 64 * K from fun x hx => by
                    rw [HBk.out] at hx
                    have := HDs.out blk (List.mem_of_getElem? hblk) x hx
                    have := HRK.out
                    omega)
                  have hil : blk.ins.length ≤ 140737488351232 := y2
                  obtain ⟨u, hu, hsu⟩ := HL3.out.si j hltb
                  obtain ⟨cu, _, hgu⟩ := HL3.out.cell hltb hu
                  have HU := Lib.hid hu
                  have HSU := Lib.hid hsu
                  have hlu := HI3.out.len j
                  obtain ⟨Au, ku, hue, _⟩ := hsu.slice_
                  rw [hlu] at hue
                  subst hue
                  clear e1 e2 y1 y2 t1 t2 t3 t4 t5 t6 t7 t8 hblk H03 h9 hu hsu hlu
                  go_wp2_with fail
                  have HBO := Lib.hid (blk_new wr (.cells #[.slice A9 blk.ins.length cap9, .int .i64 blk.term.kind, .int .i64 blk.term.op, .int .i64 blk.term.a.reg, .int .i64 blk.term.a.num, .int .i64 blk.term.b.reg, .int .i64 blk.term.b.num, .int .i64 blk.term.to_, .int .i64 blk.term.els] 58))
                  have HWN := Lib.hid (below_alloc (.cells #[.slice A9 blk.ins.length cap9, .int .i64 blk.term.kind, .int .i64 blk.term.op, .int .i64 blk.term.a.reg, .int .i64 blk.term.a.num, .int .i64 blk.term.b.reg, .int .i64 blk.term.b.num, .int .i64 blk.term.to_, .int .i64 blk.term.els] 58) (Below.refl wr.heap.size wr))
                  refine (copy_any _ w.heap.size _ (I2 j) (set_below HSU.out HWN.out) (by rw [HI3.out.len]; exact HKB.out)).mono ?_
                  rintro e w5 ⟨sv, rfl, hs5, hb5⟩
                  have HB5 := Lib.hid (HWN.out.bt hb5)
                  have HS5 := Lib.hid hs5
                  have HBO5 := Lib.hid (blk_below HBO.out hb5)
                  have HL5 := Lib.hid (HL3.out.more BB.out HB5.out)
                  have HAP := Lib.hid (show ∀ (k : Nat) v, vs[k]? = some v → sv.ownBlock = none ∨ sv.ownBlock ≠ v.ownBlock from fun k v hv => by
                    cases hso : sv.ownBlock with
                    | none => exact Or.inl rfl
                    | some q => exact Or.inr (fun e => by
                        have h1 := HL3.out.lt k v hv q e.symm
                        have h2 := (HS5.out.1.lt q hso).1
                        simp at h2
                        omega))
                  have k0 : w5.cell? ⟨wr.heap.size, 0, none⟩ = some (.slice A9 blk.ins.length cap9) := blk_cell HBO5.out rfl
                  have lk0 := blk_lt HBO5.out
                  obtain ⟨gb, hgb⟩ : ∃ z, wr.heap.size = z := ⟨_, rfl⟩
                  rw [hgb] at HBO5 k0 lk0 ⊢
                  clear r0 r1 r2 r3 r4 r5 r6 r7 r8 lr0 hs5 hb5 cu hgu HBO HWN hgb
                  have HO5 := Lib.hid (HI3.out.out hltb HDb.out)
                  go_wp2_with fail
                  clear k0 lk0
                  obtain ⟨wz, rfl⟩ : ∃ wo : World, wo = w5 := ⟨_, rfl⟩
                  go_loopw [71] (fun i wq => ∃ q : Nat, q ≤ blk.ins.length ∧ i = .int .i64 q ∧ SetR wq w.heap.size sv (stepsL (I2 j) (blk.ins.take q)) ∧ wz.grownBy wq sv.ownBlock) (fun i _ => blk.ins.length - (intOf i).toNat)
                  case atStart => exact ⟨0, by omega, rfl, ⟨own_base HS5.out.1 (by have := HL3.out.below.size; simp; omega), HS5.out.2⟩, grownBy_refl _ _⟩
                  case round =>
                    rename World => wq
                    obtain ⟨q, hq, rfl, hsq, hgq⟩ := hrel
                    have HSQ := Lib.hid hsq
                    have HGQ := Lib.hid hgq
                    clear hsq hgq
                    by_cases hltq : q < blk.ins.length
                    · obtain ⟨x, hx⟩ : ∃ x, blk.ins[q]? = some x := ⟨_, List.getElem?_eq_getElem hltq⟩
                      obtain ⟨ib, io, cs, rfl, e1, e2, va, e3, p1, p2, p3, p4, p5, p6, p7, p8, p9, p10, p11⟩ := H9.out q x hx
                      subst e3
                      have HST := Lib.hid (stepsL_take (l := I2 j) hx)
                      have HSx := Lib.hid (HSb.out x (List.mem_of_getElem? hx))
                      have HBq := Lib.hid (show Below W0.heap.size W0 wq from below_of_grown (H0.out.trans (HL5.out.below.mono H0.out.size)) (Nat.le_refl _) HGQ.out (fun k hk => by
                        have h1 := (HSQ.out.1.lt k hk).1
                        have h2 := H0.out.size
                        omega))
                      have r0 := later (e2 0 (by omega)) HBq.out
                      have r1 := later (e2 1 (by omega)) HBq.out
                      have r2 := later (e2 2 (by omega)) HBq.out
                      have r3 := later (e2 3 (by omega)) HBq.out
                      have r4 := later (e2 4 (by omega)) HBq.out
                      have r5 := later (e2 5 (by omega)) HBq.out
                      have r6 := later (e2 6 (by omega)) HBq.out
                      have r7 := later (e2 7 (by omega)) HBq.out
                      have r8 := later (e2 8 (by omega)) HBq.out
                      have r9 := later (e2 9 (by omega)) HBq.out
                      have r10 := later (e2 10 (by omega)) HBq.out
                      have r11 := later (e2 11 (by omega)) HBq.out
                      rw [Nat.add_zero] at r0
                      have lr0 := World.block_lt_of_cell? _ _ r0
                      obtain ⟨Ax, capx, rfl, _, _, _⟩ := id p10
                      have HAL := Lib.hid (below_alloc (.cells #[.int .i64 x.op, .int .i64 x.dst, .int .i64 x.a.reg, .int .i64 x.a.num, .int .i64 x.b.reg, .int .i64 x.b.num, .int .i64 x.size, .bool x.signed, .bool x.secret, .int .i64 x.ref, .int .i64 x.off, .slice Ax x.args.length capx] 74) (Below.refl wq.heap.size wq))
                      have HCA := Lib.hid (step_any _ w.heap.size sv (.slice Ax x.args.length capx) _ x (set_below HSQ.out HAL.out) p1 p2 ⟨p3, p4⟩ ⟨p5, p6⟩ ((p10.later (by decide) HBq.out).later (by decide) HAL.out) HSx.out)
                      clear e1 e2 hx p1 p2 p3 p4 p5 p6 p7 p8 p9 p10 p11
                      go_wp2_with fail
                      refine HCA.out.mono ?_
                      rintro e w6 ⟨rfl, hs6, hg6⟩
                      have HS6 := Lib.hid (show SetR w6 w.heap.size sv (stepsL (I2 j) (blk.ins.take (q + 1))) by rw [HST.out]; exact hs6)
                      have HG6 := Lib.hid (grown_trans HGQ.out (grown_trans (grown_of_below HAL.out) hg6))
                      clear hs6 hg6 r0 r1 r2 r3 r4 r5 r6 r7 r8 r9 r10 r11 lr0 HCA
                      go_wp2_with fail
                      go_roundw
                      case rel => exact ⟨q + 1, by omega, by go_num, HS6.out, HG6.out⟩
                      case measure => simp [intOf]; omega
                    · have e : q = blk.ins.length := by omega
                      subst e
                      rw [List.take_length] at HSQ
                      have HLQ := Lib.hid (show TS w wq w.heap.size m m (.slice (some ⟨gi, 0, none⟩) m m) vs I2 from ⟨HL5.out.ri.kept HGQ.out (own_ne HL5.out.ri HS5.out.1 (by decide)), HL5.out.len, fun k hk => by
                          obtain ⟨v, h1, h2⟩ := HL5.out.si k hk
                          exact ⟨v, h1, own_kept h2 HGQ.out (apart_symm (HAP.out k v h1))⟩, HL5.out.rest, HL5.out.ap, below_of_grown HL5.out.below (Nat.le_refl _) HGQ.out (fun k hk => (HSQ.out.1.lt k hk).1)⟩)
                      have hgbq := blk_kept HBO5.out HGQ.out (own_blk HS5.out.1 HBO5.out (by decide))
                      have s1 := blk_cell (i := 1) hgbq rfl
                      have s2 := blk_cell (i := 2) hgbq rfl
                      have s3 := blk_cell (i := 3) hgbq rfl
                      have s4 := blk_cell (i := 4) hgbq rfl
                      have s5 := blk_cell (i := 5) hgbq rfl
                      have s6 := blk_cell (i := 6) hgbq rfl
                      have s7 := blk_cell (i := 7) hgbq rfl
                      have s8 := blk_cell (i := 8) hgbq rfl
                      have lgb := blk_lt hgbq
                      clear hgbq HGQ HBO5
                      rw [HBk.out] at HO5
                      obtain ⟨st, hst⟩ : ∃ z, stepsL (I2 j) blk.ins = z := ⟨_, rfl⟩
                      rw [hst] at HSQ HO5
                      have HSTE := Lib.hid hst
                      clear hst
                      go_wp2_with fail
                      refine (next_own _ blk.term).mono ?_
                      rintro e w7 ⟨v7, rfl, ho7, hb7⟩
                      have HO7 := Lib.hid (own_base ho7 (Nat.zero_le _))
                      have HL7 := Lib.hid (HLQ.out.more BB.out hb7)
                      have HS7 := Lib.hid (set_below HSQ.out hb7)
                      obtain ⟨A4, cap4, hv4, _⟩ := own_slice HO7.out
                      subst hv4
                      clear s1 s2 s3 s4 s5 s6 s7 s8 lgb ho7 hb7
                      have hT2 := nextT_len blk.term
                      generalize hnt : nextT blk.term = nt at *
                      have HNT := Lib.hid hnt
                      have HTl := Lib.hid hT2
                      clear hT2 hnt
                      go_wp2_with fail
                      have HNN := Lib.hid (show nxF f j = nt from HNx.out)
                      go_loopw [7, 83] (fun a i wr => ∃ (ag2 : Bool) (q : Nat) (I3 : Nat → List Nat), a = .bool ag2 ∧ q ≤ nt.length ∧ i = .int .i64 q ∧ TS w wr w.heap.size m m (.slice (some ⟨gi, 0, none⟩) m m) vs I3 ∧ TInv f.secret (blkF f) (nxF f) m K I3 ∧ (∀ i : Nat, f.secret[i]? = some true → bitL (I3 0) i = true) ∧ SetR wr w.heap.size sv st ∧ OwnI wr 0 (.slice A4 nt.length cap4) nt ∧
                        tot K I m ≤ tot K I3 m ∧ (ag2 = true → tot K I m < tot K I3 m) ∧ (ag2 = false → ag = false ∧ I3 = I2 ∧ ∀ k : Nat, (k : Int) ∈ nt.take q → ∀ r, bitL st r = true → bitL (I2 k) r = true)) (fun _ i _ => nt.length - (intOf i).toNat)
                      case atStart => exact ⟨ag, 0, I2, rfl, by omega, rfl, HL7.out, HI3.out, HS3.out, HS7.out, HO7.out, HTL.out, HT3.out, fun h => ⟨h, rfl, fun k hk => by simp at hk⟩⟩
                      case round =>
                        rename World => wn
                        obtain ⟨ag2, q, I3, rfl, hq, rfl, hL, hI, hS, hsv, hO, hTl, hT, hN⟩ := hrel
                        have HL8 := Lib.hid hL
                        have HI8 := Lib.hid hI
                        have HS8 := Lib.hid hS
                        have HSV8 := Lib.hid hsv
                        have HO8 := Lib.hid hO
                        have HTL8 := Lib.hid hTl
                        have HT8 := Lib.hid hT
                        have HN8 := Lib.hid hN
                        have hnl := HTl.out
                        clear hL hI hS hsv hTl hT hN
                        by_cases hltq : q < nt.length
                        · obtain ⟨k, hk⟩ : ∃ k, nt[q]? = some k := ⟨_, List.getElem?_eq_getElem hltq⟩
                          have hkn := HX.out j k hltb (by rw [HNN.out]; exact List.mem_of_getElem? hk)
                          obtain ⟨k, rfl⟩ : ∃ k' : Nat, k = k' := ⟨k.toNat, by omega⟩
                          have hkm : k < m := by omega
                          obtain ⟨g4, k4, e4, _⟩ := own_form hO (by omega)
                          cases e4
                          have cc := hO.cell hltq _ hk
                          have lcc := World.block_lt_of_cell? _ _ cc
                          have HKq := Lib.hid hk
                          have HKx := Lib.hid (show (k : Int) ∈ nxF f j by rw [HNN.out]; exact List.mem_of_getElem? hk)
                          obtain ⟨v, hv, hsv⟩ := HL8.out.si k hkm
                          obtain ⟨cv, _, hgv⟩ := HL8.out.cell hkm hv
                          have HV := Lib.hid hv
                          have HSV := Lib.hid hsv
                          have hlv := HI8.out.len k
                          have hls := HO5.out.1
                          have HJ := join_any wn w.heap.size w.heap.size _ _ _ _ hsv HSV8.out (HAP.out k v hv)
                          rw [show min (I3 k).length st.length = K by rw [hlv, hls]; simp] at HJ
                          obtain ⟨mk, hmk⟩ : ∃ z, moreK (I3 k) st K = z := ⟨_, rfl⟩
                          rw [hmk] at HJ
                          have HJJ := Lib.hid HJ
                          have HMK := Lib.hid hmk
                          obtain ⟨Av, kv, hve, _⟩ := hsv.slice_
                          rw [hlv] at hve
                          clear hO hk hkn hv hsv HJ hmk hlv hls
                          subst hve
                          go_wp2_with fail
                          refine HJJ.out.mono ?_
                          rintro e w9 ⟨rfl, hs9, hg9⟩
                          have L9 := Lib.hid (HL8.out.inSet BB.out hkm HV.out hs9 hg9)
                          have I9 := Lib.hid (HI8.out.join hltb hkm HKx.out HO5.out.1 HO5.out.2.1 (by rw [HBk.out]; exact HO5.out.2.2))
                          have O9 := Lib.hid (World.ownsRow.kept HO8.out hg9 (own_ne HO8.out HSV.out.1 (by decide)))
                          have V9 := Lib.hid (own_kept HSV8.out hg9 (HAP.out k _ HV.out))
                          have S9 := Lib.hid (show ∀ i : Nat, f.secret[i]? = some true → bitL (updL I3 k (joinK (I3 k) st K) 0) i = true from fun i h => join_grow HI8.out HO5.out.1 0 i (HS8.out i h))
                          clear hs9 hg9 cc lcc HJJ cv hgv
                          cases mk with
                          | true =>
                            have T9 := Lib.hid (Nat.lt_of_le_of_lt HTL8.out (join_tot HI8.out hkm HO5.out.1 HO5.out.2.1 HMK.out))
                            go_wp2_with fail
                            go_roundw
                            case rel => exact ⟨true, q + 1, _, rfl, by omega, by go_num, L9.out, I9.out, S9.out, V9.out, O9.out, Nat.le_of_lt T9.out, fun _ => T9.out, fun h => by cases h⟩
                            case measure => simp [intOf]; omega
                          | false =>
                            have hE : updL I3 k (joinK (I3 k) st K) = I3 := by rw [HI8.out.still HO5.out.1 HO5.out.2.1 HMK.out, updL_self]
                            rw [hE] at L9 I9 S9
                            have HH := Lib.hid (show ∀ r, bitL st r = true → bitL (I3 k) r = true from fun r hr => by
                              have h := join_has HI8.out (k := k) HO5.out.1 r hr
                              rw [hE] at h; exact h)
                            clear hE
                            go_wp2_with fail
                            go_roundw
                            case rel => exact ⟨ag2, q + 1, I3, rfl, by omega, by go_num, L9.out, I9.out, S9.out, V9.out, O9.out, HTL8.out, HT8.out, fun h => by
                              obtain ⟨n1, n2, n3⟩ := HN8.out h
                              refine ⟨n1, n2, fun k2 hk2 r hr => ?_⟩
                              rcases take_mem HKq.out hk2 with h2 | h2
                              · exact n3 k2 h2 r hr
                              · have : k2 = k := by omega
                                subst this
                                rw [← n2]; exact HH.out r hr⟩
                            case measure => simp [intOf]; omega
                        · have e : q = nt.length := by omega
                          subst e
                          rw [List.take_length] at HN8
                          clear hO
                          go_wp2_with fail
                          go_roundw
                          case rel => exact ⟨ag2, j + 1, I3, rfl, by omega, by go_num, HL8.out, HI8.out, HS8.out, HTL8.out, HT8.out, fun h => by
                            obtain ⟨n1, n2, n3⟩ := HN8.out h
                            subst n2
                            intro b k hb hk hx r hr
                            by_cases eb : b = j
                            · subst eb
                              rw [HBk.out, HSTE.out] at hr
                              rw [HNN.out] at hx
                              exact n3 k hx r hr
                            · exact HD3.out n1 b k (by omega) hk hx r hr⟩
                          case measure => simp [intOf]; omega
                · have e : j = m := by omega
                  subst e
                  go_wp2_with fail
                  go_roundg (gk - 1)
                  case measure => have := HTg.out; have := tot_le K I j; omega
                  case rel => exact ⟨ag, I2, rfl, HL3.out, HI3.out, HS3.out, (fun h => by have := HT3.out h; have := HTg.out; omega), HD3.out⟩
end Go.Proofs.YtbogcompeefoaaaDoor
