/- Plain facts: a function's graph of registers, bit by bit: who is apart from whom, who must lie in memory, how often each is used. No condition. -/
import Derived.Test.YtegnaeinpacafaaFlD
namespace Go.Proofs.Ytegnaeinpacafaa
set_option linter.unusedVariables false
/-- live behind an instruction, and not what it writes, nor what it copies -/
def evB (S : Nat → Bool) (x : InsD) (r : Nat) : Bool := S r && !decide (x.dst = (r : Int)) && !(decide (x.op = 2) && decide (x.a.reg = (r : Int)))
/-- the first m registers gone through -/
def insEk (m : Nat) (S : Nat → Bool) (x : InsD) (E : Nat → Nat → Bool) (a b : Nat) : Bool :=
  E a b || (decide (x.dst = (a : Int)) && decide (b < m) && evB S x b) || (decide (x.dst = (b : Int)) && decide (a < m) && evB S x a)
def callB (x : InsD) : Bool := decide (x.op = 28) || decide (x.op = 29)
def insM (S : Nat → Bool) (x : InsD) (M : Nat → Bool) (r : Nat) : Bool := M r || (callB x && (S r && !decide (x.dst = (r : Int))))
def backF (S : Nat → Bool) (x : InsD) (r : Nat) : Bool := backB (S r) x r
def useF (S : Nat → Bool) (al : List ArgD) (r : Nat) : Bool := useB (S r) al r
/-- .. over instructions, from the last one on -/
def bsS (S : Nat → Bool) : List InsD → Nat → Bool
  | [] => S
  | x :: xs => backF (bsS S xs) x
def bsE (R : Nat) (S : Nat → Bool) (E : Nat → Nat → Bool) : List InsD → Nat → Nat → Bool
  | [] => E
  | x :: xs => insEk R (bsS S xs) x (bsE R S E xs)
def bsM (S : Nat → Bool) (M : Nat → Bool) : List InsD → Nat → Bool
  | [] => M
  | x :: xs => insM (bsS S xs) x (bsM S M xs)
def addU (us : List Int) (r : Int) : List Int := if 0 ≤ r then us.set r.toNat (us.getD r.toNat 0 + 1) else us
def readU (us : List Int) (al : List ArgD) : List Int := al.foldl (fun u a => addU u a.reg) us
def insU (us : List Int) (x : InsD) : List Int := readU (addU us x.dst) (readsD x)
def bsU (us : List Int) : List InsD → List Int
  | [] => us
  | x :: xs => insU (bsU us xs) x
def isCp (x : InsD) : Bool := decide (0 ≤ x.dst) && decide (x.op = 2) && decide (0 ≤ x.a.reg) && !decide (x.a.reg = x.dst)
def insC (cp : List (Int × Int)) (x : InsD) : List (Int × Int) := if isCp x then cp ++ [(x.dst, x.a.reg)] else cp
def bsC (cp : List (Int × Int)) : List InsD → List (Int × Int)
  | [] => cp
  | x :: xs => insC (bsC cp xs) x
theorem bsS_backs (S : Nat → Bool) (r : Nat) : ∀ xs, bsS S xs r = backsB (S r) xs r
  | [] => rfl
  | x :: xs => by show backB (bsS S xs r) x r = backB (backsB (S r) xs r) x r; rw [bsS_backs S r xs]
theorem drop_cons {l : List InsD} {q : Nat} {x : InsD} (h : l[q]? = some x) : l.drop q = x :: l.drop (q + 1) := by
  have hq := (List.getElem?_eq_some_iff.1 h).1
  rw [List.drop_eq_getElem_cons hq, (List.getElem?_eq_some_iff.1 h).2]
/-! ### over the blocks -/
section
variable (R : Nat) (blk : Nat → BlockD) (O : Nat → Nat → Bool)
/-- live behind the last instruction of block i -/
def endS (i : Nat) : Nat → Bool := useF (O i) (readsT (blk i).term)
def blE : Nat → Nat → Nat → Bool
  | 0 => fun _ _ => false
  | i + 1 => bsE R (endS blk O i) (blE i) (blk i).ins
def blM : Nat → Nat → Bool
  | 0 => fun _ => false
  | i + 1 => bsM (endS blk O i) (blM i) (blk i).ins
def blU : Nat → List Int
  | 0 => List.replicate R 0
  | i + 1 => bsU (readU (blU i) (readsT (blk i).term)) (blk i).ins
def blC : Nat → List (Int × Int)
  | 0 => []
  | i + 1 => bsC (blC i) (blk i).ins
end
/-- parameters that are there at once: the first ones up to a, of a the first ones up to b -/
def parE (I : Nat → Bool) (E : Nat → Nat → Bool) (a b x y : Nat) : Bool :=
  E x y || ((I x || I y) && !decide (x = y) && ((decide (x < a) && decide (y < a)) || (decide (x = a) && decide (y < b)) || (decide (y = a) && decide (x < b))))
/-! ### how often -/
def one (p : Prop) [Decidable p] : Int := if p then 1 else 0
theorem addU_length (us : List Int) (r : Int) : (addU us r).length = us.length := by unfold addU; split <;> simp
theorem readU_length (al : List ArgD) : ∀ us : List Int, (readU us al).length = us.length := by
  induction al with
  | nil => intro us; rfl
  | cons a al ih => intro us; show (readU (addU us a.reg) al).length = _; rw [ih, addU_length]
theorem insU_length (us : List Int) (x : InsD) : (insU us x).length = us.length := by unfold insU; rw [readU_length, addU_length]
theorem bsU_length (us : List Int) : ∀ xs, (bsU us xs).length = us.length
  | [] => rfl
  | x :: xs => by show (insU (bsU us xs) x).length = _; rw [insU_length, bsU_length us xs]
theorem addU_at (us : List Int) (r : Int) (k : Nat) (hk : k < us.length) : (addU us r).getD k 0 = us.getD k 0 + one (r = (k : Int)) := by
  unfold addU one
  by_cases h : 0 ≤ r
  · rw [if_pos h, List.getD_eq_getElem?_getD, List.getD_eq_getElem?_getD, List.getD_eq_getElem?_getD, List.getElem?_set]
    by_cases e : r.toNat = k
    · subst e
      rw [if_pos rfl, if_pos hk, if_pos (by omega)]; rfl
    · rw [if_neg e, if_neg (by omega)]; simp
  · rw [if_neg h, if_neg (by omega)]; simp
def readsN (al : List ArgD) (k : Nat) : Int := (al.map fun a => one (a.reg = (k : Int))).sum
theorem readU_at (al : List ArgD) (k : Nat) : ∀ us : List Int, k < us.length → (readU us al).getD k 0 = us.getD k 0 + readsN al k := by
  induction al with
  | nil => intro us _; simp [readU, readsN]
  | cons a al ih =>
    intro us hk
    show (readU (addU us a.reg) al).getD k 0 = _
    rw [ih _ (by rw [addU_length]; exact hk), addU_at _ _ _ hk]
    unfold readsN
    rw [List.map_cons, List.sum_cons]
    omega
def insN (x : InsD) (k : Nat) : Int := one (x.dst = (k : Int)) + readsN (readsD x) k
theorem insU_at (us : List Int) (x : InsD) (k : Nat) (hk : k < us.length) : (insU us x).getD k 0 = us.getD k 0 + insN x k := by
  unfold insU insN
  rw [readU_at _ _ _ (by rw [addU_length]; exact hk), addU_at _ _ _ hk]
  omega
def bsN (xs : List InsD) (k : Nat) : Int := (xs.map fun x => insN x k).sum
theorem bsU_at (us : List Int) (k : Nat) (hk : k < us.length) : ∀ xs, (bsU us xs).getD k 0 = us.getD k 0 + bsN xs k
  | [] => by simp [bsU, bsN]
  | x :: xs => by
    show (insU (bsU us xs) x).getD k 0 = _
    rw [insU_at _ _ _ (by rw [bsU_length]; exact hk), bsU_at us k hk xs]
    unfold bsN
    rw [List.map_cons, List.sum_cons]
    omega
theorem readsN_nonneg (al : List ArgD) (k : Nat) : 0 ≤ readsN al k ∧ readsN al k ≤ al.length := by
  unfold readsN
  induction al with
  | nil => simp
  | cons a al ih =>
    rw [List.map_cons, List.sum_cons, List.length_cons]
    unfold one at *
    split <;> omega
theorem readU_take (us : List Int) {al : List ArgD} {k : Nat} {a : ArgD} (h : al[k]? = some a) : readU us (al.take (k + 1)) = addU (readU us (al.take k)) a.reg := by
  unfold readU
  rw [List.take_add_one, h]
  simp
theorem useF_take (S : Nat → Bool) {al : List ArgD} {k : Nat} {a : ArgD} (h : al[k]? = some a) : useF S (al.take (k + 1)) = fun r => useF S (al.take k) r || decide (a.reg = (r : Int)) := by
  funext r
  unfold useF useB
  rw [List.take_add_one, h]
  simp [Bool.or_assoc]
/-- which one is copied: -1: none -/
def cpd (x : InsD) : Int := if x.op = 2 then x.a.reg else -1
theorem evB_cpd (S : Nat → Bool) (x : InsD) (r : Nat) : evB S x r = (S r && !decide (x.dst = (r : Int)) && !decide (cpd x = (r : Int))) := by
  unfold evB cpd
  by_cases h : x.op = 2
  · rw [if_pos h, decide_eq_true h]; simp
  · rw [if_neg h, decide_eq_false h, decide_eq_false (show ¬ ((-1 : Int) = (r : Int)) by omega)]; simp
theorem insEk_zero (S : Nat → Bool) (x : InsD) (E : Nat → Nat → Bool) (a b : Nat) : insEk 0 S x E a b = E a b := by unfold insEk; simp
theorem lt_succ_dec (b k : Nat) : decide (b < k + 1) = (decide (b < k) || decide (b = k)) := by
  rw [Bool.eq_iff_iff]; simp; omega
theorem insEk_no (k : Nat) (S : Nat → Bool) (x : InsD) (E : Nat → Nat → Bool) (h : evB S x k = false) (a b : Nat) : insEk (k + 1) S x E a b = insEk k S x E a b := by
  unfold insEk
  rw [lt_succ_dec, lt_succ_dec]
  by_cases e1 : b = k
  · subst e1
    by_cases e2 : a = b
    · subst e2; rw [h]; simp
    · rw [h]; simp [e2]
  · by_cases e2 : a = k
    · subst e2; rw [h]; simp [e1]
    · simp [e1, e2]
def edgeE (E : Nat → Nat → Bool) (a b x y : Nat) : Bool := E x y || (!decide (a = b) && ((decide (x = a) && decide (y = b)) || (decide (x = b) && decide (y = a))))
theorem insEk_yes (k d : Nat) (S : Nat → Bool) (x : InsD) (E : Nat → Nat → Bool) (hd : x.dst = (d : Int)) (h1 : S k = true) (h2 : cpd x ≠ (k : Int)) (a b : Nat) : edgeE (insEk k S x E) d k a b = insEk (k + 1) S x E a b := by
  have ec : decide (cpd x = (k : Int)) = false := decide_eq_false h2
  have ei : ∀ u v : Nat, decide ((u : Int) = (v : Int)) = decide (u = v) := fun u v => by rw [decide_eq_decide]; omega
  unfold edgeE insEk
  rw [lt_succ_dec, lt_succ_dec]
  rw [hd, ei, ei]
  by_cases e1 : b = k
  · subst e1
    rw [evB_cpd S x b, h1, ec, hd, ei]
    by_cases e2 : a = b
    · subst e2
      rw [evB_cpd S x a, h1, ec, hd, ei]
      by_cases e3 : a = d
      · subst e3; simp
      · simp [e3, Ne.symm e3]
    · by_cases e3 : d = a
      · subst e3
        simp [e2]
      · by_cases e4 : d = b
        · subst e4; simp [e2, Ne.symm e2]
        · simp [e2, e3, e4, Ne.symm e3, Ne.symm e4]
  · by_cases e2 : a = k
    · subst e2
      rw [evB_cpd S x a, h1, ec, hd, ei]
      by_cases e3 : d = b
      · subst e3
        simp [e1, Ne.symm e1]
      · by_cases e4 : d = a
        · subst e4; simp [e1]
        · simp [e1, e3, e4, Ne.symm e3, Ne.symm e4]
    · simp [e1, e2]
/-! ### bounds -/
def Ub (us : List Int) (c : Int) : Prop := ∀ x ∈ us, 0 ≤ x ∧ x ≤ c
theorem Ub.mono {us : List Int} {c d : Int} (h : Ub us c) (hd : c ≤ d) : Ub us d := fun x hx => ⟨(h x hx).1, by have := (h x hx).2; omega⟩
theorem Ub.add {us : List Int} {c : Int} (h : Ub us c) (r : Int) (hc : 0 ≤ c) : Ub (addU us r) (c + 1) := by
  unfold addU
  split
  · intro x hx
    rcases List.mem_or_eq_of_mem_set hx with h1 | h1
    · have := h x h1; omega
    · subst h1
      have : us.getD r.toNat 0 = 0 ∨ us.getD r.toNat 0 ∈ us := by
        rw [List.getD_eq_getElem?_getD]
        cases e : us[r.toNat]? with
        | none => exact Or.inl rfl
        | some y => exact Or.inr (List.mem_of_getElem? e)
      rcases this with e | e
      · rw [e]; omega
      · have := h _ e; omega
  · exact h.mono (by omega)
theorem Ub.reads : ∀ (al : List ArgD) {us : List Int} {c : Int}, Ub us c → 0 ≤ c → Ub (readU us al) (c + al.length)
  | [], us, c, h, _ => by simpa [readU] using h
  | a :: al, us, c, h, hc => by
    have := Ub.reads al (h.add a.reg hc) (by omega)
    rw [List.length_cons]
    exact this.mono (by omega)
theorem Ub.ins {us : List Int} {c : Int} (h : Ub us c) (x : InsD) (hc : 0 ≤ c) (hl : x.args.length ≤ 1000000) : Ub (insU us x) (c + 1000003) := by
  have hlen : (readsD x).length ≤ 1000002 := by
    unfold readsD
    split
    · omega
    · split
      · simp; omega
      · split
        · simp
        · split <;> simp
  exact (Ub.reads _ (h.add x.dst hc) (by omega)).mono (by omega)
theorem insC_len (cp : List (Int × Int)) (x : InsD) : (insC cp x).length ≤ cp.length + 1 := by unfold insC; split <;> simp
theorem bsC_len (cp : List (Int × Int)) : ∀ xs, (bsC cp xs).length ≤ cp.length + xs.length
  | [] => Nat.le_refl _
  | x :: xs => by have := insC_len (bsC cp xs) x; have := bsC_len cp xs; show (insC (bsC cp xs) x).length ≤ _; rw [List.length_cons]; omega
/-! ### parameters -/
theorem parE_zero (I : Nat → Bool) (E : Nat → Nat → Bool) (x y : Nat) : parE I E 0 0 x y = E x y := by unfold parE; simp
theorem parE_next (I : Nat → Bool) (E : Nat → Nat → Bool) (a x y : Nat) : parE I E a a x y = parE I E (a + 1) 0 x y := by
  unfold parE
  rw [lt_succ_dec, lt_succ_dec]
  by_cases e : x = y
  · simp [e]
  · by_cases e1 : x = a
    · subst e1
      simp [Ne.symm e]
    · by_cases e2 : y = a
      · subst e2; simp [e1]
      · simp [e1, e2]
theorem parE_no (I : Nat → Bool) (E : Nat → Nat → Bool) (a b x y : Nat) (h : (I a || I b) = false) : parE I E a b x y = parE I E a (b + 1) x y := by
  rw [Bool.or_eq_false_iff] at h
  unfold parE
  rw [lt_succ_dec, lt_succ_dec]
  by_cases e1 : x = a
  · by_cases e2 : y = b
    · subst e1 e2; simp [h.1, h.2]
    · simp [e1, e2]
      by_cases e3 : a = b
      · subst e3; simp [e2]
      · simp [e3]
  · by_cases e2 : y = a
    · by_cases e3 : x = b
      · subst e2 e3; simp [h.1, h.2]
      · simp [e1, e2, e3]
    · simp [e1, e2]
theorem parE_yes (I : Nat → Bool) (E : Nat → Nat → Bool) (a b x y : Nat) (hab : b < a) (h : (I a || I b) = true) : edgeE (parE I E a b) a b x y = parE I E a (b + 1) x y := by
  have hne : a ≠ b := by omega
  unfold edgeE parE
  rw [lt_succ_dec, lt_succ_dec, decide_eq_false hne]
  by_cases e1 : x = a
  · by_cases e2 : y = b
    · subst e1 e2; simp [h, hne]
    · subst e1; simp [e2, hne]
  · by_cases e2 : y = a
    · by_cases e3 : x = b
      · subst e2 e3
        rw [Bool.or_comm] at h
        simp [h, Ne.symm hne]
      · subst e2; simp [e1, e3, hne, Ne.symm hne]
    · simp [e1, e2]
theorem Ub.zero (n : Nat) : Ub (List.replicate n 0) 0 := fun x hx => by rw [List.eq_of_mem_replicate hx]; omega
theorem Ub.at_ {us : List Int} {c : Int} (h : Ub us c) {k : Nat} {x : Int} (hk : us[k]? = some x) : 0 ≤ x ∧ x ≤ c := h x (List.mem_of_getElem? hk)
end Go.Proofs.Ytegnaeinpacafaa
