/- Plain facts: liveness of registers over a function's blocks. No condition. -/
import Derived.Test.YtemllghghpphmaaSetP
import Derived.Test.YtemllghghpphmaaFlP
import Derived.Test.YtemllghghpphmaaRu
namespace Go.Proofs.Ytemllghghpphmaa
set_option linter.unusedVariables false
/-! ### on words -/
def useL (l : List Nat) (al : List ArgD) : List Nat := al.foldl (fun l a => putL l a.reg) l
def backL (l : List Nat) (x : InsD) : List Nat := useL (outL l x.dst) (readsD x)
/-- behind the last j instructions taken back -/
def backsL (l : List Nat) : List InsD → List Nat
  | [] => l
  | x :: xs => backL (backsL l xs) x
def transL (k : BlockD) (l : List Nat) : List Nat := backsL (useL l (readsT k.term)) k.ins
theorem useL_length (al : List ArgD) : ∀ l, (useL l al).length = l.length := by
  induction al with
  | nil => intro l; rfl
  | cons a al ih => intro l; show (useL (putL l a.reg) al).length = _; rw [ih, putL_length]
theorem backL_length (l : List Nat) (x : InsD) : (backL l x).length = l.length := by unfold backL; rw [useL_length, outL_length]
theorem backsL_length (l : List Nat) : ∀ xs, (backsL l xs).length = l.length
  | [] => rfl
  | x :: xs => by unfold backsL; rw [backL_length, backsL_length l xs]
theorem transL_length (k : BlockD) (l : List Nat) : (transL k l).length = l.length := by unfold transL; rw [backsL_length, useL_length]
/-! ### bit by bit -/
def useB (f : Bool) (al : List ArgD) (r : Nat) : Bool := f || al.any fun a => decide (a.reg = (r : Int))
def backB (f : Bool) (x : InsD) (r : Nat) : Bool := useB (f && !decide (x.dst = (r : Int))) (readsD x) r
def backsB (f : Bool) (xs : List InsD) (r : Nat) : Bool := match xs with
  | [] => f
  | x :: xs => backB (backsB f xs r) x r
def transB (k : BlockD) (f : Bool) (r : Nat) : Bool := backsB (useB f (readsT k.term) r) k.ins r
theorem bit_use (r : Nat) (al : List ArgD) : ∀ (l : List Nat), r / 64 < l.length → bitL (useL l al) r = useB (bitL l r) al r := by
  induction al with
  | nil => intro l _; simp [useL, useB]
  | cons a al ih =>
    intro l hr
    show bitL (useL (putL l a.reg) al) r = _
    rw [ih _ (by rw [putL_length]; exact hr), bit_put]
    unfold useB
    rw [List.any_cons, Bool.or_assoc]
    have : decide (a.reg = (r : Int) ∧ r / 64 < l.length) = decide (a.reg = (r : Int)) := by rw [decide_eq_decide]; exact ⟨fun h => h.1, fun h => ⟨h, hr⟩⟩
    rw [this]
theorem bit_back (r : Nat) (l : List Nat) (x : InsD) (hr : r / 64 < l.length) : bitL (backL l x) r = backB (bitL l r) x r := by
  unfold backL backB
  rw [bit_use r _ _ (by rw [outL_length]; exact hr), bit_out]
theorem bit_backs (r : Nat) (l : List Nat) (hr : r / 64 < l.length) : ∀ xs, bitL (backsL l xs) r = backsB (bitL l r) xs r
  | [] => rfl
  | x :: xs => by unfold backsL backsB; rw [bit_back r _ x (by rw [backsL_length]; exact hr), bit_backs r l hr xs]
theorem bit_transL (r : Nat) (k : BlockD) (l : List Nat) (hr : r / 64 < l.length) : bitL (transL k l) r = transB k (bitL l r) r := by
  unfold transL transB
  rw [bit_backs r _ (by rw [useL_length]; exact hr), bit_use r _ _ hr]
theorem useB_mono {f g : Bool} {al : List ArgD} {r : Nat} (h : f = true → g = true) : useB f al r = true → useB g al r = true := by
  unfold useB
  cases f <;> cases g <;> simp_all
theorem backB_mono {f g : Bool} {x : InsD} {r : Nat} (h : f = true → g = true) : backB f x r = true → backB g x r = true := by
  unfold backB
  refine useB_mono ?_
  cases f <;> cases g <;> simp_all
theorem backsB_mono {f g : Bool} {r : Nat} (h : f = true → g = true) : ∀ xs, backsB f xs r = true → backsB g xs r = true
  | [] => h
  | x :: xs => backB_mono (backsB_mono h xs)
theorem transB_mono {f g : Bool} {k : BlockD} {r : Nat} (h : f = true → g = true) : transB k f r = true → transB k g r = true := backsB_mono (useB_mono h) _
theorem bit_high (l : List Nat) (r : Nat) (h : l.length ≤ r / 64) : bitL l r = false := bitL_out l r h
/-! ### the fixpoint -/
/-- a register is live at a block's beginning: what is read is led to -/
inductive LiveAt (blk : Nat → BlockD) (nx : Nat → List Int) (n r : Nat) : Nat → Prop
  | here {b : Nat} : b < n → transB (blk b) false r = true → LiveAt blk nx n r b
  | on {b k : Nat} : b < n → transB (blk b) true r = true → (k : Int) ∈ nx b → LiveAt blk nx n r k → LiveAt blk nx n r b
theorem joinK_bits {l o : List Nat} {k : Nat} (hk : k = min l.length o.length) (i : Nat) (h : l.length = o.length) : bitL (joinK l o k) i = (bitL l i || bitL o i) := by
  rw [bit_join l o k i hk]
  by_cases e : i / 64 < l.length
  · rw [decide_eq_true e]; simp
  · rw [bit_high l i (by omega), bit_high o i (by omega)]; simp
def updL (f : Nat → List Nat) (b : Nat) (l : List Nat) (x : Nat) : List Nat := if x = b then l else f x
theorem updL_same (f : Nat → List Nat) (b : Nat) (l : List Nat) : updL f b l b = l := by unfold updL; rw [if_pos rfl]
theorem updL_other (f : Nat → List Nat) {b x : Nat} (l : List Nat) (h : x ≠ b) : updL f b l x = f x := by unfold updL; rw [if_neg h]
/-- I, O: what is live at beginnings and ends; K words each -/
structure LInv (blk : Nat → BlockD) (nx : Nat → List Int) (n K : Nat) (I O : Nat → List Nat) : Prop where
  li : ∀ b, b < n → (I b).length = K
  lo : ∀ b, b < n → (O b).length = K
  j1 : ∀ b r, b < n → bitL (O b) r = true → ∃ k : Nat, (k : Int) ∈ nx b ∧ bitL (I k) r = true
  j2 : ∀ b r, b < n → r < 64 * K → bitL (I b) r = true → transB (blk b) (bitL (O b) r) r = true
  j3 : ∀ b r, b < n → bitL (I b) r = true → LiveAt blk nx n r b
section
variable {blk : Nat → BlockD} {nx : Nat → List Int} {n K : Nat} {I O : Nat → List Nat}
theorem LInv.start (blk : Nat → BlockD) (nx : Nat → List Int) (n K : Nat) : LInv blk nx n K (fun _ => List.replicate K 0) (fun _ => List.replicate K 0) := by
  have z : ∀ r, bitL (List.replicate K 0) r = false := fun r => by
    unfold bitL
    rw [List.getD_eq_getElem?_getD, List.getElem?_replicate]
    split <;> simp
  have nz : ∀ {p : Prop} r, bitL (List.replicate K 0) r = true → p := fun r h => by rw [z] at h; cases h
  exact ⟨fun _ _ => by simp, fun _ _ => by simp, fun b r _ h => nz r h, fun b r _ _ h => nz r h, fun b r _ h => nz r h⟩
/-- an end takes what is live behind it -/
theorem LInv.out (h : LInv blk nx n K I O) (hnx : ∀ i k, i < n → k ∈ nx i → 0 ≤ k ∧ k < n) {b k : Nat} (hb : b < n) (hk : (k : Int) ∈ nx b) : LInv blk nx n K I (updL O b (joinK (O b) (I k) K)) := by
  have hkn : k < n := by have := hnx b k hb hk; omega
  have hm : K = min (O b).length (I k).length := by rw [h.lo b hb, h.li k hkn]; simp
  have hl : (O b).length = (I k).length := by rw [h.lo b hb, h.li k hkn]
  refine ⟨h.li, fun x hx => ?_, fun x r hx hr => ?_, fun x r hx hrK hr => ?_, h.j3⟩
  · by_cases e : x = b
    · subst e; rw [updL_same, joinK_length]; exact h.lo x hx
    · rw [updL_other _ _ e]; exact h.lo x hx
  · by_cases e : x = b
    · subst e
      rw [updL_same, joinK_bits hm r hl, Bool.or_eq_true] at hr
      rcases hr with hr | hr
      · exact h.j1 x r hx hr
      · exact ⟨k, hk, hr⟩
    · rw [updL_other _ _ e] at hr; exact h.j1 x r hx hr
  · by_cases e : x = b
    · subst e
      rw [updL_same, joinK_bits hm r hl]
      exact transB_mono (fun h => by rw [h]; rfl) (h.j2 x r hx hrK hr)
    · rw [updL_other _ _ e]; exact h.j2 x r hx hrK hr
/-- a beginning takes what is live ahead of its block -/
theorem LInv.in_ (h : LInv blk nx n K I O) (hnx : ∀ i k, i < n → k ∈ nx i → 0 ≤ k ∧ k < n) {b : Nat} (hb : b < n) : LInv blk nx n K (updL I b (joinK (I b) (transL (blk b) (O b)) K)) O := by
  have hm : K = min (I b).length (transL (blk b) (O b)).length := by rw [transL_length, h.lo b hb, h.li b hb]; simp
  have hl : (I b).length = (transL (blk b) (O b)).length := by rw [transL_length, h.lo b hb, h.li b hb]
  have grow : ∀ x r, x < n → bitL (I x) r = true → bitL (updL I b (joinK (I b) (transL (blk b) (O b)) K) x) r = true := by
    intro x r hx hr
    by_cases e : x = b
    · subst e; rw [updL_same, joinK_bits hm r hl, hr]; rfl
    · rw [updL_other _ _ e]; exact hr
  have new : ∀ x r, x < n → bitL (updL I b (joinK (I b) (transL (blk b) (O b)) K) x) r = true → bitL (I x) r = true ∨ (x = b ∧ r < 64 * K ∧ transB (blk b) (bitL (O b) r) r = true) := by
    intro x r hx hr
    by_cases e : x = b
    · subst e
      rw [updL_same, joinK_bits hm r hl, Bool.or_eq_true] at hr
      rcases hr with hr | hr
      · exact Or.inl hr
      · by_cases hrK : r / 64 < (O x).length
        · rw [bit_transL r _ _ hrK] at hr
          have := h.lo x hx
          exact Or.inr ⟨rfl, by omega, hr⟩
        · rw [bit_high _ r (by rw [transL_length]; omega)] at hr; cases hr
    · rw [updL_other _ _ e] at hr; exact Or.inl hr
  refine ⟨fun x hx => ?_, h.lo, fun x r hx hr => ?_, fun x r hx hrK hr => ?_, fun x r hx hr => ?_⟩
  · by_cases e : x = b
    · subst e; rw [updL_same, joinK_length]; exact h.li x hx
    · rw [updL_other _ _ e]; exact h.li x hx
  · obtain ⟨k, hk, hr⟩ := h.j1 x r hx hr
    exact ⟨k, hk, grow k r (by have := hnx x k hx hk; omega) hr⟩
  · rcases new x r hx hr with hr | ⟨rfl, _, hr⟩
    · exact h.j2 x r hx hrK hr
    · exact hr
  · rcases new x r hx hr with hr | ⟨rfl, _, hr⟩
    · exact h.j3 x r hx hr
    · cases e : bitL (O x) r with
      | false => rw [e] at hr; exact .here hx hr
      | true =>
        rw [e] at hr
        obtain ⟨k, hk, hk2⟩ := h.j1 x r hx e
        exact .on hx hr hk (h.j3 k r (by have := hnx x k hx hk; omega) hk2)
/-- the blocks from number i on have all that they should -/
def LDone (blk : Nat → BlockD) (nx : Nat → List Int) (n K : Nat) (I O : Nat → List Nat) (i : Nat) : Prop :=
  ∀ b, i ≤ b → b < n → (∀ k : Nat, (k : Int) ∈ nx b → ∀ r, bitL (I k) r = true → bitL (O b) r = true) ∧ (∀ r, r < 64 * K → transB (blk b) (bitL (O b) r) r = true → bitL (I b) r = true)
theorem LInv.done (h : LInv blk nx n K I O) (hd : LDone blk nx n K I O 0) {r : Nat} (hr : r < 64 * K) {b : Nat} (hb : b < n) : bitL (I b) r = true ↔ LiveAt blk nx n r b := by
  refine ⟨h.j3 b r hb, fun hl => ?_⟩
  induction hl with
  | here hb ht => exact (hd _ (Nat.zero_le _) hb).2 r hr (transB_mono (fun h => by cases h) ht)
  | @on b k hb ht hk hkl ih =>
    have hkn : k < n := by cases hkl <;> assumption
    have := (hd b (Nat.zero_le _) hb).1 k hk r (ih hkn)
    refine (hd b (Nat.zero_le _) hb).2 r hr ?_
    rw [this]; exact ht
theorem LInv.done_out (h : LInv blk nx n K I O) (hd : LDone blk nx n K I O 0) (hnx : ∀ i k, i < n → k ∈ nx i → 0 ≤ k ∧ k < n) {r : Nat} (hr : r < 64 * K) {b : Nat} (hb : b < n) : bitL (O b) r = true ↔ ∃ k : Nat, (k : Int) ∈ nx b ∧ LiveAt blk nx n r k := by
  constructor
  · intro e
    obtain ⟨k, hk, h1⟩ := h.j1 b r hb e
    exact ⟨k, hk, h.j3 k r (by have := hnx b k hb hk; omega) h1⟩
  · rintro ⟨k, hk, hl⟩
    exact (hd b (Nat.zero_le _) hb).1 k hk r ((h.done hd hr (by have := hnx b k hb hk; omega)).2 hl)
/-- the same bits -/
theorem LDone.congr {I' O' : Nat → List Nat} {i : Nat} (h : LDone blk nx n K I O i) (hI : ∀ b r, bitL (I' b) r = bitL (I b) r) (hO : ∀ b, i ≤ b → b < n → O' b = O b) : LDone blk nx n K I' O' i := fun b h1 h2 => by
  rw [hO b h1 h2]
  refine ⟨fun k hk r hr => (h b h1 h2).1 k hk r (by rw [← hI]; exact hr), fun r hr ht => by rw [hI]; exact (h b h1 h2).2 r hr ht⟩
/-- how much is live -/
def tot (K : Nat) (I : Nat → List Nat) : Nat → Nat
  | 0 => 0
  | n + 1 => tot K I n + cnt (bitL (I n)) (64 * K)
theorem tot_le (K : Nat) (I : Nat → List Nat) : ∀ n, tot K I n ≤ n * (64 * K)
  | 0 => by simp [tot]
  | n + 1 => by have := tot_le K I n; have := cnt_le (bitL (I n)) (64 * K); have h3 : (n + 1) * (64 * K) = n * (64 * K) + 64 * K := Nat.succ_mul n (64 * K); show tot K I n + cnt (bitL (I n)) (64 * K) ≤ _; omega
theorem tot_congr {K : Nat} {I I' : Nat → List Nat} : ∀ n, (∀ b, b < n → ∀ r, bitL (I' b) r = bitL (I b) r) → tot K I' n = tot K I n
  | 0, _ => rfl
  | n + 1, h => by
    show tot K I' n + cnt (bitL (I' n)) (64 * K) = tot K I n + cnt (bitL (I n)) (64 * K)
    rw [tot_congr n (fun b hb => h b (by omega)), show bitL (I' n) = bitL (I n) from funext (h n (by omega))]
theorem tot_more {K : Nat} {I I' : Nat → List Nat} : ∀ n b, b < n → (∀ x, x ≠ b → I' x = I x) → cnt (bitL (I b)) (64 * K) < cnt (bitL (I' b)) (64 * K) → tot K I n < tot K I' n
  | 0, b, hb, _, _ => by omega
  | n + 1, b, hb, h, hc => by
    show tot K I n + cnt (bitL (I n)) (64 * K) < tot K I' n + cnt (bitL (I' n)) (64 * K)
    by_cases e : b = n
    · subst e
      have := tot_congr (K := K) (I := I) (I' := I') b (fun x hx r => by rw [h x (by omega)])
      omega
    · have := tot_more n b (by omega) h hc
      rw [h n (fun e2 => e e2.symm)]; omega
theorem more_none {b : Nat} {s : List Nat} (hl : (I b).length = K) (hs : s.length = K) (h1 : ∀ x ∈ I b, x < 2 ^ 64) (h2 : ∀ x ∈ s, x < 2 ^ 64) (hm : moreK (I b) s (min (I b).length s.length) = false) (x r : Nat) : bitL (updL I b (joinK (I b) s (min (I b).length s.length)) x) r = bitL (I x) r := by
  by_cases e : x = b
  · subst e
    rw [updL_same, joinK_bits rfl r (hl.trans hs.symm)]
    cases e1 : bitL s r
    · simp
    · cases e2 : bitL (I x) r
      · have hlt : r / 64 < (I x).length := by
          rcases Nat.lt_or_ge (r / 64) (I x).length with h | h
          · exact h
          · rw [bit_high s r (by omega)] at e1; cases e1
        have : moreK (I x) s (min (I x).length s.length) = true := (moreK_iff _ _ _ h1 h2 rfl).2 ⟨r, hlt, e1, e2⟩
        rw [this] at hm; cases hm
      · rfl
  · rw [updL_other _ _ e]
theorem more_some {b : Nat} {s : List Nat} (hb : b < n) (hl : (I b).length = K) (hs : s.length = K) (h1 : ∀ x ∈ I b, x < 2 ^ 64) (h2 : ∀ x ∈ s, x < 2 ^ 64) (hm : moreK (I b) s (min (I b).length s.length) = true) : tot K I n < tot K (updL I b (joinK (I b) s (min (I b).length s.length))) n := by
  obtain ⟨r, e0, e1, e2⟩ := (moreK_iff _ _ _ h1 h2 rfl).1 hm
  refine tot_more n b hb (fun x hx => updL_other _ _ hx) ?_
  rw [updL_same]
  refine cnt_lt _ (fun i _ hi => ?_) ⟨r, by omega, ?_, e2⟩
  · rw [joinK_bits rfl i (hl.trans hs.symm), hi]; rfl
  · rw [joinK_bits rfl r (hl.trans hs.symm), e1]; simp
theorem done_step {I' O' : Nat → List Nat} {b : Nat} (hI : ∀ x r, bitL (I' x) r = bitL (I x) r) (hO : ∀ x, b < x → x < n → O' x = O x) (hd : LDone blk nx n K I O (b + 1))
    (h1 : ∀ k : Nat, (k : Int) ∈ nx b → ∀ r, bitL (I k) r = true → bitL (O' b) r = true) (h2 : ∀ r, r < 64 * K → transB (blk b) (bitL (O' b) r) r = true → bitL (I' b) r = true) : LDone blk nx n K I' O' b := by
  intro x hx hxn
  by_cases e : x = b
  · subst e
    exact ⟨fun k hk r hr => h1 k hk r (by rw [← hI]; exact hr), h2⟩
  · rw [hO x (by omega) hxn]
    refine ⟨fun k hk r hr => (hd x (by omega) hxn).1 k hk r (by rw [← hI]; exact hr), fun r hr ht => by rw [hI]; exact (hd x (by omega) hxn).2 r hr ht⟩
theorem in_has {b r : Nat} {k : BlockD} {o : List Nat} (hl : (I b).length = K) (ho : o.length = K) (hr : r < 64 * K) (ht : transB k (bitL o r) r = true) : bitL (updL I b (joinK (I b) (transL k o) (min (I b).length (transL k o).length)) b) r = true := by
  rw [updL_same, joinK_bits rfl r (by rw [transL_length, hl, ho]), bit_transL r k o (by omega), ht]; simp
end
end Go.Proofs.Ytemllghghpphmaa
