/- Plain facts: ways gone one block at a time. No condition. -/
import Derived.Test.YtegnaeinpacafaaFlQ
namespace Go.Proofs.Ytegnaeinpacafaa
set_option linter.unusedVariables false
/-- is r live ahead of number i of a block, if it is (f) at the block's end -/
def ptB (k : BlockD) (i : Nat) (f : Bool) (r : Nat) : Bool := backsB (useB f (readsT k.term) r) (k.ins.drop i) r
theorem ptB_zero (k : BlockD) (f : Bool) (r : Nat) : ptB k 0 f r = transB k f r := rfl
theorem ptB_step {k : BlockD} {i : Nat} {x : InsD} (h : k.ins[i]? = some x) (f : Bool) (r : Nat) : ptB k i f r = backB (ptB k (i + 1) f r) x r := by
  have hi : i < k.ins.length := (List.getElem?_eq_some_iff.1 h).1
  rw [List.getElem?_eq_getElem hi] at h
  unfold ptB
  rw [List.drop_eq_getElem_cons hi, Option.some.inj h]
  rfl
theorem ptB_end (k : BlockD) (f : Bool) (r : Nat) : ptB k k.ins.length f r = useB f (readsT k.term) r := by unfold ptB; rw [List.drop_length]; rfl
def readB (as_ : List ArgD) (r : Nat) : Bool := as_.any fun a => decide (a.reg = (r : Int))
theorem ptB_read {k : BlockD} {i : Nat} {x : InsD} (h : k.ins[i]? = some x) {r : Nat} (hr : readB (readsD x) r = true) (f : Bool) : ptB k i f r = true := by
  rw [ptB_step h]; unfold backB useB; unfold readB at hr; rw [hr]; simp
theorem ptB_kill {k : BlockD} {i : Nat} {x : InsD} (h : k.ins[i]? = some x) {r : Nat} (hr : readB (readsD x) r = false) (hd : x.dst = (r : Int)) (f : Bool) : ptB k i f r = false := by
  rw [ptB_step h]; unfold backB useB; unfold readB at hr; rw [hr, decide_eq_true hd]; simp
theorem ptB_pass {k : BlockD} {i : Nat} {x : InsD} (h : k.ins[i]? = some x) {r : Nat} (hr : readB (readsD x) r = false) (hd : x.dst ≠ (r : Int)) (f : Bool) : ptB k i f r = ptB k (i + 1) f r := by
  rw [ptB_step h]; unfold backB useB; unfold readB at hr; rw [hr, decide_eq_false hd]; simp
theorem readB_take {as_ : List ArgD} {j : Nat} {a : ArgD} (h : as_[j]? = some a) (r : Nat) : readB (as_.take (j + 1)) r = (readB (as_.take j) r || decide (a.reg = (r : Int))) := by
  unfold readB; rw [List.take_add_one, h]; simp
theorem readB_yes {as_ : List ArgD} {j : Nat} {a : ArgD} (h : as_[j]? = some a) {r : Nat} (e : a.reg = (r : Int)) : readB as_ r = true := by
  unfold readB; rw [List.any_eq_true]; exact ⟨a, List.mem_of_getElem? h, decide_eq_true e⟩
section
variable {blk : Nat → BlockD} {nx : Nat → List Int} {n r : Nat}
def LivePt (blk : Nat → BlockD) (nx : Nat → List Int) (n r b i : Nat) : Prop := ptB (blk b) i false r = true ∨ (ptB (blk b) i true r = true ∧ ∃ k : Nat, (k : Int) ∈ nx b ∧ LiveAt blk nx n r k)
/-- from here no way that is not in S leads on -/
def ShutPt (blk : Nat → BlockD) (nx : Nat → List Int) (r b i : Nat) (S : List Bool) : Prop := ptB (blk b) i false r = false ∧ (ptB (blk b) i true r = true → ∀ k : Nat, (k : Int) ∈ nx b → S[k]? = some true)
def More (S S' : List Bool) : Prop := ∀ k : Nat, S[k]? = some true → S'[k]? = some true
theorem ShutPt.mono {b i : Nat} {S S' : List Bool} (h : ShutPt blk nx r b i S) (hm : More S S') : ShutPt blk nx r b i S' := ⟨h.1, fun ht k hk => hm k (h.2 ht k hk)⟩
theorem LiveAt.pt {b : Nat} (hb : b < n) (h : LivePt blk nx n r b 0) : LiveAt blk nx n r b := by
  rcases h with h | ⟨h, k, hk, hl⟩
  · exact .here hb h
  · exact .on hb h hk hl
theorem LivePt.at_ {b : Nat} (h : LiveAt blk nx n r b) : LivePt blk nx n r b 0 := by
  cases h with
  | here hb h => exact Or.inl h
  | on hb h hk hl => exact Or.inr ⟨h, _, hk, hl⟩
/-- what has been gone through since S -/
def New (blk : Nat → BlockD) (nx : Nat → List Int) (r : Nat) (S S' : List Bool) : Prop := ∀ k : Nat, S'[k]? = some true → S[k]? ≠ some true → ShutPt blk nx r k 0 S'
theorem shut_top {S : List Bool} (h : ∀ k : Nat, S[k]? = some true → ShutPt blk nx r k 0 S) : ∀ k, LiveAt blk nx n r k → S[k]? = some true → False := by
  intro k hl
  induction hl with
  | here hb ht => intro hs; have := (h _ hs).1; rw [ptB_zero, ht] at this; cases this
  | on hb ht hk _ ih => intro hs; exact ih ((h _ hs).2 ht _ hk)
theorem top_no {S S' : List Bool} {b i : Nat} (h0 : ∀ k : Nat, S[k]? ≠ some true) (hn : New blk nx r S S') (hs : ShutPt blk nx r b i S') : ¬ LivePt blk nx n r b i := by
  have ht := shut_top (n := n) (fun k hk => hn k hk (h0 k))
  rintro (h | ⟨h, k, hk, hl⟩)
  · rw [hs.1] at h; cases h
  · exact ht k hl (hs.2 h k hk)
theorem More.set {S : List Bool} {k : Nat} : More S (S.set k true) := fun j hj => by
  by_cases e : k = j
  · subst e; rw [List.getElem?_set_self (List.getElem?_eq_some_iff.1 hj).1]
  · rw [List.getElem?_set_ne e]; exact hj
theorem More.refl (S : List Bool) : More S S := fun _ h => h
theorem More.trans {S S' S'' : List Bool} (h : More S S') (k : More S' S'') : More S S'' := fun j hj => k j (h j hj)
/-- a block is gone into, nothing is found -/
theorem New.step {S S1 S2 : List Bool} {k : Nat} (h : New blk nx r S S1) (hm : More (S1.set k true) S2) (h2 : New blk nx r (S1.set k true) S2) (hs : ShutPt blk nx r k 0 S2) : New blk nx r S S2 := fun j hj hno => by
  by_cases e : j = k
  · subst e; exact hs
  · by_cases h1 : S1[j]? = some true
    · exact (h j h1 hno).mono (More.trans More.set hm)
    · refine h2 j hj ?_
      rw [List.getElem?_set_ne (Ne.symm e)]; exact h1
def beenB (S : List Bool) (k : Nat) : Bool := S.getD k false
theorem cnt_been {S : List Bool} {k n : Nat} (hl : S.length = n) (hk : k < n) (h : S[k]? = some false) : cnt (beenB S) n < cnt (beenB (S.set k true)) n := by
  refine cnt_lt n (fun i _ hi => ?_) ⟨k, hk, ?_, ?_⟩
  · unfold beenB at *
    rw [List.getD_eq_getElem?_getD] at *
    by_cases e : k = i
    · subst e; rw [List.getElem?_set_self (by omega)]; rfl
    · rw [List.getElem?_set_ne e]; exact hi
  · unfold beenB; rw [List.getD_eq_getElem?_getD, List.getElem?_set_self (by omega)]; rfl
  · unfold beenB; rw [List.getD_eq_getElem?_getD, h]; rfl
theorem cnt_more {S S' : List Bool} {n : Nat} (h : More S S') : cnt (beenB S) n ≤ cnt (beenB S') n :=
  cnt_mono n fun i _ hi => by
    unfold beenB at *
    rw [List.getD_eq_getElem?_getD] at *
    cases e : S[i]? with
    | none => rw [e] at hi; cases hi
    | some x =>
      rw [e] at hi
      have : x = true := hi
      subst this
      rw [h i e]; rfl
end
end Go.Proofs.Ytegnaeinpacafaa
