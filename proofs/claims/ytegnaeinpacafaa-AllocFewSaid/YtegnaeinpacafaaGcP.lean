/- Plain facts: the graph of a function that may be is symmetric; its copies are of registers that there are. No condition. -/
import Derived.Test.YtegnaeinpacafaaGd
namespace Go.Proofs.Ytegnaeinpacafaa
open Go.RowKit
set_option linter.unusedVariables false
theorem insEk_sym (R : Nat) (S : Nat → Bool) (x : InsD) (E : Nat → Nat → Bool) (a b : Nat) (h : E a b = E b a) : insEk R S x E a b = insEk R S x E b a := by
  unfold insEk
  rw [h, Bool.or_assoc, Bool.or_assoc, Bool.or_comm (decide (x.dst = (a : Int)) && decide (b < R) && evB S x b)]
theorem bsE_sym (R : Nat) (S : Nat → Bool) (E : Nat → Nat → Bool) (a b : Nat) (h : E a b = E b a) : ∀ xs, bsE R S E xs a b = bsE R S E xs b a
  | [] => h
  | x :: xs => insEk_sym R _ x _ a b (bsE_sym R S E a b h xs)
theorem blE_sym (R : Nat) (blk : Nat → BlockD) (O : Nat → Nat → Bool) (a b : Nat) : ∀ i, blE R blk O i a b = blE R blk O i b a
  | 0 => rfl
  | i + 1 => bsE_sym R _ _ a b (blE_sym R blk O a b i) _
theorem parE_sym (I : Nat → Bool) (E : Nat → Nat → Bool) (P a b : Nat) (h : E a b = E b a) : parE I E P 0 a b = parE I E P 0 b a := by
  unfold parE
  rw [h]
  by_cases e : a = b
  · rw [e]
  · have e2 : ¬ b = a := fun h => e h.symm
    simp only [Nat.not_lt_zero, decide_false, Bool.and_false, Bool.or_false, e, e2, Bool.not_false, Bool.and_true]
    rw [Bool.or_comm (I a), Bool.and_comm (decide (a < P))]
theorem parE_self (I : Nat → Bool) (E : Nat → Nat → Bool) (P a : Nat) (h : E a a = false) : parE I E P 0 a a = false := by unfold parE; rw [h]; simp
def CpIn (R : Nat) (c : Int × Int) : Prop := (0 ≤ c.1 ∧ c.1 < (R : Int)) ∧ 0 ≤ c.2 ∧ c.2 < (R : Int)
theorem bsC_in {R : Nat} {cp : List (Int × Int)} (h : ∀ c ∈ cp, CpIn R c) : ∀ xs, (∀ x ∈ xs, (-1 ≤ x.dst ∧ x.dst < (R : Int)) ∧ ∀ a ∈ readsD x, -1 ≤ a.reg ∧ a.reg < (R : Int)) → ∀ c ∈ bsC cp xs, CpIn R c
  | [], _ => h
  | x :: xs, hx => by
    have ih := bsC_in h xs (fun y hy => hx y (List.mem_cons_of_mem _ hy))
    intro c hc
    have hc2 : c ∈ insC (bsC cp xs) x := hc
    unfold insC at hc2
    split at hc2
    · rename_i hcp
      rcases List.mem_append.1 hc2 with h1 | h1
      · exact ih c h1
      · rw [List.mem_singleton.1 h1]
        unfold isCp at hcp
        simp only [Bool.and_eq_true, decide_eq_true_eq] at hcp
        have h2 := hx x (by simp)
        have h3 := h2.2 x.a (by unfold readsD; rw [if_neg (by omega), if_neg (by omega), if_neg (by omega), if_neg (by omega)]; simp)
        exact ⟨⟨hcp.1.1.1, h2.1.2⟩, hcp.1.2, h3.2⟩
    · exact ih c hc2
theorem blC_in {R : Nat} {blk : Nat → BlockD} : ∀ n, (∀ i, i < n → ∀ x ∈ (blk i).ins, (-1 ≤ x.dst ∧ x.dst < (R : Int)) ∧ ∀ a ∈ readsD x, -1 ≤ a.reg ∧ a.reg < (R : Int)) → ∀ c ∈ blC blk n, CpIn R c
  | 0, _ => fun c hc => by cases hc
  | n + 1, h => bsC_in (blC_in n (fun i hi => h i (by omega))) _ (h n (by omega))
theorem blC_le (blk : Nat → BlockD) (K : Nat) : ∀ n, (∀ i, i < n → (blk i).ins.length ≤ K) → (blC blk n).length ≤ n * K
  | 0, _ => by simp [blC]
  | n + 1, h => by
    have h1 := bsC_len (blC blk n) (blk n).ins
    have h2 := blC_le blk K n (fun i hi => h i (by omega))
    have h3 := h n (by omega)
    rw [Nat.succ_mul]
    show (bsC (blC blk n) (blk n).ins).length ≤ _
    omega
theorem FnOk.cps {f : FuncD} {R P : Nat} (h : FnOk f R P) : (∀ c ∈ blC (blkF f) f.blocks.length, CpIn R c) ∧ (blC (blkF f) f.blocks.length).length ≤ 1000000000 := by
  have hb : ∀ i (hi : i < f.blocks.length), blkF f i = f.blocks[i] := fun i hi => blkF_of (List.getElem?_eq_getElem hi)
  refine ⟨blC_in _ (fun i hi x hx => ?_), ?_⟩
  · rw [hb i hi] at hx
    exact h.hdst _ (List.getElem_mem hi) x hx
  · have h1 := blC_le (blkF f) 2000 f.blocks.length (fun i hi => by rw [hb i hi]; exact h.hil _ (List.getElem_mem hi))
    have h2 := h.hn
    omega
end Go.Proofs.Ytegnaeinpacafaa
