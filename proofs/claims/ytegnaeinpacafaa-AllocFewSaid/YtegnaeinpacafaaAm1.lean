/- Plain facts: places by colours, with cells of memory for those without one. No condition. -/
import Derived.Test.YtegnaeinpacafaaGc3
import Derived.Test.YtegnaeinpacafaaGcP
namespace Go.Proofs.Ytegnaeinpacafaa
open Go.RowKit
set_option linter.unusedVariables false
noncomputable def gEF (f : FuncD) (R P : Nat) : Nat → Nat → Bool := parE (iB f 0) (blE R (blkF f) (oB f) f.blocks.length) P 0
noncomputable def gMF (f : FuncD) : Nat → Bool := blM (blkF f) (oB f) f.blocks.length
/-- live behind instruction j of block m -/
noncomputable def bhF (f : FuncD) (m j : Nat) : Nat → Bool := bsS (endS (blkF f) (oB f) m) ((blkF f m).ins.drop (j + 1))
theorem insEk_up {R : Nat} {S : Nat → Bool} {x : InsD} {E : Nat → Nat → Bool} {a b : Nat} (h : E a b = true) : insEk R S x E a b = true := by unfold insEk; rw [h]; rfl
theorem bsE_up {R : Nat} {S : Nat → Bool} {E : Nat → Nat → Bool} {a b : Nat} (h : E a b = true) : ∀ xs, bsE R S E xs a b = true
  | [] => h
  | x :: xs => insEk_up (bsE_up h xs)
theorem bsE_drop {R : Nat} {S : Nat → Bool} {E : Nat → Nat → Bool} {a b : Nat} : ∀ (l : List InsD) (j : Nat), bsE R S E (l.drop j) a b = true → bsE R S E l a b = true
  | [], j, h => by simpa using h
  | x :: xs, 0, h => h
  | x :: xs, j + 1, h => insEk_up (bsE_drop xs j h)
theorem insM_up {S : Nat → Bool} {x : InsD} {M : Nat → Bool} {r : Nat} (h : M r = true) : insM S x M r = true := by unfold insM; rw [h]; rfl
theorem bsM_up {S : Nat → Bool} {M : Nat → Bool} {r : Nat} (h : M r = true) : ∀ xs, bsM S M xs r = true
  | [] => h
  | x :: xs => insM_up (bsM_up h xs)
theorem bsM_drop {S : Nat → Bool} {M : Nat → Bool} {r : Nat} : ∀ (l : List InsD) (j : Nat), bsM S M (l.drop j) r = true → bsM S M l r = true
  | [], j, h => by simpa using h
  | x :: xs, 0, h => h
  | x :: xs, j + 1, h => insM_up (bsM_drop xs j h)
theorem blE_up {R : Nat} {blk : Nat → BlockD} {O : Nat → Nat → Bool} {a b i : Nat} (h : blE R blk O i a b = true) : ∀ n, i ≤ n → blE R blk O n a b = true
  | 0, hn => by obtain rfl : i = 0 := by omega
                exact h
  | n + 1, hn => by
    by_cases e : i = n + 1
    · subst e; exact h
    · exact bsE_up (blE_up h n (by omega)) _
theorem blM_up {blk : Nat → BlockD} {O : Nat → Nat → Bool} {r i : Nat} (h : blM blk O i r = true) : ∀ n, i ≤ n → blM blk O n r = true
  | 0, hn => by obtain rfl : i = 0 := by omega
                exact h
  | n + 1, hn => by
    by_cases e : i = n + 1
    · subst e; exact h
    · exact bsM_up (blM_up h n (by omega)) _
theorem ev_edge {f : FuncD} {R P m j d r : Nat} {x : InsD} (hm : m < f.blocks.length) (hx : (blkF f m).ins[j]? = some x) (hr : r < R) (hd : x.dst = (d : Int)) (hs : bhF f m j r = true) (hne : d ≠ r) (hc : ¬ (x.op = 2 ∧ x.a.reg = (r : Int))) : gEF f R P d r = true := by
  have h1 : insEk R (bhF f m j) x (bsE R (endS (blkF f) (oB f) m) (blE R (blkF f) (oB f) m) ((blkF f m).ins.drop (j + 1))) d r = true := by
    unfold insEk evB
    rw [hs, hd, decide_eq_true rfl, decide_eq_true hr, decide_eq_false (show ¬ ((d : Int) = (r : Int)) by omega)]
    have : (decide (x.op = 2) && decide (x.a.reg = (r : Int))) = false := by
      cases h : (decide (x.op = 2) && decide (x.a.reg = (r : Int)))
      · rfl
      · simp only [Bool.and_eq_true, decide_eq_true_eq] at h
        exact absurd h hc
    rw [this]; simp
  have h2 : bsE R (endS (blkF f) (oB f) m) (blE R (blkF f) (oB f) m) ((blkF f m).ins.drop j) d r = true := by rw [drop_cons hx]; exact h1
  have h3 : blE R (blkF f) (oB f) (m + 1) d r = true := bsE_drop _ _ h2
  unfold gEF parE
  rw [blE_up h3 f.blocks.length (by omega)]
  rfl
theorem ev_mem {f : FuncD} {m j r : Nat} {x : InsD} (hm : m < f.blocks.length) (hx : (blkF f m).ins[j]? = some x) (hs : bhF f m j r = true) (hne : x.dst ≠ (r : Int)) (hc : callB x = true) : gMF f r = true := by
  have h1 : insM (bhF f m j) x (bsM (endS (blkF f) (oB f) m) (blM (blkF f) (oB f) m) ((blkF f m).ins.drop (j + 1))) r = true := by
    unfold insM
    rw [hs, hc, decide_eq_false hne]; simp
  have h2 : bsM (endS (blkF f) (oB f) m) (blM (blkF f) (oB f) m) ((blkF f m).ins.drop j) r = true := by rw [drop_cons hx]; exact h1
  have h3 : blM (blkF f) (oB f) (m + 1) r = true := bsM_drop _ _ h2
  exact blM_up h3 f.blocks.length (by omega)
theorem ev_par {f : FuncD} {R P a b : Nat} (ha : a < P) (hb : b < P) (hne : a ≠ b) (h : iB f 0 a = true ∨ iB f 0 b = true) : gEF f R P a b = true := by
  unfold gEF parE
  rw [decide_eq_true ha, decide_eq_true hb, decide_eq_false hne]
  rcases h with h | h <;> rw [h] <;> simp
structure AllocOk (f : FuncD) (R P : Nat) (pl : List Int) (cells : Int) : Prop where
  len : pl.length = R
  rng : ∀ (i : Nat) (x : Int), pl[i]? = some x → 0 ≤ x ∧ (5 ≤ x → x - 5 < cells)
  c0 : 0 ≤ cells ∧ cells ≤ R
  edge : ∀ (a b : Nat) (x : Int), a ≠ b → pl[a]? = some x → pl[b]? = some x → gEF f R P a b = false
  mem : ∀ (r : Nat) (x : Int), pl[r]? = some x → gMF f r = true → 5 ≤ x
/-- the first j are given cells -/
structure Rep (pl0 pl : List Int) (R j c : Nat) : Prop where
  len : pl.length = R
  cj : c ≤ j
  at_ : ∀ (i : Nat) (x : Int), pl[i]? = some x → (j ≤ i ∧ pl0[i]? = some x) ∨ (i < j ∧ 0 ≤ x ∧ pl0[i]? = some x) ∨ (i < j ∧ 5 ≤ x ∧ x - 5 < (c : Int) ∧ pl0[i]? = some (-1))
  big : ∀ (a b : Nat) (x : Int), a < j → b < j → a ≠ b → pl[a]? = some x → pl[b]? = some x → 5 ≤ x → pl0[a]? = some (-1) → pl0[b]? = some (-1) → False
theorem Rep.zero {pl : List Int} {R : Nat} (h : pl.length = R) : Rep pl pl R 0 0 := ⟨h, Nat.le_refl _, fun i x hx => Or.inl ⟨by omega, hx⟩, fun a b x ha => by omega⟩
theorem Rep.keep {pl0 pl : List Int} {R j c : Nat} {x : Int} (h : Rep pl0 pl R j c) (hx : pl[j]? = some x) (h0 : 0 ≤ x) : Rep pl0 pl R (j + 1) c := by
  have hp : pl0[j]? = some x := by
    rcases h.at_ j x hx with h1 | h1 | h1
    · exact h1.2
    · omega
    · omega
  refine ⟨h.len, by have := h.cj; omega, fun i y hy => ?_, fun a b y ha hb hab hya hyb hy pa pb => ?_⟩
  · by_cases e : i = j
    · subst e
      rw [hx] at hy
      cases hy
      exact Or.inr (Or.inl ⟨by omega, h0, hp⟩)
    · rcases h.at_ i y hy with h1 | h1 | h1
      · exact Or.inl ⟨by omega, h1.2⟩
      · exact Or.inr (Or.inl ⟨by omega, h1.2⟩)
      · exact Or.inr (Or.inr ⟨by omega, h1.2⟩)
  · have na : a ≠ j := fun e => by
      subst e
      rw [hp] at pa
      simp only [Option.some.injEq] at pa
      omega
    have nb : b ≠ j := fun e => by
      subst e
      rw [hp] at pb
      simp only [Option.some.injEq] at pb
      omega
    exact h.big a b y (by omega) (by omega) hab hya hyb hy pa pb
theorem Rep.cell {pl0 pl : List Int} {R j c : Nat} (h : Rep pl0 pl R j c) (hx : pl[j]? = some (-1)) : Rep pl0 (pl.set j (5 + (c : Int))) R (j + 1) (c + 1) := by
  have hj := (List.getElem?_eq_some_iff.1 hx).1
  have hp : pl0[j]? = some (-1) := by
    rcases h.at_ j _ hx with h1 | h1 | h1
    · exact h1.2
    · omega
    · omega
  have at2 : ∀ (i : Nat) (y : Int), (pl.set j (5 + (c : Int)))[i]? = some y → (i = j ∧ y = 5 + (c : Int)) ∨ (i ≠ j ∧ pl[i]? = some y) := fun i y hy => by
    by_cases e : i = j
    · subst e
      rw [List.getElem?_set_self hj] at hy
      simp only [Option.some.injEq] at hy
      exact Or.inl ⟨rfl, hy.symm⟩
    · rw [List.getElem?_set_ne (Ne.symm e)] at hy
      exact Or.inr ⟨e, hy⟩
  have small : ∀ (i : Nat) (y : Int), i < j → pl[i]? = some y → pl0[i]? = some (-1) → y - 5 < (c : Int) := fun i y hi hy h0 => by
    rcases h.at_ i y hy with h1 | h1 | h1
    · omega
    · rw [h1.2.2] at h0
      simp only [Option.some.injEq] at h0
      omega
    · exact h1.2.2.1
  refine ⟨by simp [h.len], by have := h.cj; omega, fun i y hy => ?_, fun a b y ha hb hab hya hyb hy pa pb => ?_⟩
  · rcases at2 i y hy with ⟨rfl, rfl⟩ | ⟨e, hy⟩
    · exact Or.inr (Or.inr ⟨by omega, by omega, by omega, hp⟩)
    · rcases h.at_ i y hy with h1 | h1 | h1
      · exact Or.inl ⟨by omega, h1.2⟩
      · exact Or.inr (Or.inl ⟨by omega, h1.2⟩)
      · exact Or.inr (Or.inr ⟨by omega, h1.2.1, by omega, h1.2.2.2⟩)
  · rcases at2 a y hya with ⟨ea, hya'⟩ | ⟨ea, hya'⟩
    · rcases at2 b y hyb with ⟨eb, hyb'⟩ | ⟨eb, hyb'⟩
      · exact hab (ea.trans eb.symm)
      · have := small b y (by omega) hyb' pb
        omega
    · rcases at2 b y hyb with ⟨eb, hyb'⟩ | ⟨eb, hyb'⟩
      · have := small a y (by omega) hya' pa
        omega
      · exact h.big a b y (by omega) (by omega) hab hya' hyb' hy pa pb
theorem Rep.done {f : FuncD} {R P c : Nat} {us : List Int} {pl0 pl : List Int} (h : Rep pl0 pl R R c) (hf : Fits (gEF f R P) (candB (gMF f) us) R 5 pl0) : AllocOk f R P pl c := by
  have key : ∀ (i : Nat) (x : Int), pl[i]? = some x → (0 ≤ x ∧ x < 5 ∧ pl0[i]? = some x ∧ gMF f i = false) ∨ (5 ≤ x ∧ x - 5 < (c : Int) ∧ pl0[i]? = some (-1)) := fun i x hx => by
    have hi := (List.getElem?_eq_some_iff.1 hx).1
    have hl := h.len
    rcases h.at_ i x hx with h1 | h1 | h1
    · omega
    · rcases hf.rng i x h1.2.2 with h2 | h2
      · omega
      · have h3 := h2.2.2
        unfold candB at h3
        rw [Bool.and_eq_true] at h3
        exact Or.inl ⟨h1.2.1, by omega, h1.2.2, by simpa using h3.1⟩
    · exact Or.inr ⟨h1.2.1, h1.2.2.1, h1.2.2.2⟩
  refine ⟨h.len, fun i x hx => ?_, ⟨by omega, by have := h.cj; omega⟩, fun a b x hab ha hb => ?_, fun r x hx hm => ?_⟩
  · rcases key i x hx with h1 | h1
    · exact ⟨h1.1, fun h5 => by omega⟩
    · exact ⟨by omega, fun _ => h1.2.1⟩
  · have la := (List.getElem?_eq_some_iff.1 ha).1
    have lb := (List.getElem?_eq_some_iff.1 hb).1
    have hl := h.len
    rcases key a x ha with h1 | h1
    · rcases key b x hb with h2 | h2
      · exact hf.unl a b x hab h1.2.2.1 h2.2.2.1 h1.1
      · omega
    · rcases key b x hb with h2 | h2
      · omega
      · exact (h.big a b x (by omega) (by omega) hab ha hb h1.1 h1.2.2 h2.2.2).elim
  · rcases key r x hx with h1 | h1
    · rw [h1.2.2.2] at hm; cases hm
    · exact h1.1
end Go.Proofs.Ytegnaeinpacafaa
