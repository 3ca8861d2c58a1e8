/- A machine to run closed calls: values and memory beside those that stand, up to where blocks lie. No condition. -/
import Derived.Test.YtednnkhomfabaaaLib
namespace Go.Proofs.Ytednnkhomfabaaa
open Go.RowKit
set_option linter.unusedVariables false
/-! ### A table of things by number -/
inductive Tr (α : Type) where
  | nil
  | node (v : Option α) (l r : Tr α)
def Tr.get {α : Type} : Nat → Tr α → Nat → Option α
  | 0, _, _ => none
  | _ + 1, .nil, _ => none
  | f + 1, .node v l r, n => bif n.beq 0 then v else bif (n % 2).beq 1 then Tr.get f l (n / 2) else Tr.get f r (n / 2 - 1)
def Tr.set {α : Type} : Nat → Tr α → Nat → Option α → Tr α
  | 0, t, _, _ => t
  | f + 1, .nil, n, u => bif n.beq 0 then .node u .nil .nil else bif (n % 2).beq 1 then .node none (Tr.set f .nil (n / 2) u) .nil else .node none .nil (Tr.set f .nil (n / 2 - 1) u)
  | f + 1, .node v l r, n, u => bif n.beq 0 then .node u l r else bif (n % 2).beq 1 then .node v (Tr.set f l (n / 2) u) r else .node v l (Tr.set f r (n / 2 - 1) u)
theorem Tr.get_nil {α : Type} (f n : Nat) : Tr.get f (.nil : Tr α) n = none := by cases f <;> rfl
theorem nbeq {n m : Nat} (h : ¬ n = m) : n.beq m = false := by
  cases e : n.beq m with
  | false => rfl
  | true => exact absurd (Nat.eq_of_beq_eq_true e) h
theorem Tr.get_set {α : Type} : ∀ (f : Nat) (t : Tr α) (n : Nat) (u : Option α) (m : Nat) (x : α), Tr.get f (Tr.set f t n u) m = some x → (m = n ∧ u = some x) ∨ (m ≠ n ∧ Tr.get f t m = some x)
  | 0, t, n, u, m, x, h => by simp [Tr.get] at h
  | f + 1, t, n, u, m, x, h => by
    have hl : ∀ v l r, t = .node v l r ∨ (t = .nil ∧ v = none ∧ l = .nil ∧ r = .nil) → Tr.set (f + 1) t n u = bif n.beq 0 then .node u l r else bif (n % 2).beq 1 then .node v (Tr.set f l (n / 2) u) r else .node v l (Tr.set f r (n / 2 - 1) u) := by
      rintro v l r (rfl | ⟨rfl, rfl, rfl, rfl⟩) <;> rfl
    have hg : ∀ v l r, t = .node v l r ∨ (t = .nil ∧ v = none ∧ l = .nil ∧ r = .nil) → ∀ k, Tr.get (f + 1) t k = bif k.beq 0 then v else bif (k % 2).beq 1 then Tr.get f l (k / 2) else Tr.get f r (k / 2 - 1) := by
      rintro v l r (rfl | ⟨rfl, rfl, rfl, rfl⟩) k
      · rfl
      · show none = _
        simp only [Tr.get_nil]
        cases k.beq 0 <;> cases (k % 2).beq 1 <;> rfl
    obtain ⟨v, l, r, ht⟩ : ∃ v l r, t = .node v l r ∨ (t = .nil ∧ v = none ∧ l = .nil ∧ r = .nil) := by
      cases t with
      | nil => exact ⟨none, .nil, .nil, Or.inr ⟨rfl, rfl, rfl, rfl⟩⟩
      | node v l r => exact ⟨v, l, r, Or.inl rfl⟩
    rw [hl v l r ht] at h
    rw [hg v l r ht m]
    by_cases hn : n = 0
    · subst hn
      simp only [show (Nat.beq 0 0) = true from rfl, cond_true] at h
      by_cases hm : m = 0
      · subst hm; exact Or.inl ⟨rfl, by simpa [Tr.get] using h⟩
      · have hb : m.beq 0 = false := nbeq hm
        refine Or.inr ⟨hm, ?_⟩
        simpa [Tr.get, hb] using h
    · have hnb : n.beq 0 = false := nbeq hn
      rw [hnb] at h
      simp only [cond_false] at h
      by_cases hp : n % 2 = 1
      · have hpb : (n % 2).beq 1 = true := by rw [hp]; rfl
        rw [hpb] at h
        simp only [cond_true, Tr.get] at h
        by_cases hm : m = 0
        · subst hm; exact Or.inr ⟨fun e => hn e.symm, by simpa using h⟩
        · have hb : m.beq 0 = false := nbeq hm
          rw [hb] at h ⊢
          simp only [cond_false] at h ⊢
          by_cases hq : m % 2 = 1
          · have hqb : (m % 2).beq 1 = true := by rw [hq]; rfl
            rw [hqb] at h ⊢
            simp only [cond_true] at h ⊢
            rcases Tr.get_set f _ _ _ _ _ h with ⟨e, hu⟩ | ⟨e, hu⟩
            · exact Or.inl ⟨by omega, hu⟩
            · exact Or.inr ⟨by omega, hu⟩
          · have hqb : (m % 2).beq 1 = false := nbeq hq
            rw [hqb] at h ⊢
            exact Or.inr ⟨fun e => hq (by rw [e]; exact hp), h⟩
      · have hpb : (n % 2).beq 1 = false := nbeq hp
        rw [hpb] at h
        simp only [cond_false, Tr.get] at h
        by_cases hm : m = 0
        · subst hm; exact Or.inr ⟨fun e => hn e.symm, by simpa using h⟩
        · have hb : m.beq 0 = false := nbeq hm
          rw [hb] at h ⊢
          simp only [cond_false] at h ⊢
          by_cases hq : m % 2 = 1
          · have hqb : (m % 2).beq 1 = true := by rw [hq]; rfl
            rw [hqb] at h ⊢
            exact Or.inr ⟨fun e => hp (by rw [← e]; exact hq), h⟩
          · have hqb : (m % 2).beq 1 = false := nbeq hq
            rw [hqb] at h ⊢
            simp only [cond_false] at h ⊢
            rcases Tr.get_set f _ _ _ _ _ h with ⟨e, hu⟩ | ⟨e, hu⟩
            · exact Or.inl ⟨by omega, hu⟩
            · exact Or.inr ⟨by omega, hu⟩
/-- how deep a table may be -/
abbrev DD : Nat := 40
abbrev Tr.at {α : Type} (t : Tr α) (n : Nat) : Option α := Tr.get DD t n
abbrev Tr.put {α : Type} (t : Tr α) (n : Nat) (v : α) : Tr α := Tr.set DD t n (some v)
theorem Tr.at_put {α : Type} {t : Tr α} {n m : Nat} {v x : α} (h : (t.put n v).at m = some x) : (m = n ∧ v = x) ∨ (m ≠ n ∧ t.at m = some x) := by
  rcases Tr.get_set DD t n (some v) m x h with ⟨e, hu⟩ | h
  · exact Or.inl ⟨e, Option.some.inj hu⟩
  · exact Or.inr h
theorem Tr.at_drop {α : Type} {t : Tr α} {n m : Nat} {x : α} (h : (Tr.set DD t n none).at m = some x) : m ≠ n ∧ t.at m = some x := by
  rcases Tr.get_set DD t n none m x h with ⟨_, hu⟩ | h
  · cases hu
  · exact h
/-! ### Places, values, memory -/
/-- what became of a block of the machine: not made yet; not to be used any more; block b of the heap, from cell d on, with room for x elements more -/
inductive Slot where
  | unborn
  | dead
  | live (b d x : Nat)
abbrev Place := Nat → Slot
def AR (β : Place) (b o : Nat) (a : Addr) : Prop :=
  match β b with
  | .unborn => False
  | .dead => True
  | .live b' d _ => a = ⟨b', o + d, none⟩
def CR (β : Place) (b cap cap' : Nat) : Prop :=
  match β b with
  | .live _ _ x => ∃ d, d ≤ x ∧ cap' = cap + d
  | _ => True
/-- marks of numbers that are not known: their value -/
abbrev Den := Value → Option Value
def isSym : Value → Bool
  | .func (.yield _) _ _ => true
  | _ => false
def scalar : Value → Bool
  | .bool _ | .int _ _ => true
  | _ => false
/-- a value of the machine, and the one that stands -/
inductive VR (D : Den) (β : Place) : Value → Value → Prop where
  | bool (b : Bool) : VR D β (.bool b) (.bool b)
  | int (k : IntKind) (n : Int) : VR D β (.int k n) (.int k n)
  | float (k : FloatKind) (n : Nat) : VR D β (.float k n) (.float k n)
  | string (s : ByteArray) : VR D β (.string s) (.string s)
  | sym (v v' : Value) : isSym v = true → D v = some v' → scalar v' = true → VR D β v v'
  | nilPtr : VR D β (.pointer none) (.pointer none)
  | ptr (b o : Nat) (a : Addr) : AR β b o a → VR D β (.pointer (some ⟨b, o, none⟩)) (.pointer (some a))
  | nilSlice : VR D β (.slice none 0 0) (.slice none 0 0)
  | slice (b o len cap cap' : Nat) (a : Addr) : AR β b o a → CR β b cap cap' → len ≤ cap → VR D β (.slice (some ⟨b, o, none⟩) len cap) (.slice (some a) len cap')
  | slice0 (b o s cap' : Nat) (a : Addr) : VR D β (.slice (some ⟨b, o, some s⟩) 0 0) (.slice (some a) 0 cap')
  | nilMap : VR D β (.map none) (.map none)
  | map (b b' : Nat) : AR β b 0 ⟨b', 0, none⟩ → VR D β (.map (some b)) (.map (some b'))
  | nilFunc : VR D β .nilFunc .nilFunc
  | func (f : FuncId) (xs ys : List Value) : xs.length = ys.length → (∀ (i : Nat) x y, xs[i]? = some x → ys[i]? = some y → VR D β x y) → VR D β (.func (.func f) #[] xs.toArray) (.func (.func f) #[] ys.toArray)
  | nilIface : VR D β .nilIface .nilIface
  | agg (xs ys : List Value) : xs.length = ys.length → (∀ (i : Nat) x y, xs[i]? = some x → ys[i]? = some y → VR D β x y) → VR D β (.agg xs.toArray) (.agg ys.toArray)
  | tuple (xs ys : List Value) : xs.length = ys.length → (∀ (i : Nat) x y, xs[i]? = some x → ys[i]? = some y → VR D β x y) → VR D β (.tuple xs.toArray) (.tuple ys.toArray)
/-- lists of values -/
def LR (D : Den) (β : Place) (xs ys : List Value) : Prop := xs.length = ys.length ∧ ∀ (i : Nat) x y, xs[i]? = some x → ys[i]? = some y → VR D β x y
/-- what may become of places later on -/
def Le (β β' : Place) : Prop := ∀ i, β' i = β i ∨ β i = .unborn ∨ β' i = .dead
theorem Le.refl (β : Place) : Le β β := fun i => Or.inl rfl
def LeS (β β' : Place) : Prop := ∀ i, β i = .unborn ∨ β' i = β i ∨ (β i ≠ .unborn ∧ β' i = .dead)
theorem AR.mono {β β' : Place} {b o : Nat} {a : Addr} (h : AR β b o a) (hl : LeS β β') : AR β' b o a := by
  unfold AR at *
  rcases hl b with e | e | ⟨_, e⟩
  · rw [e] at h; exact h.elim
  · rw [e]; exact h
  · rw [e]; trivial
theorem CR.mono {β β' : Place} {b o cap cap' : Nat} {a : Addr} (h : CR β b cap cap') (ha : AR β b o a) (hl : LeS β β') : CR β' b cap cap' := by
  unfold CR at *
  rcases hl b with e | e | ⟨_, e⟩
  · unfold AR at ha; rw [e] at ha; exact ha.elim
  · rw [e]; exact h
  · rw [e]; trivial
theorem VR.mono {D : Den} {β β' : Place} {v v' : Value} (h : VR D β v v') (hl : LeS β β') : VR D β' v v' := by
  induction h with
  | bool b => exact .bool b
  | int k n => exact .int k n
  | float k n => exact .float k n
  | string s => exact .string s
  | sym v v' h1 h2 h3 => exact .sym v v' h1 h2 h3
  | nilPtr => exact .nilPtr
  | ptr b o a h => exact .ptr b o a (h.mono hl)
  | nilSlice => exact .nilSlice
  | slice b o len cap cap' a h hc hle => exact .slice b o len cap cap' a (h.mono hl) (hc.mono h hl) hle
  | slice0 b o s cap' a => exact .slice0 b o s cap' a
  | nilMap => exact .nilMap
  | map b b' h => exact .map b b' (h.mono hl)
  | nilFunc => exact .nilFunc
  | func f xs ys hs _ ih => exact .func f xs ys hs ih
  | nilIface => exact .nilIface
  | agg xs ys hs _ ih => exact .agg xs ys hs ih
  | tuple xs ys hs _ ih => exact .tuple xs ys hs ih
theorem LR.mono {D : Den} {β β' : Place} {xs ys : List Value} (h : LR D β xs ys) (hl : LeS β β') : LR D β' xs ys := ⟨h.1, fun i x y hx hy => (h.2 i x y hx hy).mono hl⟩
theorem LeS.refl (β : Place) : LeS β β := fun i => by
  by_cases h : β i = .unborn
  · exact Or.inl h
  · exact Or.inr (Or.inl rfl)
theorem LeS.trans {a b c : Place} (h : LeS a b) (k : LeS b c) : LeS a c := fun i => by
  rcases h i with e | e | ⟨e1, e2⟩
  · exact Or.inl e
  · rcases k i with f | f | ⟨f1, f2⟩
    · exact Or.inl (by rw [← e]; exact f)
    · exact Or.inr (Or.inl (by rw [f, e]))
    · exact Or.inr (Or.inr ⟨by rw [← e]; exact f1, f2⟩)
  · rcases k i with f | f | ⟨f1, f2⟩
    · rw [e2] at f; cases f
    · exact Or.inr (Or.inr ⟨e1, by rw [f, e2]⟩)
    · exact Or.inr (Or.inr ⟨e1, f2⟩)
/-! Values without places are as they stand. -/
mutual
def pf : Value → Bool
  | .bool _ | .int _ _ | .float _ _ | .string _ | .pointer none | .map none | .nilFunc | .nilIface => true
  | .slice none 0 0 => true
  | .func (.func _) ⟨[]⟩ ⟨[]⟩ => true
  | .agg ⟨xs⟩ => pfs xs
  | .tuple ⟨xs⟩ => pfs xs
  | _ => false
def pfs : List Value → Bool
  | [] => true
  | x :: xs => pf x && pfs xs
end
mutual
theorem pf_vr (D : Den) (β : Place) : ∀ v, pf v = true → VR D β v v
  | .bool b, _ => .bool b
  | .int k n, _ => .int k n
  | .float k n, _ => .float k n
  | .string s, _ => .string s
  | .pointer none, _ => .nilPtr
  | .map none, _ => .nilMap
  | .nilFunc, _ => .nilFunc
  | .nilIface, _ => .nilIface
  | .slice none 0 0, _ => .nilSlice
  | .func (.func f) ⟨[]⟩ ⟨[]⟩, _ => VR.func f [] [] rfl (fun i x y (h : ([] : List Value)[i]? = some x) => by simp at h)
  | .agg ⟨xs⟩, h => .agg xs xs rfl (pfs_vr D β xs (by simpa [pf] using h))
  | .tuple ⟨xs⟩, h => .tuple xs xs rfl (pfs_vr D β xs (by simpa [pf] using h))
theorem pfs_vr (D : Den) (β : Place) : ∀ xs, pfs xs = true → ∀ (i : Nat) x y, xs[i]? = some x → xs[i]? = some y → VR D β x y
  | [], _, i, x, y, h, _ => by simp at h
  | z :: xs, h, i, x, y, hx, hy => by
    simp only [pfs, Bool.and_eq_true] at h
    cases i with
    | zero =>
      simp only [List.getElem?_cons_zero, Option.some.injEq] at hx hy
      subst hx; subst hy
      exact pf_vr D β z h.1
    | succ i =>
      simp only [List.getElem?_cons_succ] at hx hy
      exact pfs_vr D β xs h.2 i x y hx hy
end
theorem pf_nosym : ∀ v, pf v = true → isSym v = false
  | .func (.yield _) _ _, h => by simp [pf] at h
  | .func (.func _) _ _, _ => rfl
  | .func (.method _) _ _, _ => rfl
  | .func (.methodOf _ _) _ _, _ => rfl
  | .func (.via _ _ _ _) _ _, _ => rfl
  | .bool _, _ => rfl
  | .int _ _, _ => rfl
  | .float _ _, _ => rfl
  | .complex _ _ _, _ => rfl
  | .string _, _ => rfl
  | .pointer _, _ => rfl
  | .slice _ _ _, _ => rfl
  | .map _, _ => rfl
  | .chan _, _ => rfl
  | .nilFunc, _ => rfl
  | .iface _ _, _ => rfl
  | .nilIface, _ => rfl
  | .agg _, _ => rfl
  | .tuple _, _ => rfl
mutual
theorem pf_eq {D : Den} {β : Place} : ∀ {v v' : Value}, pf v = true → VR D β v v' → v' = v
  | v, v', hp, h => by
    cases h with
    | bool | int | float | string | nilPtr | nilSlice | nilMap | nilFunc | nilIface => rfl
    | sym _ _ h1 => exact absurd h1 (by rw [pf_nosym v hp]; decide)
    | ptr => simp [pf] at hp
    | slice => simp [pf] at hp
    | slice0 => simp [pf] at hp
    | map => simp [pf] at hp
    | func f xs ys hs hh =>
      cases xs with
      | nil => cases ys with
        | nil => rfl
        | cons => simp at hs
      | cons x xs => simp [pf] at hp
    | agg xs ys hs hh => rw [pfs_eq xs ys (by simpa [pf] using hp) hs hh]
    | tuple xs ys hs hh => rw [pfs_eq xs ys (by simpa [pf] using hp) hs hh]
theorem pfs_eq {D : Den} {β : Place} : ∀ (xs ys : List Value), pfs xs = true → xs.length = ys.length → (∀ (i : Nat) x y, xs[i]? = some x → ys[i]? = some y → VR D β x y) → ys = xs
  | [], [], _, _, _ => rfl
  | [], y :: ys, _, hl, _ => by simp at hl
  | x :: xs, [], _, hl, _ => by simp at hl
  | x :: xs, y :: ys, hp, hl, h => by
    simp only [pfs, Bool.and_eq_true] at hp
    rw [pf_eq hp.1 (h 0 x y rfl rfl), pfs_eq xs ys hp.2 (by simpa using hl) (fun i a b ha hb => h (i + 1) a b (by simpa using ha) (by simpa using hb))]
end
end Go.Proofs.Ytednnkhomfabaaa
