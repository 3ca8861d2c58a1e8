/- A machine to run closed calls: values and memory beside those that stand, up to where blocks lie. A machine to run closed calls: its memory beside the heap; new blocks, reads, writes. A machine to run closed calls: operations that compute, make, read, write. A machine to run closed calls: addresses, slices, append, copy. A machine to run closed calls: copy, len, comparisons, strings, maps. No condition. -/
import Derived.Test.YtmmpkkpmlaiapaaGreatDoorLib
import Derived.Deep.AppendSrc
import Derived.Great.BuildSlice
import Derived.Deep.Upon
import Derived.Laws.BytesString
import Derived.MapKept
import Derived.WideShapes
namespace Go.Proofs.YtmmpkkpmlaiapaaGreatDoor
open Go.RowKit
set_option linter.unusedVariables false
/-! ### A table of things by number -/
inductive Tr (α : Type) where
  | nil
  | node (v : Option α) (l r : Tr α)
def Tr.get {α : Type} : Nat → Tr α → Nat → Option α
  | 0, _, _ => none
  | _ + 1, .nil, _ => none
  | f + 1, .node v l r, n => bif n.beq 0 then v else bif (n % 2).beq 1 then Tr.get f l (n / 2) else Tr.get f r (n / 2 - 1)
def Tr.set {α : Type} : Nat → Tr α → Nat → Option α → Tr α
  | 0, t, _, _ => t
  | f + 1, .nil, n, u => bif n.beq 0 then .node u .nil .nil else bif (n % 2).beq 1 then .node none (Tr.set f .nil (n / 2) u) .nil else .node none .nil (Tr.set f .nil (n / 2 - 1) u)
  | f + 1, .node v l r, n, u => bif n.beq 0 then .node u l r else bif (n % 2).beq 1 then .node v (Tr.set f l (n / 2) u) r else .node v l (Tr.set f r (n / 2 - 1) u)
theorem Tr.get_nil {α : Type} (f n : Nat) : Tr.get f (.nil : Tr α) n = none := by cases f <;> rfl
theorem nbeq {n m : Nat} (h : ¬ n = m) : n.beq m = false := by
  cases e : n.beq m with
  | false => rfl
  | true => exact absurd (Nat.eq_of_beq_eq_true e) h
theorem Tr.get_set {α : Type} : ∀ (f : Nat) (t : Tr α) (n : Nat) (u : Option α) (m : Nat) (x : α), Tr.get f (Tr.set f t n u) m = some x → (m = n ∧ u = some x) ∨ (m ≠ n ∧ Tr.get f t m = some x)
  | 0, t, n, u, m, x, h => by simp [Tr.get] at h
  | f + 1, t, n, u, m, x, h => by
    have hl : ∀ v l r, t = .node v l r ∨ (t = .nil ∧ v = none ∧ l = .nil ∧ r = .nil) → Tr.set (f + 1) t n u = bif n.beq 0 then .node u l r else bif (n % 2).beq 1 then .node v (Tr.set f l (n / 2) u) r else .node v l (Tr.set f r (n / 2 - 1) u) := by
      rintro v l r (rfl | ⟨rfl, rfl, rfl, rfl⟩) <;> rfl
    have hg : ∀ v l r, t = .node v l r ∨ (t = .nil ∧ v = none ∧ l = .nil ∧ r = .nil) → ∀ k, Tr.get (f + 1) t k = bif k.beq 0 then v else bif (k % 2).beq 1 then Tr.get f l (k / 2) else Tr.get f r (k / 2 - 1) := by
      rintro v l r (rfl | ⟨rfl, rfl, rfl, rfl⟩) k
      · rfl
      · show none = _
        simp only [Tr.get_nil]
        cases k.beq 0 <;> cases (k % 2).beq 1 <;> rfl
    obtain ⟨v, l, r, ht⟩ : ∃ v l r, t = .node v l r ∨ (t = .nil ∧ v = none ∧ l = .nil ∧ r = .nil) := by
      cases t with
      | nil => exact ⟨none, .nil, .nil, Or.inr ⟨rfl, rfl, rfl, rfl⟩⟩
      | node v l r => exact ⟨v, l, r, Or.inl rfl⟩
    rw [hl v l r ht] at h
    rw [hg v l r ht m]
    by_cases hn : n = 0
    · subst hn
      simp only [show (Nat.beq 0 0) = true from rfl, cond_true] at h
      by_cases hm : m = 0
      · subst hm; exact Or.inl ⟨rfl, by simpa [Tr.get] using h⟩
      · have hb : m.beq 0 = false := nbeq hm
        refine Or.inr ⟨hm, ?_⟩
        simpa [Tr.get, hb] using h
    · have hnb : n.beq 0 = false := nbeq hn
      rw [hnb] at h
      simp only [cond_false] at h
      by_cases hp : n % 2 = 1
      · have hpb : (n % 2).beq 1 = true := by rw [hp]; rfl
        rw [hpb] at h
        simp only [cond_true, Tr.get] at h
        by_cases hm : m = 0
        · subst hm; exact Or.inr ⟨fun e => hn e.symm, by simpa using h⟩
        · have hb : m.beq 0 = false := nbeq hm
          rw [hb] at h ⊢
          simp only [cond_false] at h ⊢
          by_cases hq : m % 2 = 1
          · have hqb : (m % 2).beq 1 = true := by rw [hq]; rfl
            rw [hqb] at h ⊢
            simp only [cond_true] at h ⊢
            rcases Tr.get_set f _ _ _ _ _ h with ⟨e, hu⟩ | ⟨e, hu⟩
            · exact Or.inl ⟨by omega, hu⟩
            · exact Or.inr ⟨by omega, hu⟩
          · have hqb : (m % 2).beq 1 = false := nbeq hq
            rw [hqb] at h ⊢
            exact Or.inr ⟨fun e => hq (by rw [e]; exact hp), h⟩
      · have hpb : (n % 2).beq 1 = false := nbeq hp
        rw [hpb] at h
        simp only [cond_false, Tr.get] at h
        by_cases hm : m = 0
        · subst hm; exact Or.inr ⟨fun e => hn e.symm, by simpa using h⟩
        · have hb : m.beq 0 = false := nbeq hm
          rw [hb] at h ⊢
          simp only [cond_false] at h ⊢
          by_cases hq : m % 2 = 1
          · have hqb : (m % 2).beq 1 = true := by rw [hq]; rfl
            rw [hqb] at h ⊢
            exact Or.inr ⟨fun e => hp (by rw [← e]; exact hq), h⟩
          · have hqb : (m % 2).beq 1 = false := nbeq hq
            rw [hqb] at h ⊢
            simp only [cond_false] at h ⊢
            rcases Tr.get_set f _ _ _ _ _ h with ⟨e, hu⟩ | ⟨e, hu⟩
            · exact Or.inl ⟨by omega, hu⟩
            · exact Or.inr ⟨by omega, hu⟩
abbrev DD : Nat := 40
abbrev Tr.at {α : Type} (t : Tr α) (n : Nat) : Option α := Tr.get DD t n
abbrev Tr.put {α : Type} (t : Tr α) (n : Nat) (v : α) : Tr α := Tr.set DD t n (some v)
theorem Tr.at_put {α : Type} {t : Tr α} {n m : Nat} {v x : α} (h : (t.put n v).at m = some x) : (m = n ∧ v = x) ∨ (m ≠ n ∧ t.at m = some x) := by
  rcases Tr.get_set DD t n (some v) m x h with ⟨e, hu⟩ | h
  · exact Or.inl ⟨e, Option.some.inj hu⟩
  · exact Or.inr h
theorem Tr.at_drop {α : Type} {t : Tr α} {n m : Nat} {x : α} (h : (Tr.set DD t n none).at m = some x) : m ≠ n ∧ t.at m = some x := by
  rcases Tr.get_set DD t n none m x h with ⟨_, hu⟩ | h
  · cases hu
  · exact h
/-! ### Places, values, memory -/
inductive Slot where
  | unborn
  | dead
  | live (b d x : Nat)
abbrev Place := Nat → Slot
def AR (β : Place) (b o : Nat) (a : Addr) : Prop :=
  match β b with
  | .unborn => False
  | .dead => True
  | .live b' d _ => a = ⟨b', o + d, none⟩
def CR (β : Place) (b cap cap' : Nat) : Prop :=
  match β b with
  | .live _ _ x => ∃ d, d ≤ x ∧ cap' = cap + d
  | _ => True
abbrev Den := Value → Option Value
def isSym : Value → Bool
  | .func (.yield _) _ _ => true
  | _ => false
def scalar : Value → Bool
  | .bool _ | .int _ _ => true
  | _ => false
inductive VR (D : Den) (β : Place) : Value → Value → Prop where
  | bool (b : Bool) : VR D β (.bool b) (.bool b)
  | int (k : IntKind) (n : Int) : VR D β (.int k n) (.int k n)
  | float (k : FloatKind) (n : Nat) : VR D β (.float k n) (.float k n)
  | string (s : ByteArray) : VR D β (.string s) (.string s)
  | sym (v v' : Value) : isSym v = true → D v = some v' → scalar v' = true → VR D β v v'
  | nilPtr : VR D β (.pointer none) (.pointer none)
  | ptr (b o : Nat) (a : Addr) : AR β b o a → VR D β (.pointer (some ⟨b, o, none⟩)) (.pointer (some a))
  | nilSlice : VR D β (.slice none 0 0) (.slice none 0 0)
  | slice (b o len cap cap' : Nat) (a : Addr) : AR β b o a → CR β b cap cap' → len ≤ cap → VR D β (.slice (some ⟨b, o, none⟩) len cap) (.slice (some a) len cap')
  | slice0 (b o s cap' : Nat) (a : Addr) : VR D β (.slice (some ⟨b, o, some s⟩) 0 0) (.slice (some a) 0 cap')
  | nilMap : VR D β (.map none) (.map none)
  | map (b b' : Nat) : AR β b 0 ⟨b', 0, none⟩ → VR D β (.map (some b)) (.map (some b'))
  | nilFunc : VR D β .nilFunc .nilFunc
  | func (f : FuncId) (xs ys : List Value) : xs.length = ys.length → (∀ (i : Nat) x y, xs[i]? = some x → ys[i]? = some y → VR D β x y) → VR D β (.func (.func f) #[] xs.toArray) (.func (.func f) #[] ys.toArray)
  | nilIface : VR D β .nilIface .nilIface
  | agg (xs ys : List Value) : xs.length = ys.length → (∀ (i : Nat) x y, xs[i]? = some x → ys[i]? = some y → VR D β x y) → VR D β (.agg xs.toArray) (.agg ys.toArray)
  | tuple (xs ys : List Value) : xs.length = ys.length → (∀ (i : Nat) x y, xs[i]? = some x → ys[i]? = some y → VR D β x y) → VR D β (.tuple xs.toArray) (.tuple ys.toArray)
def LR (D : Den) (β : Place) (xs ys : List Value) : Prop := xs.length = ys.length ∧ ∀ (i : Nat) x y, xs[i]? = some x → ys[i]? = some y → VR D β x y
def Le (β β' : Place) : Prop := ∀ i, β' i = β i ∨ β i = .unborn ∨ β' i = .dead
theorem Le.refl (β : Place) : Le β β := fun i => Or.inl rfl
def LeS (β β' : Place) : Prop := ∀ i, β i = .unborn ∨ β' i = β i ∨ (β i ≠ .unborn ∧ β' i = .dead)
theorem AR.mono {β β' : Place} {b o : Nat} {a : Addr} (h : AR β b o a) (hl : LeS β β') : AR β' b o a := by
  unfold AR at *
  rcases hl b with e | e | ⟨_, e⟩
  · rw [e] at h; exact h.elim
  · rw [e]; exact h
  · rw [e]; trivial
theorem CR.mono {β β' : Place} {b o cap cap' : Nat} {a : Addr} (h : CR β b cap cap') (ha : AR β b o a) (hl : LeS β β') : CR β' b cap cap' := by
  unfold CR at *
  rcases hl b with e | e | ⟨_, e⟩
  · unfold AR at ha; rw [e] at ha; exact ha.elim
  · rw [e]; exact h
  · rw [e]; trivial
theorem VR.mono {D : Den} {β β' : Place} {v v' : Value} (h : VR D β v v') (hl : LeS β β') : VR D β' v v' := by
  induction h with
  | bool b => exact .bool b
  | int k n => exact .int k n
  | float k n => exact .float k n
  | string s => exact .string s
  | sym v v' h1 h2 h3 => exact .sym v v' h1 h2 h3
  | nilPtr => exact .nilPtr
  | ptr b o a h => exact .ptr b o a (h.mono hl)
  | nilSlice => exact .nilSlice
  | slice b o len cap cap' a h hc hle => exact .slice b o len cap cap' a (h.mono hl) (hc.mono h hl) hle
  | slice0 b o s cap' a => exact .slice0 b o s cap' a
  | nilMap => exact .nilMap
  | map b b' h => exact .map b b' (h.mono hl)
  | nilFunc => exact .nilFunc
  | func f xs ys hs _ ih => exact .func f xs ys hs ih
  | nilIface => exact .nilIface
  | agg xs ys hs _ ih => exact .agg xs ys hs ih
  | tuple xs ys hs _ ih => exact .tuple xs ys hs ih
theorem LR.mono {D : Den} {β β' : Place} {xs ys : List Value} (h : LR D β xs ys) (hl : LeS β β') : LR D β' xs ys := ⟨h.1, fun i x y hx hy => (h.2 i x y hx hy).mono hl⟩
theorem LeS.refl (β : Place) : LeS β β := fun i => by
  by_cases h : β i = .unborn
  · exact Or.inl h
  · exact Or.inr (Or.inl rfl)
theorem LeS.trans {a b c : Place} (h : LeS a b) (k : LeS b c) : LeS a c := fun i => by
  rcases h i with e | e | ⟨e1, e2⟩
  · exact Or.inl e
  · rcases k i with f | f | ⟨f1, f2⟩
    · exact Or.inl (by rw [← e]; exact f)
    · exact Or.inr (Or.inl (by rw [f, e]))
    · exact Or.inr (Or.inr ⟨by rw [← e]; exact f1, f2⟩)
  · rcases k i with f | f | ⟨f1, f2⟩
    · rw [e2] at f; cases f
    · exact Or.inr (Or.inr ⟨e1, by rw [f, e2]⟩)
    · exact Or.inr (Or.inr ⟨e1, f2⟩)
/-! Values without places are as they stand. -/
mutual
def pf : Value → Bool
  | .bool _ | .int _ _ | .float _ _ | .string _ | .pointer none | .map none | .nilFunc | .nilIface => true
  | .slice none 0 0 => true
  | .func (.func _) ⟨[]⟩ ⟨[]⟩ => true
  | .agg ⟨xs⟩ => pfs xs
  | .tuple ⟨xs⟩ => pfs xs
  | _ => false
def pfs : List Value → Bool
  | [] => true
  | x :: xs => pf x && pfs xs
end
mutual
theorem pf_vr (D : Den) (β : Place) : ∀ v, pf v = true → VR D β v v
  | .bool b, _ => .bool b
  | .int k n, _ => .int k n
  | .float k n, _ => .float k n
  | .string s, _ => .string s
  | .pointer none, _ => .nilPtr
  | .map none, _ => .nilMap
  | .nilFunc, _ => .nilFunc
  | .nilIface, _ => .nilIface
  | .slice none 0 0, _ => .nilSlice
  | .func (.func f) ⟨[]⟩ ⟨[]⟩, _ => VR.func f [] [] rfl (fun i x y (h : ([] : List Value)[i]? = some x) => by simp at h)
  | .agg ⟨xs⟩, h => .agg xs xs rfl (pfs_vr D β xs (by simpa [pf] using h))
  | .tuple ⟨xs⟩, h => .tuple xs xs rfl (pfs_vr D β xs (by simpa [pf] using h))
theorem pfs_vr (D : Den) (β : Place) : ∀ xs, pfs xs = true → ∀ (i : Nat) x y, xs[i]? = some x → xs[i]? = some y → VR D β x y
  | [], _, i, x, y, h, _ => by simp at h
  | z :: xs, h, i, x, y, hx, hy => by
    simp only [pfs, Bool.and_eq_true] at h
    cases i with
    | zero =>
      simp only [List.getElem?_cons_zero, Option.some.injEq] at hx hy
      subst hx; subst hy
      exact pf_vr D β z h.1
    | succ i =>
      simp only [List.getElem?_cons_succ] at hx hy
      exact pfs_vr D β xs h.2 i x y hx hy
end
theorem pf_nosym : ∀ v, pf v = true → isSym v = false
  | .func (.yield _) _ _, h => by simp [pf] at h
  | .func (.func _) _ _, _ => rfl
  | .func (.method _) _ _, _ => rfl
  | .func (.methodOf _ _) _ _, _ => rfl
  | .func (.via _ _ _ _) _ _, _ => rfl
  | .bool _, _ => rfl
  | .int _ _, _ => rfl
  | .float _ _, _ => rfl
  | .complex _ _ _, _ => rfl
  | .string _, _ => rfl
  | .pointer _, _ => rfl
  | .slice _ _ _, _ => rfl
  | .map _, _ => rfl
  | .chan _, _ => rfl
  | .nilFunc, _ => rfl
  | .iface _ _, _ => rfl
  | .nilIface, _ => rfl
  | .agg _, _ => rfl
  | .tuple _, _ => rfl
mutual
theorem pf_eq {D : Den} {β : Place} : ∀ {v v' : Value}, pf v = true → VR D β v v' → v' = v
  | v, v', hp, h => by
    cases h with
    | bool | int | float | string | nilPtr | nilSlice | nilMap | nilFunc | nilIface => rfl
    | sym _ _ h1 => exact absurd h1 (by rw [pf_nosym v hp]; decide)
    | ptr => simp [pf] at hp
    | slice => simp [pf] at hp
    | slice0 => simp [pf] at hp
    | map => simp [pf] at hp
    | func f xs ys hs hh =>
      cases xs with
      | nil => cases ys with
        | nil => rfl
        | cons => simp at hs
      | cons x xs => simp [pf] at hp
    | agg xs ys hs hh => rw [pfs_eq xs ys (by simpa [pf] using hp) hs hh]
    | tuple xs ys hs hh => rw [pfs_eq xs ys (by simpa [pf] using hp) hs hh]
theorem pfs_eq {D : Den} {β : Place} : ∀ (xs ys : List Value), pfs xs = true → xs.length = ys.length → (∀ (i : Nat) x y, xs[i]? = some x → ys[i]? = some y → VR D β x y) → ys = xs
  | [], [], _, _, _ => rfl
  | [], y :: ys, _, hl, _ => by simp at hl
  | x :: xs, [], _, hl, _ => by simp at hl
  | x :: xs, y :: ys, hp, hl, h => by
    simp only [pfs, Bool.and_eq_true] at hp
    rw [pf_eq hp.1 (h 0 x y rfl rfl), pfs_eq xs ys hp.2 (by simpa using hl) (fun i a b ha hb => h (i + 1) a b (by simpa using ha) (by simpa using hb))]
end
end Go.Proofs.YtmmpkkpmlaiapaaGreatDoor
namespace Go.Proofs.YtmmpkkpmlaiapaaGreatDoor
open Go.RowKit
set_option linter.unusedVariables false
inductive VObj where
  | cells (t : Tr Value) (n : Nat) (T : TypeId)
  | map (es : List (Value × Value × Nat)) (clock : Nat)
  | iter (s : ByteArray) (pos : Nat)
  | rom (t : Tr Value) (n : Nat)
def rdOf : VObj → Option (Tr Value × Nat)
  | .cells t n _ => some (t, n)
  | .rom t n => some (t, n)
  | _ => none
structure VW where
  heap : Tr VObj
  next : Nat
def VW.empty : VW := ⟨.nil, 0⟩
section
variable (P : Program) (D : Den)
def ObjRel (β : Place) (w : World) (b d x : Nat) : VObj → Prop
  | .cells t n T => ∃ cs : Array Value, w.heap[b]? = some (.cells cs T (0, 0)) ∧ d + n + x * P.cellsOf T ≤ cs.size ∧ ∀ k v, k < n → t.at k = some v → ∃ v', cs[d + k]? = some v' ∧ VR D β v v'
  | .map es clock => d = 0 ∧ ∃ es' : Array MapEntry, w.heap[b]? = some (.map es' clock) ∧ es'.size = es.length ∧ ∀ (i : Nat) k v c, es[i]? = some (k, v, c) → ∃ e, es'[i]? = some e ∧ e.key = k ∧ e.born = c ∧ VR D β v e.val
  | .iter s pos => d = 0 ∧ w.heap[b]? = some (.stringIter s pos)
  | .rom t n => ∀ k v, k < n → t.at k = some v → ∃ v', w.cell? ⟨b, d + k, none⟩ = some v' ∧ VR D β v v'
structure Rel (β : Place) (W : VW) (w : World) : Prop where
  unborn : ∀ i, W.next ≤ i → β i = .unborn
  live : ∀ i o, W.heap.at i = some o → ∃ b d x, β i = .live b d x ∧ ObjRel P D β w b d x o
  inj : ∀ i j b d x d' x', β i = .live b d x → β j = .live b d' x' → i = j
  lt : ∀ i b d x, β i = .live b d x → b < w.heap.size
end
def Touch (lim : Nat) (β : Place) (k : Nat) : Prop := ∃ i d x, lim ≤ i ∧ β i = .live k d x
structure Ext (lim : Nat) (β β' : Place) (w w' : World) : Prop where
  le : LeS β β'
  low : ∀ i, i < lim → β' i = β i
  only : Only (Touch lim β) w w'
  new : ∀ k, k < w.heap.size → Touch lim β' k → Touch lim β k
theorem Ext.refl (lim : Nat) (β : Place) (w : World) : Ext lim β β w w := ⟨LeS.refl β, fun _ _ => rfl, Only.refl _ _, fun _ _ h => h⟩
theorem Ext.trans {lim : Nat} {a b c : Place} {u v w : World} (h : Ext lim a b u v) (k : Ext lim b c v w) : Ext lim a c u w :=
  ⟨h.le.trans k.le, fun i hi => (k.low i hi).trans (h.low i hi), h.only.trans k.only h.new, fun j hj ht => h.new j hj (k.new j (Nat.lt_of_lt_of_le hj h.only.size) ht)⟩
section
variable {P : Program} {D : Den}
theorem ObjRel.mono {β β' : Place} {w w' : World} {b d x : Nat} {o : VObj} (h : ObjRel P D β w b d x o) (hl : LeS β β') (hw : w'.heap[b]? = w.heap[b]?) : ObjRel P D β' w' b d x o := by
  cases o with
  | cells t n T =>
    obtain ⟨cs, h1, h2, h3⟩ := h
    exact ⟨cs, hw.trans h1, h2, fun k v hk hv => let ⟨v', e, r⟩ := h3 k v hk hv; ⟨v', e, r.mono hl⟩⟩
  | map es clock =>
    obtain ⟨h0, es', h1, h2, h3⟩ := h
    exact ⟨h0, es', hw.trans h1, h2, fun i k v c hv => let ⟨e, e1, e2, e3, r⟩ := h3 i k v c hv; ⟨e, e1, e2, e3, r.mono hl⟩⟩
  | iter s pos => exact ⟨h.1, hw.trans h.2⟩
  | rom t n =>
    intro k v hk hv
    obtain ⟨v', e, r⟩ := h k v hk hv
    exact ⟨v', (World.cell?_of_block (w := w) (a := ⟨b, d + k, none⟩) hw).trans e, r.mono hl⟩
/-! #### A new block -/
def updP (β : Place) (i : Nat) (s : Slot) : Place := fun j => bif j.beq i then s else β j
theorem updP_same (β : Place) (i : Nat) (s : Slot) : updP β i s i = s := by
  unfold updP; rw [Nat.beq_refl]; rfl
theorem updP_ne {β : Place} {i j : Nat} {s : Slot} (h : ¬ j = i) : updP β i s j = β j := by
  unfold updP; rw [nbeq h]; rfl
theorem LeS.upd_unborn {β : Place} {i : Nat} (h : β i = .unborn) (s : Slot) : LeS β (updP β i s) := fun j => by
  by_cases e : j = i
  · subst e; exact Or.inl h
  · exact Or.inr (Or.inl (updP_ne e))
theorem LeS.upd_dead {β : Place} {i : Nat} : LeS β (updP β i .dead) := fun j => by
  by_cases e : j = i
  · subst e
    by_cases hu : β j = .unborn
    · exact Or.inl hu
    · exact Or.inr (Or.inr ⟨hu, updP_same _ _ _⟩)
  · exact Or.inr (Or.inl (updP_ne e))
def VW.push (W : VW) (o : VObj) : VW := ⟨W.heap.put W.next o, W.next + 1⟩
theorem Rel.alloc {β : Place} {W : VW} {w : World} (h : Rel P D β W w) {lim x0 : Nat} (hl : lim ≤ W.next) (o : VObj) (O : Obj)
    (ho : ObjRel P D (updP β W.next (.live w.heap.size 0 x0)) (w.alloc O) w.heap.size 0 x0 o) :
    Rel P D (updP β W.next (.live w.heap.size 0 x0)) (W.push o) (w.alloc O) ∧ Ext lim β (updP β W.next (.live w.heap.size 0 x0)) w (w.alloc O) := by
  have hu := h.unborn W.next (Nat.le_refl _)
  have hle := LeS.upd_unborn hu (.live w.heap.size 0 x0)
  refine ⟨⟨?_, ?_, ?_, ?_⟩, ⟨hle, ?_, ?_, ?_⟩⟩
  · intro i hi
    have hi' : W.next + 1 ≤ i := hi
    rw [updP_ne (by omega)]; exact h.unborn i (by omega)
  · intro i o' hi
    rcases Tr.at_put hi with ⟨rfl, rfl⟩ | ⟨hne, hi'⟩
    · exact ⟨_, _, _, updP_same _ _ _, ho⟩
    · obtain ⟨b, d, x, e1, e2⟩ := h.live i o' hi'
      exact ⟨b, d, x, by rw [updP_ne hne]; exact e1, e2.mono hle (Below.heap_alloc _ _ _ (h.lt i b d x e1))⟩
  · intro i j b d x d' x' hi hj
    by_cases e1 : i = W.next
    · by_cases e2 : j = W.next
      · rw [e1, e2]
      · subst e1
        rw [updP_same] at hi
        rw [updP_ne e2] at hj
        injection hi with hb
        have := h.lt j b d' x' hj
        omega
    · rw [updP_ne e1] at hi
      by_cases e2 : j = W.next
      · subst e2
        rw [updP_same] at hj
        injection hj with hb
        have := h.lt i b d x hi
        omega
      · rw [updP_ne e2] at hj
        exact h.inj i j b d x d' x' hi hj
  · intro i b d x hi
    have hs : (w.alloc O).heap.size = w.heap.size + 1 := by simp
    rw [hs]
    by_cases e : i = W.next
    · subst e
      rw [updP_same] at hi
      injection hi with hb
      omega
    · rw [updP_ne e] at hi
      have := h.lt i b d x hi
      omega
  · intro i hi
    exact updP_ne (by omega)
  · exact (Only.refl _ _).alloc O
  · rintro k hk ⟨i, d, x, hi, e⟩
    by_cases e1 : i = W.next
    · subst e1
      rw [updP_same] at e
      injection e with hb
      omega
    · rw [updP_ne e1] at e
      exact ⟨i, d, x, hi, e⟩
/-! #### Reading -/
def rdN (t : Tr Value) (n : Nat) : Nat → Nat → Option (List Value)
  | _, 0 => some []
  | o, m + 1 => bif o.blt n then (match t.at o with
    | some v => (match rdN t n (o + 1) m with | some l => some (v :: l) | none => none)
    | none => none) else none
theorem rdN_spec {t : Tr Value} {n : Nat} : ∀ (m o : Nat) (l : List Value), rdN t n o m = some l → l.length = m ∧ ∀ (j : Nat) v, l[j]? = some v → o + j < n ∧ t.at (o + j) = some v
  | 0, o, l, h => by
    simp only [rdN, Option.some.injEq] at h
    subst h
    exact ⟨rfl, fun j v hv => by simp at hv⟩
  | m + 1, o, l, h => by
    unfold rdN at h
    cases hb : o.blt n with
    | false => rw [hb] at h; cases h
    | true =>
      rw [hb] at h
      simp only [cond_true] at h
      cases ha : t.at o with
      | none => rw [ha] at h; cases h
      | some v =>
        rw [ha] at h
        simp only [] at h
        cases hr : rdN t n (o + 1) m with
        | none => rw [hr] at h; cases h
        | some l' =>
          rw [hr] at h
          simp only [Option.some.injEq] at h
          subst h
          obtain ⟨h1, h2⟩ := rdN_spec m (o + 1) l' hr
          refine ⟨by simp [h1], fun j u hu => ?_⟩
          cases j with
          | zero =>
            simp only [List.getElem?_cons_zero, Option.some.injEq] at hu
            subst hu
            exact ⟨by simpa [Nat.blt_eq] using hb, ha⟩
          | succ j =>
            simp only [List.getElem?_cons_succ] at hu
            have := h2 j u hu
            rw [show o + (j + 1) = o + 1 + j by omega]
            exact this
theorem cell_rel {β : Place} {w : World} {b d x n : Nat} {t : Tr Value} {ob : VObj} (h : ObjRel P D β w b d x ob) (hr : rdOf ob = some (t, n)) {k : Nat} {v : Value} (hk : k < n) (hv : t.at k = some v) : ∃ v', w.cell? ⟨b, k + d, none⟩ = some v' ∧ VR D β v v' := by
  cases ob with
  | cells t' n' T =>
    simp only [rdOf, Option.some.injEq, Prod.mk.injEq] at hr
    obtain ⟨rfl, rfl⟩ := hr
    obtain ⟨cs, h1, h2, h3⟩ := h
    obtain ⟨v', e1, e2⟩ := h3 k v hk hv
    exact ⟨v', blk_cell h1 (by rw [← e1, Nat.add_comm]), e2⟩
  | rom t' n' =>
    simp only [rdOf, Option.some.injEq, Prod.mk.injEq] at hr
    obtain ⟨rfl, rfl⟩ := hr
    obtain ⟨v', e1, e2⟩ := h k v hk hv
    exact ⟨v', by rw [Nat.add_comm]; exact e1, e2⟩
  | map | iter => cases hr
theorem cells_rel {β : Place} {w : World} {b d x n : Nat} {t : Tr Value} {ob : VObj} (h : ObjRel P D β w b d x ob) (hob : rdOf ob = some (t, n)) {m o : Nat} {l : List Value} (hl : rdN t n o m = some l) :
    ∃ l', LR D β l l' ∧ l'.length = m ∧ ∀ (j : Nat) v', l'[j]? = some v' → w.cell? ⟨b, o + d + j, none⟩ = some v' := by
  obtain ⟨g1, g2⟩ := rdN_spec m o l hl
  have key : ∀ j, j < m → ∃ v v', l[j]? = some v ∧ w.cell? ⟨b, o + d + j, none⟩ = some v' ∧ VR D β v v' := by
    intro j hj
    have hj2 : j < l.length := by omega
    obtain ⟨e1, e2⟩ := g2 j _ (List.getElem?_eq_getElem hj2)
    obtain ⟨v', e3, e4⟩ := cell_rel h hob e1 e2
    exact ⟨l[j], v', List.getElem?_eq_getElem hj2, by rw [← e3]; congr 2; omega, e4⟩
  refine ⟨(List.range m).map (fun j => (w.cell? ⟨b, o + d + j, none⟩).getD undef), ⟨by simp [g1], fun i x y hx hy => ?_⟩, by simp, fun j v' hv => ?_⟩
  · have hi : i < m := by
      have : i < l.length := (List.getElem?_eq_some_iff.1 hx).1
      omega
    obtain ⟨v, v', q1, q2, q3⟩ := key i hi
    rw [q1] at hx
    cases hx
    simp [hi, q2] at hy
    subst hy
    exact q3
  · have hj : j < m := by
      have := (List.getElem?_eq_some_iff.1 hv).1
      simpa using this
    obtain ⟨v, u, q1, q2, q3⟩ := key j hj
    simp [hj, q2] at hv
    subst hv
    exact q2
def aggSize (P : Program) (T : TypeId) : Option (Option Nat) :=
  match P.underlying T with
  | some (.struct _) | some (.array _ _) => some (some (P.cellsOf T))
  | some _ => some none
  | none => none
def vload (P : Program) (W : VW) (T : TypeId) : Value → Option Value
  | .pointer (some ⟨b, o, none⟩) =>
    match W.heap.at b with
    | some ob =>
      match rdOf ob with
      | some (t, n) =>
        (match aggSize P T with
        | some (some m) => (match rdN t n o m with | some l => some (.agg l.toArray) | none => none)
        | some none => bif o.blt n then t.at o else none
        | none => none)
      | none => none
    | none => none
  | _ => none
theorem sizeOf_run {T : TypeId} {i : TypeInfo} (h : P.info? T = some i) (w : World) : (sizeOf T).run P w = .ok (P.cellsOf T) w := by
  simp [sizeOf, typeInfo, program, Program.cellsOf, h, Sem.run, Result.andThen]
theorem info_of_underlying {T : TypeId} {d : TypeDesc} (h : P.underlying T = some d) : ∃ i, P.info? T = some i := by
  unfold Program.underlying at h
  cases hi : P.info? T with
  | none => rw [hi] at h; cases h
  | some i => exact ⟨i, rfl⟩
theorem agg_run {T : TypeId} {r : Option Nat} (h : aggSize P T = some r) (w : World) : (isAgg T).run P w = .ok r.isSome w ∧ ∀ m, r = some m → (sizeOf T).run P w = .ok m w := by
  unfold aggSize at h
  cases hu : P.underlying T with
  | none => rw [hu] at h; cases h
  | some d =>
    rw [hu] at h
    obtain ⟨i, hi⟩ := info_of_underlying hu
    have hr := run_underlying hu w
    have hs := sizeOf_run hi w
    cases d <;> simp only [Option.some.injEq] at h <;> subst h <;> refine ⟨by simp [isAgg, hr, Result.andThen], fun m hm => ?_⟩ <;> first | cases hm | skip
    all_goals exact hs
theorem addr_add (b o j : Nat) : (⟨b, o, none⟩ : Addr).add j = ⟨b, o + j, none⟩ := by
  unfold Addr.add
  split
  · rename_i h; subst h; rfl
  · rfl
theorem vload_ok {β : Place} {W : VW} {w : World} (h : Rel P D β W w) {T : TypeId} {a a' v : Value} (ha : VR D β a a') (hv : vload P W T a = some v) :
    ∃ v', (Instr.loadAt T a').run P w = .ok v' w ∧ VR D β v v' := by
  unfold vload at hv
  split at hv
  rotate_left
  · cases hv
  rename_i b o
  cases ha with
  | sym _ _ h1 => cases h1
  | ptr _ _ a1 hA =>
    split at hv
    rotate_left
    · cases hv
    rename_i ob hb
    obtain ⟨b1, d, x, e1, e2⟩ := h.live b _ hb
    unfold AR at hA
    rw [e1] at hA
    simp only [] at hA
    subst hA
    split at hv
    rotate_left
    · cases hv
    rename_i t n hob
    split at hv
    · rename_i m hm
      obtain ⟨g1, g2⟩ := agg_run hm w
      cases hr : rdN t n o m with
      | none => rw [hr] at hv; cases hv
      | some l =>
        rw [hr] at hv
        simp only [Option.some.injEq] at hv
        subst hv
        obtain ⟨l', k1, k2, k3⟩ := cells_rel e2 hob hr
        refine ⟨.agg l'.toArray, ?_, .agg l l' k1.1 k1.2⟩
        have hc := run_loadCells_list (P := P) (w := w) ⟨b1, o + d, none⟩ l' (fun j u hu => by rw [addr_add]; exact k3 j u hu)
        rw [k2] at hc
        simp [Instr.loadAt, Instr.sureAddr, loadVar, g1, g2 m rfl, hc, Result.andThen]
    · rename_i hm
      obtain ⟨g1, g2⟩ := agg_run hm w
      cases hlt : o.blt n with
      | false => rw [hlt] at hv; cases hv
      | true =>
        rw [hlt] at hv
        simp only [cond_true] at hv
        obtain ⟨v', e3, e4⟩ := cell_rel e2 hob (by simpa [Nat.blt_eq] using hlt) hv
        refine ⟨v', ?_, e4⟩
        simp [Instr.loadAt, Instr.sureAddr, loadVar, g1, Result.andThen, e3]
    · cases hv
/-! #### Writing -/
theorem VR.one {β : Place} {v v' : Value} (h : VR D β v v') (ho : v.oneCell' = true) : v'.oneCell' = true := by
  cases h with
  | sym _ _ h1 h2 h3 => cases v' <;> simp_all [scalar, Value.oneCell']
  | agg | tuple => cases ho
  | _ => rfl
theorem Rel.reobj {β : Place} {W : VW} {w w' : World} (h : Rel P D β W w) {i b d x : Nat} {o : VObj} (hb : β i = .live b d x) (hs : w.heap.size ≤ w'.heap.size) (hk : ∀ k, k ≠ b → k < w.heap.size → w'.heap[k]? = w.heap[k]?)
    (ho : ObjRel P D β w' b d x o) : Rel P D β ⟨W.heap.put i o, W.next⟩ w' := by
  refine ⟨h.unborn, fun j o' hj => ?_, h.inj, fun j c d' x' hj => Nat.lt_of_lt_of_le (h.lt j c d' x' hj) hs⟩
  rcases Tr.at_put hj with ⟨rfl, rfl⟩ | ⟨hne, hj'⟩
  · exact ⟨b, d, x, hb, ho⟩
  · obtain ⟨b1, d1, x1, e1, e2⟩ := h.live j _ hj'
    refine ⟨b1, d1, x1, e1, e2.mono (LeS.refl _) (hk b1 ?_ (h.lt _ _ _ _ e1))⟩
    rintro rfl
    exact hne (h.inj j i b1 d1 x1 d x e1 hb)
theorem objrel_store {β : Place} {w : World} {b d x n k : Nat} {t : Tr Value} {T : TypeId} {v v' : Value} (h : ObjRel P D β w b d x (.cells t n T)) (hk : k < n) (hv : VR D β v v') :
    ObjRel P D β (w.setCell ⟨b, k + d, none⟩ v') b d x (.cells (t.put k v) n T) ∧ (w.cell? ⟨b, k + d, none⟩).isSome = true ∧ w.frozen? ⟨b, k + d, none⟩ = false := by
  obtain ⟨cs, h1, h2, h3⟩ := h
  have hlt : k + d < cs.size := by omega
  refine ⟨⟨cs.setIfInBounds (k + d) v', blk_setCell h1 v', by simpa using h2, fun k' u hk' hu => ?_⟩, ?_, blk_free h1⟩
  · rcases Tr.at_put hu with ⟨rfl, rfl⟩ | ⟨hn, hu'⟩
    · refine ⟨v', ?_, hv⟩
      rw [Nat.add_comm d k', Array.getElem?_setIfInBounds_self_of_lt (by omega)]
    · obtain ⟨u', g1, g2⟩ := h3 k' u hk' hu'
      exact ⟨u', by rw [Array.getElem?_setIfInBounds_ne (by omega)]; exact g1, g2⟩
  · rw [blk_cell h1 (Array.getElem?_eq_getElem hlt)]; rfl
def wrN (t : Tr Value) : Nat → List Value → Tr Value
  | _, [] => t
  | o, v :: l => wrN (t.put o v) (o + 1) l
theorem storeCells_ok {β : Place} {b d x n : Nat} {T : TypeId} : ∀ (l l' : List Value) (t : Tr Value) (o s : Nat) (w : World), ObjRel P D β w b d x (.cells t n T) → o + l.length ≤ n → LR D β l l' → (l.all Value.oneCell') = true →
    ∃ w', (storeCells ⟨b, o + d - s, none⟩ l' s).run P w = .ok () w' ∧ ObjRel P D β w' b d x (.cells (wrN t o l) n T) ∧ (∀ S : Nat → Prop, S b → Only S w w') ∧ w'.heap.size = w.heap.size ∧ (∀ k, k ≠ b → w'.heap[k]? = w.heap[k]?) ∨ o + d < s
  | [], l', t, o, s, w, h, _, hl, _ => by
    obtain rfl : l' = [] := by
      have := hl.1; simp at this; exact List.length_eq_zero_iff.1 this.symm
    exact ⟨w, Or.inl ⟨rfl, h, fun S _ => Only.refl _ _, rfl, fun _ _ => rfl⟩⟩
  | v :: l, l', t, o, s, w, h, hn, hl, h1 => by
    obtain ⟨v', m', rfl⟩ : ∃ v' m', l' = v' :: m' := by
      cases l' with
      | nil => have := hl.1; simp at this
      | cons a b => exact ⟨a, b, rfl⟩
    simp only [List.all_cons, Bool.and_eq_true] at h1
    have hv : VR D β v v' := hl.2 0 v v' rfl rfl
    have hl2 : LR D β l m' := ⟨by simpa using hl.1, fun i x y hx hy => hl.2 (i + 1) x y (by simpa using hx) (by simpa using hy)⟩
    simp only [List.length_cons] at hn
    by_cases hs : o + d < s
    · exact ⟨w, Or.inr hs⟩
    obtain ⟨g1, g2, g3⟩ := objrel_store h (k := o) (by omega) hv
    obtain ⟨w2, hw2⟩ := storeCells_ok l m' (t.put o v) (o + 1) (s + 1) _ g1 (by omega) hl2 h1.2
    rcases hw2 with ⟨e1, e2, e3, e4, e5⟩ | e
    · refine ⟨w2, Or.inl ⟨?_, e2, fun S hS => ((Only.refl _ _).setCell (Or.inr hS) v').trans (e3 S hS) (fun _ _ hh => hh), e4.trans (by simp [World.setCell]), fun k hk => (e5 k hk).trans (Below.heap_setCell _ _ _ _ hk)⟩⟩
      rw [show o + 1 + d - (s + 1) = o + d - s by omega] at e1
      have ha : (⟨b, o + d - s, none⟩ : Addr).add s = ⟨b, o + d, none⟩ := by rw [addr_add]; congr 1; omega
      simp only [storeCells, Sem.run_bind, ha, run_store P w _ v' _ (hv.one h1.1)]
      cases hc : w.cell? ⟨b, o + d, none⟩ with
      | none => rw [hc] at g2; cases g2
      | some u => simp only [g3, Result.andThen]; exact e1
    · omega
def vstoreCells (lim : Nat) (W : VW) (i o : Nat) (l : List Value) : Option VW :=
  match W.heap.at i with
  | some (.cells t n T) => bif lim.ble i && (o + l.length).ble n && l.all Value.oneCell' then some ⟨W.heap.put i (.cells (wrN t o l) n T), W.next⟩ else none
  | _ => none
theorem vstoreCells_ok {β : Place} {W W' : VW} {w : World} (h : Rel P D β W w) {lim i o : Nat} {l l' : List Value} {a : Addr} (ha : AR β i o a) (hl : LR D β l l') (hv : vstoreCells lim W i o l = some W') :
    ∃ w', (storeCells a l').run P w = .ok () w' ∧ Rel P D β W' w' ∧ Ext lim β β w w' := by
  unfold vstoreCells at hv
  split at hv
  · rename_i t n T hi
    cases hb : (lim.ble i && (o + l.length).ble n && l.all Value.oneCell') with
    | false => rw [hb] at hv; cases hv
    | true =>
      rw [hb] at hv
      simp only [cond_true, Option.some.injEq] at hv
      subst hv
      simp only [Bool.and_eq_true, Nat.ble_eq] at hb
      obtain ⟨⟨b1, b2⟩, b3⟩ := hb
      obtain ⟨b, d, x, e1, e2⟩ := h.live i _ hi
      unfold AR at ha
      rw [e1] at ha
      simp only [] at ha
      subst ha
      obtain ⟨w', hw⟩ := storeCells_ok l l' t o 0 w e2 b2 hl b3
      rcases hw with ⟨g1, g2, g3, g4, g5⟩ | g
      · exact ⟨w', g1, h.reobj e1 (by omega) (fun k hk _ => g5 k hk) g2, LeS.refl _, fun _ _ => rfl, g3 _ ⟨i, d, x, b1, e1⟩, fun _ _ ht => ht⟩
      · omega
  · cases hv
def vstore (P : Program) (lim : Nat) (W : VW) (T : TypeId) (a v : Value) : Option VW :=
  match a with
  | .pointer (some ⟨i, o, none⟩) =>
    match P.info? T with
    | some inf => bif v.cells.size.beq inf.size then vstoreCells lim W i o v.cells.toList else none
    | none => none
  | _ => none
theorem VR.cells {β : Place} {v v' : Value} (h : VR D β v v') : LR D β v.cells.toList v'.cells.toList := by
  have one : ∀ v v' : Value, VR D β v v' → LR D β [v] [v'] := fun v v' h => ⟨rfl, fun i x y hx hy => by
    cases i with
    | zero => simp at hx hy; subst hx; subst hy; exact h
    | succ i => simp at hx⟩
  cases h with
  | agg xs ys h1 h2 => exact ⟨h1, h2⟩
  | sym _ _ h1 h2 h3 =>
    cases v <;> simp [isSym] at h1
    cases v' <;> simp [scalar] at h3
    all_goals exact one _ _ (.sym _ _ (by assumption) (by assumption) rfl)
  | bool => exact one _ _ (.bool _)
  | int => exact one _ _ (.int _ _)
  | float => exact one _ _ (.float _ _)
  | string => exact one _ _ (.string _)
  | nilPtr => exact one _ _ .nilPtr
  | ptr _ _ _ h => exact one _ _ (.ptr _ _ _ h)
  | nilSlice => exact one _ _ .nilSlice
  | slice _ _ _ _ _ _ h1 h2 h3 => exact one _ _ (.slice _ _ _ _ _ _ h1 h2 h3)
  | slice0 => exact one _ _ (.slice0 _ _ _ _ _)
  | nilMap => exact one _ _ .nilMap
  | map _ _ h => exact one _ _ (.map _ _ h)
  | nilFunc => exact one _ _ .nilFunc
  | func _ _ _ h1 h2 => exact one _ _ (.func _ _ _ h1 h2)
  | nilIface => exact one _ _ .nilIface
  | tuple _ _ h1 h2 => exact one _ _ (.tuple _ _ h1 h2)
theorem vstore_ok {β : Place} {W W' : VW} {w : World} (h : Rel P D β W w) {lim : Nat} {T : TypeId} {a a' v v' : Value} (ha : VR D β a a') (hr : VR D β v v') (hv : vstore P lim W T a v = some W') :
    ∃ w', (Instr.storeAt T a' v').run P w = .ok () w' ∧ Rel P D β W' w' ∧ Ext lim β β w w' := by
  unfold vstore at hv
  split at hv
  · rename_i i o
    cases ha with
    | sym _ _ h1 => cases h1
    | ptr _ _ a1 hA =>
      split at hv
      · rename_i inf hinf
        cases hb : v.cells.size.beq inf.size with
        | false => rw [hb] at hv; cases hv
        | true =>
          rw [hb] at hv
          simp only [cond_true] at hv
          have hc := hr.cells
          obtain ⟨w', g1, g2, g3⟩ := vstoreCells_ok h hA hc hv
          refine ⟨w', ?_, g2, g3⟩
          have hsz : v'.cells.size = P.cellsOf T := by
            have e1 := Nat.eq_of_beq_eq_true hb
            have e2 := hc.1
            simp only [Array.length_toList] at e2
            simp [Program.cellsOf, hinf, ← e2, e1]
          simp [Instr.storeAt, Instr.sureAddr, storeVar, sizeOf_run hinf, Result.andThen, hsz, g1]
      · cases hv
  · cases hv
/-! #### New cells -/
def trOf : Nat → List Value → Tr Value → Tr Value
  | _, [], t => t
  | k, v :: l, t => trOf (k + 1) l (t.put k v)
theorem trOf_at : ∀ (l : List Value) (k : Nat) (t : Tr Value) (j : Nat) (v : Value), (trOf k l t).at j = some v → (k ≤ j ∧ l[j - k]? = some v) ∨ ((j < k ∨ k + l.length ≤ j) ∧ t.at j = some v)
  | [], k, t, j, v, h => Or.inr ⟨by simp; omega, h⟩
  | u :: l, k, t, j, v, h => by
    rcases trOf_at l (k + 1) (t.put k u) j v h with ⟨h1, h2⟩ | ⟨h1, h2⟩
    · refine Or.inl ⟨by omega, ?_⟩
      rw [show j - k = (j - (k + 1)) + 1 by omega]
      simpa using h2
    · rcases Tr.at_put h2 with ⟨rfl, rfl⟩ | ⟨hne, h3⟩
      · exact Or.inl ⟨Nat.le_refl _, by simp⟩
      · refine Or.inr ⟨?_, h3⟩
        simp only [List.length_cons]
        omega
def vnew (W : VW) (T : TypeId) (l : List Value) : Value × VW :=
  (.pointer (some ⟨W.next, 0, none⟩), W.push (.cells (trOf 0 l .nil) l.length T))
theorem vnew_ok {β : Place} {W : VW} {w : World} (h : Rel P D β W w) {lim : Nat} (hlim : lim ≤ W.next) {T : TypeId} {l l' : List Value} (hl : LR D β l l') :
    ∃ β', β' W.next = .live w.heap.size 0 0 ∧ Rel P D β' (W.push (.cells (trOf 0 l .nil) l.length T)) (w.alloc (.cells l'.toArray T)) ∧ Ext lim β β' w (w.alloc (.cells l'.toArray T)) := by
  refine ⟨updP β W.next (.live w.heap.size 0 0), updP_same _ _ _, ?_⟩
  have hle := LeS.upd_unborn (h.unborn W.next (Nat.le_refl _)) (.live w.heap.size 0 0)
  refine h.alloc hlim _ _ ⟨l'.toArray, blk_new _ _, ?_, fun k v hk hv => ?_⟩
  · have := hl.1
    simp [this]
  · rcases trOf_at l 0 .nil k v hv with ⟨_, h1⟩ | ⟨_, h1⟩
    · have hk' : k < l'.length := by rw [← hl.1]; exact hk
      refine ⟨l'[k], by simp [hk'], (hl.2 k v _ h1 (List.getElem?_eq_getElem hk')).mono hle⟩
    · rw [show (Tr.nil : Tr Value).at k = none from Tr.get_nil _ _] at h1; cases h1
end
end Go.Proofs.YtmmpkkpmlaiapaaGreatDoor
namespace Go.Proofs.YtmmpkkpmlaiapaaGreatDoor
open Go.RowKit
set_option linter.unusedVariables false
def pureRun {α : Type} (P : Program) : Sem α → Option α
  | .pure a => some a
  | .program k => pureRun P (k P)
  | .mark _ k => pureRun P k
  | _ => none
theorem pureRun_ok {α : Type} {P : Program} : ∀ {s : Sem α} {a : α}, pureRun P s = some a → ∀ w, s.run P w = .ok a w
  | .pure a, b, h, w => by simp only [pureRun, Option.some.injEq] at h; subst h; rfl
  | .program k, b, h, w => pureRun_ok (s := k P) h w
  | .mark _ k, b, h, w => pureRun_ok (s := k) h w
  | .load .., _, h, _ => by simp [pureRun] at h
  | .store .., _, h, _ => by simp [pureRun] at h
  | .new .., _, h, _ => by simp [pureRun] at h
  | .shape .., _, h, _ => by simp [pureRun] at h
  | .freeze .., _, h, _ => by simp [pureRun] at h
  | .frozen .., _, h, _ => by simp [pureRun] at h
  | .getObj .., _, h, _ => by simp [pureRun] at h
  | .setObj .., _, h, _ => by simp [pureRun] at h
  | .choose .., _, h, _ => by simp [pureRun] at h
  | .sys .., _, h, _ => by simp [pureRun] at h
  | .halt .., _, h, _ => by simp [pureRun] at h
inductive VN where
  | val (v : Value)
  | skip
  | call (f : FuncId) (args : List Value)
section
variable (P : Program) (D : Den)
def VOk (lim : Nat) (β : Place) (w : World) (s : Sem Value) (v : Value) (W' : VW) : Prop :=
  ∃ v' w' β', s.run P w = .ok v' w' ∧ VR D β' v v' ∧ Rel P D β' W' w' ∧ Ext lim β β' w w'
def NOk (lim : Nat) (β : Place) (w : World) (s : Sem Next) (W : VW) : VN → VW → Prop
  | .val v, W' => ∃ v' w' β', s.run P w = .ok (.value v') w' ∧ VR D β' v v' ∧ Rel P D β' W' w' ∧ Ext lim β β' w w'
  | .skip, W' => ∃ w' β', s.run P w = .ok .skip w' ∧ Rel P D β' W' w' ∧ Ext lim β β' w w'
  | .call f xs, W' => W' = W ∧ ∃ xs', s.run P w = .ok (.enter f xs'.toArray) w ∧ LR D β xs xs'
end
section
variable {P : Program} {D : Den}
def AOk (P : Program) (D : Den) (β : Place) (s : Sem Value) (v : Value) : Prop := ∃ v', VR D β v v' ∧ ∀ w, s.run P w = .ok v' w
theorem VOk.next {lim : Nat} {β : Place} {w : World} {s : Sem Value} {v : Value} {W W' : VW} (h : VOk P D lim β w s v W') : NOk P D lim β w (do pure (.value (← s))) W (.val v) W' := by
  obtain ⟨v', w', β', h1, h2, h3, h4⟩ := h
  exact ⟨v', w', β', by simp [h1, Result.andThen], h2, h3, h4⟩
theorem VOk.same {lim : Nat} {β : Place} {W : VW} {w : World} {s : Sem Value} {v v' : Value} (h : Rel P D β W w) (hs : s.run P w = .ok v' w) (hv : VR D β v v') : VOk P D lim β w s v W :=
  ⟨v', w, β, hs, hv, h, Ext.refl _ _ _⟩
theorem AOk.ok {lim : Nat} {β : Place} {W : VW} {w : World} {s : Sem Value} {v : Value} (h : Rel P D β W w) (ha : AOk P D β s v) : VOk P D lim β w s v W :=
  let ⟨v', h1, h2⟩ := ha; VOk.same h (h2 w) h1
theorem LR.of_pfs {β : Place} {l : List Value} (h : pfs l = true) : LR D β l l := ⟨rfl, pfs_vr D β l h⟩
theorem LR.append {β : Place} {a a' b b' : List Value} (h : LR D β a a') (k : LR D β b b') : LR D β (a ++ b) (a' ++ b') := by
  refine ⟨by simp [h.1, k.1], fun i x y hx hy => ?_⟩
  by_cases hi : i < a.length
  · rw [List.getElem?_append_left hi] at hx
    rw [List.getElem?_append_left (by rw [← h.1]; exact hi)] at hy
    exact h.2 i x y hx hy
  · rw [List.getElem?_append_right (by omega)] at hx
    rw [List.getElem?_append_right (by rw [← h.1]; omega)] at hy
    rw [← h.1] at hy
    exact k.2 _ x y hx hy
theorem LR.nil {β : Place} : LR D β [] [] := ⟨rfl, fun i x y h => by simp at h⟩
theorem LR.cons {β : Place} {v v' : Value} {a a' : List Value} (hv : VR D β v v') (h : LR D β a a') : LR D β (v :: a) (v' :: a') := by
  refine ⟨by simp [h.1], fun i x y hx hy => ?_⟩
  cases i with
  | zero => simp at hx hy; subst hx; subst hy; exact hv
  | succ i => exact h.2 i x y (by simpa using hx) (by simpa using hy)
/-! #### New variables -/
def valloc (P : Program) (W : VW) (T : TypeId) : Option (Value × VW) :=
  match P.info? T with
  | some i => (match i.zero with
    | some z => bif pfs z.cells.toList then some (vnew W T z.cells.toList) else none
    | none => none)
  | none => none
theorem vnew_run {β : Place} {W : VW} {w : World} (h : Rel P D β W w) {lim : Nat} (hlim : lim ≤ W.next) {T : TypeId} {l : List Value} {cs : Array Value} (hl : LR D β l cs.toList) :
    VOk P D lim β w (do pure (.pointer (some (← newRow T cs)))) (vnew W T l).1 (vnew W T l).2 := by
  obtain ⟨β', h1, h2, h3⟩ := vnew_ok h hlim (T := T) hl
  refine ⟨.pointer (some ⟨w.heap.size, 0, none⟩), w.alloc (.cells cs T), β', ?_, ?_, h2, h3⟩
  · simp [newRow, Result.andThen]
  · refine .ptr _ _ _ ?_
    unfold AR; rw [h1]
theorem valloc_ok {β : Place} {W W' : VW} {w : World} (h : Rel P D β W w) {lim : Nat} (hlim : lim ≤ W.next) {T : TypeId} {v : Value} (hv : valloc P W T = some (v, W')) :
    VOk P D lim β w (Instr.alloc T true (.tuple #[])) v W' := by
  unfold valloc at hv
  split at hv
  · rename_i i hi
    split at hv
    · rename_i z hz
      cases hp : pfs z.cells.toList with
      | false => rw [hp] at hv; cases hv
      | true =>
        rw [hp] at hv
        simp only [cond_true, Option.some.injEq] at hv
        have := vnew_run h hlim (T := T) (l := z.cells.toList) (cs := z.cells) (LR.of_pfs hp)
        rw [hv] at this
        obtain ⟨v', w', β', g1, g2⟩ := this
        refine ⟨v', w', β', ?_, g2⟩
        rw [← g1]
        simp [Instr.alloc, zeroValue, typeInfo, hi, hz, newVar, Result.andThen]
    · cases hv
  · cases hv
theorem vbox_ok {β : Place} {W : VW} {w : World} (h : Rel P D β W w) {lim : Nat} (hlim : lim ≤ W.next) {T : TypeId} {v v' : Value} (hv : VR D β v v') :
    VOk P D lim β w (Instr.box T v') (vnew W T v.cells.toList).1 (vnew W T v.cells.toList).2 := by
  have := vnew_run h hlim (T := T) (l := v.cells.toList) (cs := v'.cells) hv.cells
  exact this
/-! #### Structs and arrays as values -/
theorem lr_set {β : Place} {a a' : Array Value} (h : LR D β a.toList a'.toList) {v v' : Value} (hv : VR D β v v') (k : Nat) : LR D β (a.setIfInBounds k v).toList (a'.setIfInBounds k v').toList := by
  refine ⟨by simpa using h.1, fun i x y hx hy => ?_⟩
  simp only [Array.toList_setIfInBounds] at hx hy
  by_cases hik : i = k
  · subst hik
    rw [List.getElem?_set] at hx hy
    simp only [if_true] at hx hy
    split at hx
    · split at hy
      · simp at hx hy; subst hx; subst hy; exact hv
      · cases hy
    · cases hx
  · rw [List.getElem?_set_ne (Ne.symm hik)] at hx hy
    exact h.2 i x y hx hy
theorem lr_fold {β : Place} : ∀ (l l' : List Value) (off j : Nat) (a a' : Array Value), LR D β l l' → LR D β a.toList a'.toList →
    LR D β ((l.zipIdx j).foldl (fun cs (c, j) => cs.setIfInBounds (off + j) c) a).toList ((l'.zipIdx j).foldl (fun cs (c, j) => cs.setIfInBounds (off + j) c) a').toList
  | [], [], _, _, _, _, _, h => h
  | [], _ :: _, _, _, _, _, hl, _ => by have := hl.1; simp at this
  | _ :: _, [], _, _, _, _, hl, _ => by have := hl.1; simp at this
  | v :: l, v' :: l', off, j, a, a', hl, h => by
    simp only [List.zipIdx_cons, List.foldl_cons]
    exact lr_fold l l' off (j + 1) _ _ ⟨by simpa using hl.1, fun i x y hx hy => hl.2 (i + 1) x y (by simpa using hx) (by simpa using hy)⟩ (lr_set h (hl.2 0 v v' rfl rfl) _)
def PR (D : Den) (β : Place) (xs ys : List (Nat × Value)) : Prop := xs.map (·.1) = ys.map (·.1) ∧ LR D β (xs.map (·.2)) (ys.map (·.2))
theorem fill_ok {β : Place} {place : Nat → Option (Nat × Nat)} : ∀ (ps ps' : List (Nat × Value)) (a a' b : Array Value), PR D β ps ps' → LR D β a.toList a'.toList → Instr.fill place a ps = some b →
    ∃ b', Instr.fill place a' ps' = some b' ∧ LR D β b.toList b'.toList
  | [], [], a, a', b, _, h, hf => by
    simp only [Instr.fill, Option.some.injEq] at hf
    subst hf
    exact ⟨a', rfl, h⟩
  | [], _ :: _, _, _, _, hp, _, _ => by have := hp.1; simp at this
  | _ :: _, [], _, _, _, hp, _, _ => by have := hp.1; simp at this
  | (i, v) :: ps, (i', v') :: ps', a, a', b, hp, h, hf => by
    have hi : i = i' := by have := hp.1; simp at this; exact this.1
    subst hi
    have hv : VR D β v v' := hp.2.2 0 v v' rfl rfl
    have hp' : PR D β ps ps' := ⟨by have := hp.1; simp at this; exact this, ⟨by have := hp.2.1; simpa using this, fun i x y hx hy => hp.2.2 (i + 1) x y (by simpa using hx) (by simpa using hy)⟩⟩
    have hc := hv.cells
    have hcs : v'.cells.size = v.cells.size := by have := hc.1; simp at this; exact this.symm
    have has : a'.size = a.size := by have := h.1; simp at this; exact this.symm
    unfold Instr.fill at hf ⊢
    cases hpl : place i with
    | none => rw [hpl] at hf; cases hf
    | some q =>
      obtain ⟨off, size⟩ := q
      rw [hpl] at hf
      simp only [] at hf ⊢
      rw [hcs, has]
      split at hf
      · cases hf
      · rename_i hb
        rw [if_neg hb]
        refine fill_ok ps ps' _ _ b hp' ?_ hf
        have := lr_fold v.cells.toList v'.cells.toList off 0 a a' hc h
        have e : ∀ c a : Array Value, c.zipIdx.foldl (fun cs (x : Value × Nat) => cs.setIfInBounds (off + x.2) x.1) a = (c.toList.zipIdx).foldl (fun cs (x : Value × Nat) => cs.setIfInBounds (off + x.2) x.1) a := fun c a => by
          rw [← Array.foldl_toList, Array.toList_zipIdx]
        have e1 := e v.cells a
        have e2 := e v'.cells a'
        rw [← e1, ← e2] at this
        exact this
def zeroPf (P : Program) (T : TypeId) : Bool :=
  match P.info? T with
  | some i => (match i.zero with | some z => pfs z.cells.toList | none => false)
  | none => false
def vbuild (P : Program) (T : TypeId) (ps : List (Nat × Value)) : Option Value :=
  bif zeroPf P T then (match P.built T ps with | some cs => some (.agg cs) | none => none) else none
theorem built_ok {β : Place} {T : TypeId} {ps ps' : List (Nat × Value)} {cs : Array Value} (hz : zeroPf P T = true) (hp : PR D β ps ps') (h : P.built T ps = some cs) : ∃ cs', P.built T ps' = some cs' ∧ LR D β cs.toList cs'.toList := by
  unfold Program.built at h ⊢
  unfold zeroPf at hz
  cases hit : P.info? T with
  | none => rw [hit] at hz; cases hz
  | some it =>
    rw [hit] at hz
    simp only [] at hz
    cases hzz : it.zero with
    | none => rw [hzz] at hz; cases hz
    | some z =>
      rw [hzz] at hz
      simp only [] at hz
      rw [hit] at h
      cases hu : P.underlying T with
      | none => rw [hu] at h; cases h
      | some d =>
        rw [hu] at h
        cases d <;> simp only [] at h ⊢ <;> try cases h
        · rename_i n e
          rw [hzz] at h ⊢
          cases hie : P.info? e with
          | none => rw [hie] at h; cases h
          | some ie =>
            rw [hie] at h
            exact fill_ok ps ps' _ _ cs hp (LR.of_pfs hz) h
        · rename_i fields
          rw [hzz] at h ⊢
          cases hm : fields.toList.mapM (fun f => (P.info? f.type).map fun i => (f.offset, i.size)) with
          | none => rw [hm] at h; cases h
          | some places =>
            rw [hm] at h
            exact fill_ok ps ps' _ _ cs hp (LR.of_pfs hz) h
theorem vbuild_all {β : Place} {T : TypeId} {ps ps' : List (Nat × Value)} {v : Value} (hp : PR D β ps ps') (hv : vbuild P T ps = some v) :
    AOk P D β (Instr.build T ps'.toArray) v := by
  unfold vbuild at hv
  cases hz : zeroPf P T with
  | false => rw [hz] at hv; cases hv
  | true =>
    rw [hz] at hv
    simp only [cond_true] at hv
    cases hb : P.built T ps with
    | none => rw [hb] at hv; cases hv
    | some cs =>
      rw [hb] at hv
      simp only [Option.some.injEq] at hv
      subst hv
      obtain ⟨cs', h1, h2⟩ := built_ok hz hp hb
      exact ⟨.agg cs', .agg cs.toList cs'.toList h2.1 h2.2, fun w => run_build w T ps'.toArray cs' (by simpa using h1)⟩
theorem vbuild_ok {β : Place} {W : VW} {w : World} (h : Rel P D β W w) {lim : Nat} {T : TypeId} {ps ps' : List (Nat × Value)} {v : Value} (hp : PR D β ps ps') (hv : vbuild P T ps = some v) :
    VOk P D lim β w (Instr.build T ps'.toArray) v W := (vbuild_all hp hv).ok h
def vbuildSlice (P : Program) (W : VW) (T : TypeId) (len : Nat) (ps : List (Nat × Value)) : Option (Value × VW) :=
  match P.underlying T with
  | some (.slice e) =>
    match P.info? e with
    | some ie =>
      match ie.zero with
      | some z =>
        bif (len * ie.size).beq 0 || !(len * ie.size).ble (2 ^ 24) || !pfs z.cells.toList || z.cells.size.beq 0 then none else
          match Instr.fill (fun i => some (i * ie.size, ie.size)) ((Array.range (len * ie.size)).map (z.cells[· % z.cells.size]!)) ps with
          | some cs => some (.slice (some ⟨W.next, 0, none⟩) len len, (vnew W e cs.toList).2)
          | none => none
      | none => none
    | none => none
  | _ => none
theorem pfs_mem : ∀ {l : List Value}, pfs l = true → ∀ v ∈ l, pf v = true
  | [], _, v, h => by cases h
  | x :: l, hp, v, h => by
    simp only [pfs, Bool.and_eq_true] at hp
    rcases List.mem_cons.1 h with rfl | h'
    · exact hp.1
    · exact pfs_mem hp.2 v h'
theorem pfs_of_mem : ∀ {l : List Value}, (∀ v ∈ l, pf v = true) → pfs l = true
  | [], _ => rfl
  | x :: l, h => by
    simp only [pfs, Bool.and_eq_true]
    exact ⟨h x List.mem_cons_self, pfs_of_mem fun v hv => h v (List.mem_cons_of_mem _ hv)⟩
theorem pfs_cycle {z : Array Value} (hp : pfs z.toList = true) (hz : z.size ≠ 0) (n : Nat) : pfs ((Array.range n).map (z[· % z.size]!)).toList = true := by
  refine pfs_of_mem fun v hv => ?_
  simp only [Array.toList_map, List.mem_map] at hv
  obtain ⟨i, _, rfl⟩ := hv
  have hlt : i % z.size < z.size := Nat.mod_lt _ (by omega)
  refine pfs_mem hp _ ?_
  rw [getElem!_pos z _ hlt]
  simp
theorem vbuildSlice_ok {β : Place} {W W' : VW} {w : World} (h : Rel P D β W w) {lim : Nat} (hlim : lim ≤ W.next) {T : TypeId} {len : Nat} {ps ps' : List (Nat × Value)} {v : Value} (hp : PR D β ps ps') (hv : vbuildSlice P W T len ps = some (v, W')) :
    VOk P D lim β w (Instr.buildSlice T len ps'.toArray) v W' := by
  unfold vbuildSlice at hv
  split at hv
  · rename_i e hu
    split at hv
    · rename_i ie hie
      split at hv
      · rename_i z hz
        cases hc : ((len * ie.size).beq 0 || !(len * ie.size).ble (2 ^ 24) || !pfs z.cells.toList || z.cells.size.beq 0) with
        | true => rw [hc] at hv; cases hv
        | false =>
          rw [hc] at hv
          simp only [cond_false] at hv
          simp only [Bool.or_eq_false_iff, Bool.not_eq_false'] at hc
          obtain ⟨⟨⟨c1, c2⟩, c3⟩, c4⟩ := hc
          have c1' : ¬ len * ie.size = 0 := fun e => by rw [e] at c1; cases c1
          have c4' : z.cells.size ≠ 0 := fun e => by rw [e] at c4; cases c4
          have c2' : ¬ len * ie.size > 2 ^ 24 := by have := Nat.le_of_ble_eq_true c2; omega
          split at hv
          · rename_i cs hf
            simp only [Option.some.injEq, Prod.mk.injEq] at hv
            obtain ⟨rfl, rfl⟩ := hv
            obtain ⟨cs', f1, f2⟩ := fill_ok ps ps' _ _ cs hp (LR.of_pfs (pfs_cycle c3 c4' (len * ie.size))) hf
            obtain ⟨β', g1, g2, g3⟩ := vnew_ok h hlim (T := e) f2
            refine ⟨.slice (some ⟨w.heap.size, 0, none⟩) len len, w.alloc (.cells cs' e), β', ?_, ?_, g2, g3⟩
            · exact run_buildSlice w T e len ps'.toArray cs' ie z hu hie hz c2' c1' (by simpa using f1)
            · refine .slice _ _ _ _ _ _ ?_ ?_ (Nat.le_refl _)
              · unfold AR; rw [g1]
              · unfold CR; rw [g1]; exact ⟨0, Nat.le_refl _, rfl⟩
          · cases hv
      · cases hv
    · cases hv
  · cases hv
/-! #### Parts -/
def vpart (P : Program) (T : TypeId) (cs : List Value) (off : Nat) : Option Value :=
  match aggSize P T with
  | some (some m) => some (.agg (cs.toArray.extract off (off + m)))
  | some none => cs[off]?
  | none => none
theorem vpart_ok {β : Place} {T : TypeId} {cs cs' : List Value} {off : Nat} {v : Value} (h : LR D β cs cs') (hv : vpart P T cs off = some v) : AOk P D β (part T cs'.toArray off) v := by
  unfold vpart at hv
  split at hv
  · rename_i m hm
    simp only [Option.some.injEq] at hv
    subst hv
    refine ⟨.agg (cs'.toArray.extract off (off + m)), ?_, fun w => (by
      obtain ⟨g1, g2⟩ := agg_run hm w
      simp [part, g1, g2 m rfl, Result.andThen])⟩
    have e : ∀ l : List Value, l.toArray.extract off (off + m) = ((l.drop off).take m).toArray := fun l => by simp [List.extract_eq_take_drop]
    rw [e, e]
    refine .agg _ _ (by simp [h.1]) fun i x y hx hy => ?_
    by_cases hi : i < m
    · rw [List.getElem?_take_of_lt hi, List.getElem?_drop] at hx hy
      exact h.2 _ x y hx hy
    · rw [List.getElem?_take_eq_none (by omega)] at hx
      cases hx
  · rename_i hm
    have hlt : off < cs.length := (List.getElem?_eq_some_iff.1 hv).1
    have hlt' : off < cs'.length := by rw [← h.1]; exact hlt
    refine ⟨cs'[off], h.2 off v _ hv (List.getElem?_eq_getElem hlt'), fun w => (by
      obtain ⟨g1, g2⟩ := agg_run hm w
      simp [part, g1, Result.andThen, hlt'])⟩
  · cases hv
def vfield (P : Program) (T : TypeId) (v : Value) (f : Nat) : Option Value :=
  match v, P.underlying T with
  | .agg cs, some (.struct fields) => (match fields.toList[f]? with | some fd => vpart P fd.type cs.toList fd.offset | none => none)
  | _, _ => none
theorem vfield_all {β : Place} {T : TypeId} {v v' u : Value} {f : Nat} (hv : VR D β v v') (hf : vfield P T v f = some u) : AOk P D β (Instr.field T v' f) u := by
  unfold vfield at hf
  split at hf
  · rename_i cs fields hu
    cases hv with
    | sym _ _ h1 => cases h1
    | agg xs ys e1 e2 =>
      split at hf
      · rename_i fd hfd
        obtain ⟨u', g2, g1⟩ := vpart_ok (show LR D β xs ys from ⟨e1, e2⟩) hf
        refine ⟨u', g2, fun w => ?_⟩
        have hfd' : fields[f]? = some fd := by simpa using hfd
        simp [Instr.field, run_underlying hu, Result.andThen, hfd', asAgg, g1]
      · cases hf
  · cases hf
theorem vfield_ok {β : Place} {W : VW} {w : World} (h : Rel P D β W w) {lim : Nat} {T : TypeId} {v v' u : Value} {f : Nat} (hv : VR D β v v') (hf : vfield P T v f = some u) : VOk P D lim β w (Instr.field T v' f) u W := (vfield_all hv hf).ok h
def vindex (P : Program) (T : TypeId) (v i : Value) : Option Value :=
  match v, i, P.underlying T with
  | .agg cs, .int _ k, some (.array len e) =>
    match P.info? e with
    | some ie => bif decide (0 ≤ k) && decide (k < len) then vpart P e cs.toList (k.toNat * ie.size) else none
    | none => none
  | _, _, _ => none
theorem vindex_all {β : Place} {T : TypeId} {v v' i i' u : Value} (hv : VR D β v v') (hi : VR D β i i') (hf : vindex P T v i = some u) : AOk P D β (Instr.index T v' i') u := by
  unfold vindex at hf
  split at hf
  · rename_i cs kk k len e hu
    cases hi with
    | sym _ _ h1 => cases h1
    | int =>
      cases hv with
      | sym _ _ h1 => cases h1
      | agg xs ys e1 e2 =>
        split at hf
        · rename_i ie hie
          cases hc : (decide (0 ≤ k) && decide (k < (len : Int))) with
          | false => rw [hc] at hf; cases hf
          | true =>
            rw [hc] at hf
            simp only [cond_true] at hf
            simp only [Bool.and_eq_true, decide_eq_true_eq] at hc
            obtain ⟨u', g2, g1⟩ := vpart_ok (show LR D β xs ys from ⟨e1, e2⟩) hf
            refine ⟨u', g2, fun w => ?_⟩
            have hs := sizeOf_run hie w
            have hie' : P.cellsOf e = ie.size := by simp [Program.cellsOf, hie]
            rw [hie'] at hs
            simp [Instr.index, asIntOf, run_underlying hu, Result.andThen, hc.1, hc.2, hs, g1]
        · cases hf
  · cases hf
theorem vindex_ok {β : Place} {W : VW} {w : World} (h : Rel P D β W w) {lim : Nat} {T : TypeId} {v v' i i' u : Value} (hv : VR D β v v') (hi : VR D β i i') (hf : vindex P T v i = some u) : VOk P D lim β w (Instr.index T v' i') u W := (vindex_all hv hi hf).ok h
end
end Go.Proofs.YtmmpkkpmlaiapaaGreatDoor
namespace Go.Proofs.YtmmpkkpmlaiapaaGreatDoor
open Go.RowKit
set_option linter.unusedVariables false
section
variable {P : Program} {D : Den}
theorem AR.add {β : Place} {b o : Nat} {a : Addr} (h : AR β b o a) (n : Nat) : AR β b (o + n) (a.add n) := by
  unfold AR at *
  cases hb : β b with
  | unborn => rw [hb] at h; exact h
  | dead => trivial
  | live c d x =>
    rw [hb] at h
    simp only [] at h ⊢
    rw [h, addr_add]
    congr 1
    omega
def vfieldAt (P : Program) (T : TypeId) (a : Value) (f : Nat) : Option Value :=
  match a, P.underlying T with
  | .pointer (some ⟨i, o, none⟩), some (.struct fields) =>
    match fields.toList[f]? with
    | some fd => (match P.info? fd.type with | some inf => bif inf.size.beq 0 then none else some (.pointer (some ⟨i, o + fd.offset, none⟩)) | none => none)
    | none => none
  | _, _ => none
theorem vfieldAt_all {β : Place} {T : TypeId} {a a' u : Value} {f : Nat} (ha : VR D β a a') (hf : vfieldAt P T a f = some u) : AOk P D β (Instr.fieldAt T a' f) u := by
  unfold vfieldAt at hf
  split at hf
  · rename_i i o fields hu
    cases ha with
    | sym _ _ h1 => cases h1
    | ptr _ _ a1 hA =>
      split at hf
      · rename_i fd hfd
        split at hf
        · rename_i inf hinf
          cases hz : inf.size.beq 0 with
          | true => rw [hz] at hf; cases hf
          | false =>
            rw [hz] at hf
            simp only [cond_false, Option.some.injEq] at hf
            subst hf
            have hz' : ¬ inf.size = 0 := fun e => by rw [e] at hz; cases hz
            have hfd' : fields[f]? = some fd := by simpa using hfd
            refine ⟨.pointer (some (a1.add fd.offset)), .ptr _ _ _ (hA.add _), fun w => ?_⟩
            have hs := sizeOf_run hinf w
            have hie' : P.cellsOf fd.type = inf.size := by simp [Program.cellsOf, hinf]
            rw [hie'] at hs
            simp [Instr.fieldAt, run_underlying hu, Result.andThen, hfd', Instr.sureAddr, fieldPlace, hs, hz']
        · cases hf
      · cases hf
  · cases hf
theorem vfieldAt_ok {β : Place} {W : VW} {w : World} (h : Rel P D β W w) {lim : Nat} {T : TypeId} {a a' u : Value} {f : Nat} (ha : VR D β a a') (hf : vfieldAt P T a f = some u) : VOk P D lim β w (Instr.fieldAt T a' f) u W := (vfieldAt_all ha hf).ok h
def vindexAt (P : Program) (T : TypeId) (a i : Value) : Option Value :=
  match a, i, P.underlying T with
  | .pointer (some ⟨b, o, none⟩), .int _ k, some (.array len e) =>
    (match P.info? e with
    | some ie => bif decide (0 ≤ k) && decide (k < len) then some (.pointer (some ⟨b, o + k.toNat * ie.size, none⟩)) else none
    | none => none)
  | .slice (some ⟨b, o, none⟩) len _, .int _ k, some (.slice e) =>
    (match P.info? e with
    | some ie => bif decide (0 ≤ k) && decide (k < len) then some (.pointer (some ⟨b, o + k.toNat * ie.size, none⟩)) else none
    | none => none)
  | _, _, _ => none
theorem vindexAt_all {β : Place} {T : TypeId} {a a' i i' u : Value} (ha : VR D β a a') (hi : VR D β i i') (hf : vindexAt P T a i = some u) : AOk P D β (Instr.indexAt T a' i') u := by
  unfold vindexAt at hf
  split at hf
  · rename_i b o kk k len e hu
    cases hi with
    | sym _ _ h1 => cases h1
    | int =>
      cases ha with
      | sym _ _ h1 => cases h1
      | ptr _ _ a1 hA =>
        split at hf
        · rename_i ie hie
          cases hc : (decide (0 ≤ k) && decide (k < (len : Int))) with
          | false => rw [hc] at hf; cases hf
          | true =>
            rw [hc] at hf
            simp only [cond_true, Option.some.injEq] at hf
            subst hf
            simp only [Bool.and_eq_true, decide_eq_true_eq] at hc
            refine ⟨.pointer (some (a1.add (k.toNat * ie.size))), .ptr _ _ _ (hA.add _), fun w => ?_⟩
            have hs := sizeOf_run hie w
            have hie' : P.cellsOf e = ie.size := by simp [Program.cellsOf, hie]
            rw [hie'] at hs
            simp [Instr.indexAt, asIntOf, run_underlying hu, Result.andThen, Instr.sureAddr, hc.1, hc.2, hs]
        · cases hf
  · rename_i b o len cap kk k e hu
    cases hi with
    | sym _ _ h1 => cases h1
    | int =>
      cases ha with
      | sym _ _ h1 => cases h1
      | slice _ _ _ _ cap' a1 hA =>
        split at hf
        · rename_i ie hie
          cases hc : (decide (0 ≤ k) && decide (k < (len : Int))) with
          | false => rw [hc] at hf; cases hf
          | true =>
            rw [hc] at hf
            simp only [cond_true, Option.some.injEq] at hf
            subst hf
            simp only [Bool.and_eq_true, decide_eq_true_eq] at hc
            refine ⟨.pointer (some (a1.add (k.toNat * ie.size))), .ptr _ _ _ (hA.add _), fun w => ?_⟩
            have hs := sizeOf_run hie w
            have hie' : P.cellsOf e = ie.size := by simp [Program.cellsOf, hie]
            rw [hie'] at hs
            simp [Instr.indexAt, asIntOf, run_underlying hu, Result.andThen, hc.1, hc.2, hs]
        · cases hf
  · cases hf
theorem vindexAt_ok {β : Place} {W : VW} {w : World} (h : Rel P D β W w) {lim : Nat} {T : TypeId} {a a' i i' u : Value} (ha : VR D β a a') (hi : VR D β i i') (hf : vindexAt P T a i = some u) : VOk P D lim β w (Instr.indexAt T a' i') u W := (vindexAt_all ha hi hf).ok h
/-! #### Slices of slices -/
def vbound (lo : Option Value) (dflt : Nat) : Option Nat :=
  match lo with
  | none => some dflt
  | some (.int _ k) => bif decide (0 ≤ k) then some k.toNat else none
  | _ => none
def alive (W : VW) (b : Nat) : Bool :=
  match W.heap.at b with
  | some _ => true
  | none => false
def vslice (P : Program) (W : VW) (T : TypeId) (x : Value) (lo hi : Option Value) : Option Value :=
  match x, P.underlying T with
  | .slice (some ⟨b, o, none⟩) len cap, some (.slice e) =>
    match P.info? e, vbound lo 0, vbound hi len with
    | some ie, some l, some h =>
      bif alive W b && l.ble h && h.ble cap then
        (bif cap.beq l then some (.slice (some ⟨b, o, some 0⟩) 0 0) else some (.slice (some ⟨b, o + l * ie.size, none⟩) (h - l) (cap - l))) else none
    | _, _, _ => none
  | .pointer (some ⟨b, o, none⟩), some (.array n e) =>
    match P.info? e, vbound lo 0, vbound hi n with
    | some ie, some l, some h =>
      bif alive W b && l.ble h && h.ble n then
        (bif n.beq l then some (.slice (some ⟨b, o, some 0⟩) 0 0) else some (.slice (some ⟨b, o + l * ie.size, none⟩) (h - l) (n - l))) else none
    | _, _, _ => none
  | _, _ => none
def OR (D : Den) (β : Place) : Option Value → Option Value → Prop
  | none, none => True
  | some v, some v' => VR D β v v'
  | _, _ => False
theorem vbound_ok {β : Place} {lo lo' : Option Value} {dflt l : Nat} (h : OR D β lo lo') (hv : vbound lo dflt = some l) : (lo = none ∧ lo' = none ∧ l = dflt) ∨ ∃ k i, lo' = some (.int k i) ∧ 0 ≤ i ∧ l = i.toNat := by
  unfold vbound at hv
  split at hv
  · cases lo' with
    | none => simp only [Option.some.injEq] at hv; exact Or.inl ⟨rfl, rfl, hv.symm⟩
    | some v => exact h.elim
  · rename_i k i
    cases lo' with
    | none => exact h.elim
    | some v' =>
      have h' : VR D β (.int k i) v' := h
      cases h' with
      | sym _ _ h1 => cases h1
      | int =>
        cases hc : decide (0 ≤ i) with
        | false => rw [hc] at hv; cases hv
        | true =>
          rw [hc] at hv
          simp only [cond_true, Option.some.injEq] at hv
          exact Or.inr ⟨k, i, rfl, by simpa using hc, hv.symm⟩
  · cases hv
theorem sliceBound_run {w : World} {k : IntKind} {i : Int} {y : Nat} {c : BoundsCode} (h0 : 0 ≤ i) (h1 : i.toNat ≤ y) : (Instr.sliceBound (.int k i) y c).run P w = .ok i.toNat w := by
  have : i ≤ (y : Int) := by omega
  simp [Instr.sliceBound, asIntOf, h0, this]
theorem sliceBounds_run {β : Place} {w : World} {lo lo' hi hi' : Option Value} {len cap cap' l h : Nat} {b : Bool} (hl : OR D β lo lo') (hh : OR D β hi hi') (hvl : vbound lo 0 = some l) (hvh : vbound hi len = some h) (h1 : l ≤ h) (h2 : h ≤ cap) (h3 : cap ≤ cap') :
    (Instr.sliceBounds b len cap' lo' hi' none).run P w = .ok (l, h, cap') w := by
  have e1 : ((match hi' with
    | some v => Instr.sliceBound v cap' (if b then .sliceAcap else .sliceAlen)
    | none => pure len) : Sem Nat).run P w = .ok h w := by
    rcases vbound_ok hh hvh with ⟨_, rfl, rfl⟩ | ⟨k, i, rfl, i0, rfl⟩
    · rfl
    · exact sliceBound_run i0 (by omega)
  have e2 : ((match lo' with
    | some v => Instr.sliceBound v h .sliceB
    | none => pure 0) : Sem Nat).run P w = .ok l w := by
    rcases vbound_ok hl hvl with ⟨_, rfl, rfl⟩ | ⟨k, i, rfl, i0, rfl⟩
    · rfl
    · exact sliceBound_run i0 (by omega)
  unfold Instr.sliceBounds
  rcases vbound_ok hh hvh with ⟨_, rfl, rfl⟩ | ⟨k, i, rfl, i0, rfl⟩ <;> rcases vbound_ok hl hvl with ⟨_, rfl, rfl⟩ | ⟨k', i', rfl, i0', rfl⟩ <;> simp only [Sem.run_bind, Sem.run_pure, Result.andThen] at * <;> simp [e1, e2]
theorem vslice_ok {β : Place} {W : VW} {w : World} (h : Rel P D β W w) {lim : Nat} {T : TypeId} {x x' u : Value} {lo lo' hi hi' : Option Value} (hx : VR D β x x') (hl : OR D β lo lo') (hh : OR D β hi hi') (hf : vslice P W T x lo hi = some u) :
    VOk P D lim β w (Instr.sliceAt T x' lo' hi' none) u W := by
  unfold vslice at hf
  split at hf
  · rename_i b o len cap e hu
    split at hf
    · rename_i ie l hh1 hie hvl hvh
      cases hc : (alive W b && l.ble hh1 && hh1.ble cap) with
      | false => rw [hc] at hf; cases hf
      | true =>
        rw [hc] at hf
        simp only [cond_true] at hf
        simp only [Bool.and_eq_true, Nat.ble_eq] at hc
        obtain ⟨⟨c1, c2⟩, c3⟩ := hc
        cases hx with
        | sym _ _ h1 => cases h1
        | slice _ _ _ _ cap' a1 hA hC hle =>
          have hlive : ∃ b1 d x, β b = .live b1 d x := by
            unfold alive at c1
            split at c1
            · rename_i ob hb
              obtain ⟨b1, d, x, e1, _⟩ := h.live b _ hb
              exact ⟨b1, d, x, e1⟩
            · cases c1
          obtain ⟨b1, d, xx, e1⟩ := hlive
          have hC' := hC
          unfold CR at hC'
          rw [e1] at hC'
          simp only [] at hC'
          obtain ⟨dd, hd1, rfl⟩ := hC'
          have hs := sizeOf_run hie w
          have hie' : P.cellsOf e = ie.size := by simp [Program.cellsOf, hie]
          rw [hie'] at hs
          have hb := sliceBounds_run (P := P) (w := w) (b := true) (cap' := cap + dd) hl hh hvl hvh c2 c3 (by omega)
          refine VOk.same h (v' := .slice (if cap + dd = l then some a1 else some (a1.add (l * ie.size))) (hh1 - l) (cap + dd - l)) ?_ ?_
          · simp [Instr.sliceAt, Instr.slice, run_underlying hu, Result.andThen, hb, hs]
          · cases hcl : cap.beq l with
            | true =>
              rw [hcl] at hf
              simp only [cond_true, Option.some.injEq] at hf
              subst hf
              have e2 := Nat.eq_of_beq_eq_true hcl
              subst e2
              have e3 : hh1 = cap := by omega
              subst e3
              rw [Nat.sub_self]
              split <;> exact .slice0 _ _ _ _ _
            | false =>
              rw [hcl] at hf
              simp only [cond_false, Option.some.injEq] at hf
              subst hf
              have e2 : ¬ cap = l := fun e => by rw [e, Nat.beq_refl] at hcl; cases hcl
              rw [if_neg (by omega)]
              refine .slice _ _ _ _ _ _ (hA.add _) ?_ (by omega)
              unfold CR
              rw [e1]
              exact ⟨dd, hd1, by omega⟩
    · cases hf
  · rename_i b o n e hu
    split at hf
    · rename_i ie l hh1 hie hvl hvh
      cases hc : (alive W b && l.ble hh1 && hh1.ble n) with
      | false => rw [hc] at hf; cases hf
      | true =>
        rw [hc] at hf
        simp only [cond_true] at hf
        simp only [Bool.and_eq_true, Nat.ble_eq] at hc
        obtain ⟨⟨c1, c2⟩, c3⟩ := hc
        cases hx with
        | sym _ _ h1 => cases h1
        | ptr _ _ a1 hA =>
          have hs := sizeOf_run hie w
          have hie' : P.cellsOf e = ie.size := by simp [Program.cellsOf, hie]
          rw [hie'] at hs
          have hb := sliceBounds_run (P := P) (w := w) (b := false) (cap' := n) hl hh hvl hvh c2 c3 (Nat.le_refl _)
          refine VOk.same h (v' := .slice (some (if n = l then a1 else a1.add (l * ie.size))) (hh1 - l) (n - l)) ?_ ?_
          · simp [Instr.sliceAt, run_underlying hu, Result.andThen, Instr.sureAddr, hb, hs]
          · cases hcl : n.beq l with
            | true =>
              rw [hcl] at hf
              simp only [cond_true, Option.some.injEq] at hf
              subst hf
              have e2 := Nat.eq_of_beq_eq_true hcl
              subst e2
              have e3 : hh1 = n := by omega
              subst e3
              rw [Nat.sub_self]
              exact .slice0 _ _ _ _ _
            | false =>
              rw [hcl] at hf
              simp only [cond_false, Option.some.injEq] at hf
              subst hf
              have e2 : ¬ n = l := fun e => by rw [e, Nat.beq_refl] at hcl; cases hcl
              rw [if_neg (by omega)]
              refine .slice _ _ _ _ _ _ (hA.add _) ?_ (by omega)
              unfold CR
              split
              · exact ⟨0, Nat.zero_le _, rfl⟩
              · trivial
    · cases hf
  · cases hf
/-! #### make -/
def vmake (P : Program) (W : VW) (T : TypeId) (l c : Value) : Option (Value × VW) :=
  match l, c, P.underlying T with
  | .int _ l, .int _ c, some (.slice e) =>
    match P.info? e with
    | some ie =>
      match ie.zero with
      | some z =>
        bif decide (0 ≤ l) && decide (l ≤ c) && (c.toNat * ie.size).ble 16777216 && decide ((ie.bytes : Int) * c ≤ 281474976710656) && decide (c ≤ 9223372036854775807) && pfs z.cells.toList && !z.cells.size.beq 0 then
          some (.slice (some ⟨W.next, 0, none⟩) l.toNat c.toNat, (vnew W e (madeCells z.cells (c.toNat * ie.size)).toList).2) else none
      | none => none
    | none => none
  | _, _, _ => none
theorem vmake_ok {β : Place} {W W' : VW} {w : World} (h : Rel P D β W w) {lim : Nat} (hlim : lim ≤ W.next) {T : TypeId} {l l' c c' v : Value} (hl : VR D β l l') (hc : VR D β c c') (hv : vmake P W T l c = some (v, W')) :
    VOk P D lim β w (Instr.makeSlice T l' c') v W' := by
  unfold vmake at hv
  split at hv
  · rename_i kl li kc ci e hu
    cases hl with
    | sym _ _ h1 => cases h1
    | int =>
      cases hc with
      | sym _ _ h1 => cases h1
      | int =>
        split at hv
        · rename_i ie hie
          split at hv
          · rename_i z hz
            cases hb : (decide (0 ≤ li) && decide (li ≤ ci) && (ci.toNat * ie.size).ble 16777216 && decide ((ie.bytes : Int) * ci ≤ 281474976710656) && decide (ci ≤ 9223372036854775807) && pfs z.cells.toList && !z.cells.size.beq 0) with
            | false => rw [hb] at hv; cases hv
            | true =>
              rw [hb] at hv
              simp only [cond_true, Option.some.injEq, Prod.mk.injEq] at hv
              obtain ⟨rfl, rfl⟩ := hv
              simp only [Bool.and_eq_true, Bool.not_eq_true', decide_eq_true_eq, Nat.ble_eq] at hb
              obtain ⟨⟨⟨⟨⟨⟨b1, b2⟩, b3⟩, b4⟩, b5⟩, b6⟩, b7⟩ := hb
              have b7' : z.cells.size ≠ 0 := fun e => by rw [e] at b7; cases b7
              obtain ⟨β', g1, g2, g3⟩ := vnew_ok h hlim (T := e) (LR.of_pfs (D := D) (pfs_cycle b6 b7' (ci.toNat * ie.size)))
              refine ⟨_, _, β', run_makeSlice w T e ie z hu hie hz kl kc li ci b1 b2 b3 b4 b5, ?_, g2, g3⟩
              refine .slice _ _ _ _ _ _ ?_ ?_ (by omega)
              · unfold AR; rw [g1]
              · unfold CR; rw [g1]; exact ⟨0, Nat.le_refl _, rfl⟩
          · cases hv
        · cases hv
  · cases hv
/-! #### append -/
def vsrc (P : Program) (W : VW) (es : Nat) (tx : TypeId) (x : Value) : Option (Nat × List Value) :=
  match P.underlying tx with
  | some (.slice _) =>
    (match x with
    | .slice none 0 0 => some (0, [])
    | .slice (some ⟨_, _, some _⟩) 0 0 => some (0, [])
    | .slice (some ⟨b, o, none⟩) n _ =>
      (match W.heap.at b with
      | some ob => (match rdOf ob with
        | some (t, m) => (match rdN t m o (n * es) with | some l => bif l.all Value.oneCell' then some (n, l) else none | none => none)
        | none => none)
      | none => none)
    | _ => none)
  | some .string =>
    (match x with
    | .string s => bif es.beq 1 then some (s.size, byteCells s) else none
    | _ => none)
  | _ => none
theorem lr_one {β : Place} {l l' : List Value} (h : LR D β l l') (ho : l.all Value.oneCell' = true) : ∀ u ∈ l', u.oneCell' = true := by
  intro u hu
  obtain ⟨i, hi⟩ := List.getElem?_of_mem hu
  have hlt : i < l.length := by rw [h.1]; exact (List.getElem?_eq_some_iff.1 hi).1
  refine (h.2 i _ u (List.getElem?_eq_getElem hlt) hi).one ?_
  simp only [List.all_eq_true] at ho
  exact ho _ (List.getElem_mem _)
theorem pfs_bytes (s : ByteArray) : pfs (byteCells s) = true := by
  refine pfs_of_mem fun v hv => ?_
  obtain ⟨b, _, rfl⟩ := List.mem_map.1 hv
  rfl
theorem vsrc_ok {β : Place} {W : VW} {w : World} (h : Rel P D β W w) {es : Nat} {tx : TypeId} {x x' : Value} {n : Nat} {l : List Value} (hx : VR D β x x') (hv : vsrc P W es tx x = some (n, l)) :
    ∃ l', Src P es tx x' n l' w ∧ LR D β l l' ∧ l.all Value.oneCell' = true := by
  unfold vsrc at hv
  split at hv
  · rename_i e' hk
    split at hv
    · simp only [Option.some.injEq, Prod.mk.injEq] at hv
      obtain ⟨rfl, rfl⟩ := hv
      cases hx with
      | sym _ _ h1 => cases h1
      | nilSlice => exact ⟨[], Src.ofNil w hk 0, LR.nil, rfl⟩
    · simp only [Option.some.injEq, Prod.mk.injEq] at hv
      obtain ⟨rfl, rfl⟩ := hv
      cases hx with
      | sym _ _ h1 => cases h1
      | slice0 _ _ _ c a => exact ⟨[], Src.ofSlice w hk a 0 c [] (by simp) (fun j u hu => by simp at hu) (fun _ hu => by cases hu), LR.nil, rfl⟩
    · rename_i b o n' cap
      split at hv
      · rename_i ob hb
        split at hv
        rotate_left
        · cases hv
        rename_i t m hob
        split at hv
        · rename_i l0 hr
          cases ho : l0.all Value.oneCell' with
          | false => rw [ho] at hv; cases hv
          | true =>
            rw [ho] at hv
            simp only [cond_true, Option.some.injEq, Prod.mk.injEq] at hv
            obtain ⟨rfl, rfl⟩ := hv
            obtain ⟨b1, d, x, e1, e2⟩ := h.live b _ hb
            cases hx with
            | sym _ _ h1 => cases h1
            | slice _ _ _ _ cap' a1 hA =>
              unfold AR at hA
              rw [e1] at hA
              simp only [] at hA
              subst hA
              obtain ⟨l', k1, k2, k3⟩ := cells_rel e2 hob hr
              exact ⟨l', Src.ofSlice w hk _ n' cap' l' k2 (fun j u hu => by rw [addr_add]; exact k3 j u hu) (lr_one k1 ho), k1, ho⟩
        · cases hv
      · cases hv
    · cases hv
  · rename_i hk
    split at hv
    · rename_i s
      cases hb : es.beq 1 with
      | false => rw [hb] at hv; cases hv
      | true =>
        rw [hb] at hv
        simp only [cond_true, Option.some.injEq, Prod.mk.injEq] at hv
        obtain ⟨rfl, rfl⟩ := hv
        obtain rfl := Nat.eq_of_beq_eq_true hb
        cases hx with
        | sym _ _ h1 => cases h1
        | string =>
          refine ⟨byteCells s, Src.ofString w hk s, LR.of_pfs (pfs_bytes s), ?_⟩
          rw [List.all_eq_true]
          intro u hu
          obtain ⟨_, _, rfl⟩ := List.mem_map.1 hu
          rfl
    · cases hv
  · cases hv
def vappend (P : Program) (lim : Nat) (W : VW) (T tx : TypeId) (s x : Value) : Option (Value × VW) :=
  match P.underlying T with
  | some (.slice e) =>
    match P.info? e with
    | some ie =>
      match ie.zero with
      | some z =>
        match vsrc P W ie.size tx x with
        | some (n, l) =>
          match s with
          | .slice none 0 0 =>
            bif n.beq 0 then some (.slice none 0 0, W) else
              bif n.ble 1000000 && ie.bytes.ble 100000 && l.length.beq (n * ie.size) && z.cells.size.beq ie.size then some (.slice (some ⟨W.next, 0, none⟩) n n, (vnew W e l).2) else none
          | .slice (some ⟨b, o, some k⟩) 0 0 => bif n.beq 0 then some (.slice (some ⟨b, o, some k⟩) 0 0, W) else none
          | .slice (some ⟨b, o, none⟩) len cap =>
            bif (len + n).ble cap then
              (match vstoreCells lim W b (o + len * ie.size) l with | some W' => some (.slice (some ⟨b, o, none⟩) (len + n) cap, W') | none => none)
            else
              (match W.heap.at b with
              | some (.cells t m T0) =>
                bif lim.ble b && T0.beq e && (o + cap * ie.size).ble m && (len + n).ble 1000000 && ie.bytes.ble 100000 && l.length.beq (n * ie.size) && z.cells.size.beq ie.size then
                  (match rdN t m o (len * ie.size) with
                  | some old => some (.slice (some ⟨W.next, 0, none⟩) (len + n) (len + n), (vnew ⟨Tr.set DD W.heap b none, W.next⟩ e (old ++ l)).2)
                  | none => none) else none
              | _ => none)
          | _ => none
        | none => none
      | none => none
    | none => none
  | _ => none
theorem run_append_room' {w w' : World} {t tx ty e : TypeId} {i : TypeInfo} (ht : P.underlying t = some (.slice e)) (hi : P.info? e = some i) {a : Addr} {sLen sCap : Nat} {x : Value} {n : Nat} {news : List Value} (hs : Src P i.size tx x n news w)
    (hroom : sLen + n ≤ sCap) (hst : (storeCells (a.add (sLen * i.size)) news).run P w = .ok () w') :
    (Builtin.append_ #[t, tx] ty #[.slice (some a) sLen sCap, x]).run P w = .ok (.slice (some a) (sLen + n) sCap) w' := by
  rcases hs.kind with ⟨e', hk⟩ | hk <;> simp [Builtin.append_, run_underlying ht, run_underlying hk, sizeOf, typeInfo, hi, hs.len, hroom, hs.cells, hst]
theorem Rel.drew {β : Place} {W : VW} {w : World} (h : Rel P D β W w) : Rel P D β W w.drew := ⟨h.unborn, fun i o hi => let ⟨b, d, x, e1, e2⟩ := h.live i o hi; ⟨b, d, x, e1, e2.mono (LeS.refl _) rfl⟩, h.inj, h.lt⟩
theorem Ext.drew {lim : Nat} {β β' : Place} {w w' : World} (h : Ext lim β β' w.drew w') : Ext lim β β' w w' :=
  ⟨h.le, h.low, ⟨h.only.os, h.only.tape, h.only.output, h.only.size, h.only.block⟩, h.new⟩
theorem Rel.lt_next {β : Place} {W : VW} {w : World} (h : Rel P D β W w) {b : Nat} {o : VObj} (hb : W.heap.at b = some o) : b < W.next := by
  obtain ⟨c, d, x, e, _⟩ := h.live b o hb
  rcases Nat.lt_or_ge b W.next with h1 | h1
  · exact h1
  · rw [h.unborn b h1] at e; cases e
theorem Rel.kill {β : Place} {W : VW} {w : World} (h : Rel P D β W w) {lim b : Nat} (hlim : lim ≤ b) (hb : b < W.next) : Rel P D (updP β b .dead) ⟨Tr.set DD W.heap b none, W.next⟩ w ∧ Ext lim β (updP β b .dead) w w := by
  refine ⟨⟨fun i hi => ?_, fun i o hi => ?_, fun i j c d x d' x' hi hj => ?_, fun i c d x hi => ?_⟩, ⟨LeS.upd_dead, fun i hi => updP_ne (by omega), Only.refl _ _, ?_⟩⟩
  · have hi' : W.next ≤ i := hi
    rw [updP_ne (by omega)]; exact h.unborn i hi'
  · obtain ⟨hne, hi'⟩ := Tr.at_drop hi
    obtain ⟨c, d, x, e1, e2⟩ := h.live i o hi'
    exact ⟨c, d, x, by rw [updP_ne hne]; exact e1, e2.mono LeS.upd_dead rfl⟩
  · by_cases e1 : i = b
    · subst e1; rw [updP_same] at hi; cases hi
    · by_cases e2 : j = b
      · subst e2; rw [updP_same] at hj; cases hj
      · rw [updP_ne e1] at hi; rw [updP_ne e2] at hj; exact h.inj i j c d x d' x' hi hj
  · by_cases e1 : i = b
    · subst e1; rw [updP_same] at hi; cases hi
    · rw [updP_ne e1] at hi; exact h.lt i c d x hi
  · rintro k hk ⟨i, d, x, hi, e⟩
    by_cases e1 : i = b
    · subst e1; rw [updP_same] at e; cases e
    · rw [updP_ne e1] at e; exact ⟨i, d, x, hi, e⟩
theorem wrN_eq : ∀ (l : List Value) (o : Nat) (t : Tr Value), wrN t o l = trOf o l t
  | [], _, _ => rfl
  | v :: l, o, t => wrN_eq l (o + 1) (t.put o v)
theorem trOf_append : ∀ (a b : List Value) (k : Nat) (t : Tr Value), trOf k (a ++ b) t = trOf (k + a.length) b (trOf k a t)
  | [], b, k, t => rfl
  | v :: a, b, k, t => by
    have := trOf_append a b (k + 1) (t.put k v)
    simp only [List.cons_append, trOf, List.length_cons]
    rw [this]
    congr 1
    omega
theorem grow_in {β : Place} {W : VW} {w : World} (h : Rel P D β W w) {lim b t m o e : Nat} {tt : Tr Value} {b1 d x cap dd len n es : Nat} {old l l' : List Value} (hb : W.heap.at b = some (.cells tt m e)) (hβ : β b = .live b1 d x) (hlim : lim ≤ b) (hes : P.cellsOf e = es)
    (ho : o + cap * es ≤ m) (hdd : dd ≤ x) (hr : rdN tt m o (len * es) = some old) (hn : len + n ≤ cap + dd) (hll : l.length = n * es) (hl : LR D β l l') (h1 : l.all Value.oneCell' = true) (hle : len ≤ cap) :
    ∃ w' β', (storeCells (⟨b1, o + d + len * es, none⟩ : Addr) l').run P w = .ok () w' ∧ β' W.next = .live b1 (d + o) (cap + dd - (len + n)) ∧
      Rel P D β' (vnew ⟨Tr.set DD W.heap b none, W.next⟩ e (old ++ l)).2 w' ∧ Ext lim β β' w w' := by
  obtain ⟨g1, g2⟩ := rdN_spec _ _ _ hr
  obtain ⟨c0, d0, x0, f1, f2⟩ := h.live b _ hb
  rw [hβ] at f1
  injection f1 with fa fb fc
  subst fa fb fc
  have hbn := h.lt_next hb
  have hblk := f2
  obtain ⟨cs, q1, q2, q3⟩ := hblk
  have hsz : (d + o) + (len + n) * es + (cap + dd - (len + n)) * es ≤ cs.size := by
    rw [hes] at q2
    have e1 : (len + n) * es + (cap + dd - (len + n)) * es = (cap + dd) * es := by rw [← Nat.add_mul]; congr 1; omega
    have e2 : (cap + dd) * es ≤ cap * es + x * es := by rw [Nat.add_mul]; exact Nat.add_le_add_left (Nat.mul_le_mul_right _ hdd) _
    omega
  have hnew : ObjRel P D β w b1 (d + o) (cap + dd - (len + n)) (.cells (trOf 0 old .nil) ((len + n) * es) e) := by
    refine ⟨cs, q1, by rw [hes]; exact hsz, fun k v hk hv => ?_⟩
    rcases trOf_at old 0 .nil k v hv with ⟨_, hh⟩ | ⟨_, hh⟩
    · obtain ⟨k1, k2⟩ := g2 (k - 0) v hh
      obtain ⟨v', r1, r2⟩ := q3 _ v k1 k2
      exact ⟨v', by rw [← r1]; congr 1; omega, r2⟩
    · rw [show (Tr.nil : Tr Value).at k = none from Tr.get_nil _ _] at hh; cases hh
  obtain ⟨w', hw⟩ := storeCells_ok l l' _ (len * es) 0 w hnew (by rw [hll, ← Nat.add_mul]; exact Nat.le_refl _) hl h1
  rcases hw with ⟨s1, s2, s3, s4, s5⟩ | s
  rotate_left
  · omega
  have hle1 : LeS β (updP β b .dead) := LeS.upd_dead
  have hun : (updP β b .dead) W.next = .unborn := by rw [updP_ne (by omega)]; exact h.unborn _ (Nat.le_refl _)
  have hle2 := hle1.trans (LeS.upd_unborn hun (.live b1 (d + o) (cap + dd - (len + n))))
  refine ⟨w', updP (updP β b .dead) W.next (.live b1 (d + o) (cap + dd - (len + n))), ?_, updP_same _ _ _, ⟨?_, ?_, ?_, ?_⟩, ⟨hle2, ?_, s3 _ ⟨b, d, x, hlim, hβ⟩, ?_⟩⟩
  · rw [show o + d + len * es = len * es + (d + o) - 0 by omega]; exact s1
  · intro i hi
    have hi' : W.next + 1 ≤ i := hi
    rw [updP_ne (by omega), updP_ne (by omega)]
    exact h.unborn i (by omega)
  · intro i ob hi
    rcases Tr.at_put hi with ⟨rfl, rfl⟩ | ⟨hne, hi'⟩
    · refine ⟨b1, d + o, cap + dd - (len + n), updP_same _ _ _, ?_⟩
      rw [wrN_eq] at s2
      have e1 : old.length = len * es := g1
      rw [trOf_append, Nat.zero_add, e1, List.length_append, e1, hll, ← Nat.add_mul]
      exact s2.mono hle2 rfl
    · obtain ⟨hnb, hi2⟩ := Tr.at_drop hi'
      obtain ⟨c, d', x', e1, e2⟩ := h.live i ob hi2
      refine ⟨c, d', x', by rw [updP_ne hne, updP_ne hnb]; exact e1, e2.mono hle2 (s5 c ?_)⟩
      rintro rfl
      exact hnb (h.inj i b c d' x' d x e1 hβ)
  · intro i j c d1 x1 d2 x2 hi hj
    by_cases e1 : i = W.next
    · by_cases e2 : j = W.next
      · rw [e1, e2]
      · subst e1
        rw [updP_same] at hi
        injection hi with ha
        subst ha
        rw [updP_ne e2] at hj
        by_cases e3 : j = b
        · subst e3; rw [updP_same] at hj; cases hj
        · rw [updP_ne e3] at hj
          exact absurd (h.inj j b b1 d2 x2 d x hj hβ) e3
    · rw [updP_ne e1] at hi
      by_cases e4 : i = b
      · subst e4; rw [updP_same] at hi; cases hi
      rw [updP_ne e4] at hi
      by_cases e2 : j = W.next
      · subst e2
        rw [updP_same] at hj
        injection hj with ha
        subst ha
        exact absurd (h.inj i b b1 d1 x1 d x hi hβ) e4
      · rw [updP_ne e2] at hj
        by_cases e3 : j = b
        · subst e3; rw [updP_same] at hj; cases hj
        · rw [updP_ne e3] at hj
          exact h.inj i j c d1 x1 d2 x2 hi hj
  · intro i c d1 x1 hi
    rw [s4]
    by_cases e1 : i = W.next
    · subst e1
      rw [updP_same] at hi
      injection hi with ha
      subst ha
      exact h.lt b b1 d x hβ
    · rw [updP_ne e1] at hi
      by_cases e4 : i = b
      · subst e4; rw [updP_same] at hi; cases hi
      · rw [updP_ne e4] at hi
        exact h.lt i c d1 x1 hi
  · intro i hi
    rw [updP_ne (by omega), updP_ne (by omega)]
  · rintro k hk ⟨i, d1, x1, hi, e⟩
    by_cases e1 : i = W.next
    · subst e1
      rw [updP_same] at e
      injection e with ha
      subst ha
      exact ⟨b, d, x, hlim, hβ⟩
    · rw [updP_ne e1] at e
      by_cases e4 : i = b
      · subst e4; rw [updP_same] at e; cases e
      · rw [updP_ne e4] at e
        exact ⟨i, d1, x1, hi, e⟩
theorem zeroCells_size (z : Array Value) (n : Nat) : (Builtin.zeroCells z n).size = n * z.size := by simp [Builtin.zeroCells]
theorem grow_new {β : Place} {W : VW} {w : World} (h : Rel P D β W w) {lim e : Nat} (hlim : lim ≤ W.next) {l l' : List Value} {zs : Array Value} {xs : Nat} (hl : LR D β l l') (hz : zs.size = xs * P.cellsOf e) :
    ∃ β', β' W.next = .live w.heap.size 0 xs ∧ Rel P D β' (vnew W e l).2 (w.alloc (.cells (l'.toArray ++ zs) e)) ∧ Ext lim β β' w (w.alloc (.cells (l'.toArray ++ zs) e)) := by
  refine ⟨updP β W.next (.live w.heap.size 0 xs), updP_same _ _ _, ?_⟩
  have hle := LeS.upd_unborn (h.unborn W.next (Nat.le_refl _)) (.live w.heap.size 0 xs)
  refine h.alloc hlim _ _ ⟨l'.toArray ++ zs, blk_new _ _, ?_, fun k v hk hv => ?_⟩
  · have := hl.1
    simp [this, hz]
  · rcases trOf_at l 0 .nil k v hv with ⟨_, h1⟩ | ⟨_, h1⟩
    · have hk' : k < l'.length := by rw [← hl.1]; exact hk
      refine ⟨l'[k], by simp [hk', Array.getElem?_append], (hl.2 k v _ h1 (List.getElem?_eq_getElem hk')).mono hle⟩
    · rw [show (Tr.nil : Tr Value).at k = none from Tr.get_nil _ _] at h1; cases h1
theorem vappend_ok {β : Place} {W W' : VW} {w : World} (h : Rel P D β W w) {lim : Nat} (hlim : lim ≤ W.next) {T tx ty : TypeId} {s s' x x' v : Value} (hs : VR D β s s') (hx : VR D β x x') (hv : vappend P lim W T tx s x = some (v, W')) :
    VOk P D lim β w (Builtin.append_ #[T, tx] ty #[s', x']) v W' := by
  unfold vappend at hv
  split at hv
  rotate_left
  · cases hv
  rename_i e hu
  split at hv
  rotate_left
  · cases hv
  rename_i ie hie
  split at hv
  rotate_left
  · cases hv
  rename_i z hz
  split at hv
  rotate_left
  · cases hv
  rename_i n l hsrc
  obtain ⟨l', k1, k2, k3⟩ := vsrc_ok h hx hsrc
  have hes : P.cellsOf e = ie.size := by simp [Program.cellsOf, hie]
  split at hv
  · cases hs with
    | sym _ _ h1 => cases h1
    | nilSlice =>
      cases hn : n.beq 0 with
      | true =>
        rw [hn] at hv
        simp only [cond_true, Option.some.injEq, Prod.mk.injEq] at hv
        obtain ⟨rfl, rfl⟩ := hv
        have := Nat.eq_of_beq_eq_true hn
        subst this
        have hl0 : l' = [] := by have := k1.newsLen; simpa using this
        subst hl0
        exact VOk.same h (run_append_nothing w T tx ty e ie hu hie none 0 0 (Nat.le_refl _) x' k1) .nilSlice
      | false =>
        rw [hn] at hv
        simp only [cond_false] at hv
        have hn0 : ¬ n = 0 := fun e => by rw [e] at hn; cases hn
        cases hc : (n.ble 1000000 && ie.bytes.ble 100000 && l.length.beq (n * ie.size) && z.cells.size.beq ie.size) with
        | false => rw [hc] at hv; cases hv
        | true =>
          rw [hc] at hv
          simp only [cond_true, Option.some.injEq, Prod.mk.injEq] at hv
          obtain ⟨rfl, rfl⟩ := hv
          simp only [Bool.and_eq_true, Nat.ble_eq] at hc
          obtain ⟨⟨⟨c1, c2⟩, c3⟩, c4⟩ := hc
          have c4' := Nat.eq_of_beq_eq_true c4
          have hnx : Builtin.nextslicecap (0 + n) 0 * ie.bytes ≤ 281474976710656 := by
            have h1 := nextslicecap_le (need := 0 + n) (old := 0) (by omega)
            calc _ ≤ (2 * (0 + n)) * ie.bytes := Nat.mul_le_mul_right _ h1
              _ ≤ (2 * 1000000) * 100000 := Nat.mul_le_mul (by omega) c2
              _ ≤ _ := by decide
          have hrun := run_append_grow_src w T tx ty e ie z hu hie hz none 0 0 [] (by simp [Builtin.firstCells]) x' n l' k1 (by omega) (by omega) hnx
          have hz2 : (Builtin.zeroCells z.cells (grownCap w (0 + n) 0 e - (0 + n))).size = (grownCap w (0 + n) 0 e - (0 + n)) * P.cellsOf e := by rw [zeroCells_size, hes, c4']
          obtain ⟨β', g1, g2, g3⟩ := grow_new h.drew hlim k2 hz2
          refine ⟨_, _, β', hrun, ?_, by simpa using g2, Ext.drew (by simpa using g3)⟩
          have hge := grownCap_ge w (0 + n) 0 e
          rw [Nat.zero_add]
          refine .slice _ _ _ _ _ _ ?_ ?_ (Nat.le_refl _)
          · unfold AR; rw [g1]; rfl
          · unfold CR; rw [g1]
            refine ⟨_, Nat.le_refl _, ?_⟩
            rw [Nat.zero_add] at *
            omega
  · rename_i b o k
    cases hn : n.beq 0 with
    | false => rw [hn] at hv; cases hv
    | true =>
      rw [hn] at hv
      simp only [cond_true, Option.some.injEq, Prod.mk.injEq] at hv
      obtain ⟨rfl, rfl⟩ := hv
      have := Nat.eq_of_beq_eq_true hn
      subst this
      have hl0 : l' = [] := by have := k1.newsLen; simpa using this
      subst hl0
      cases hs with
      | sym _ _ h1 => cases h1
      | slice0 _ _ _ c a => exact VOk.same h (run_append_nothing w T tx ty e ie hu hie (some a) 0 c (Nat.zero_le _) x' k1) (.slice0 _ _ _ _ _)
  · rename_i b o len cap
    cases hs with
    | sym _ _ h1 => cases h1
    | slice _ _ _ _ cap' a1 hA hC hle =>
      cases hcap : (len + n).ble cap with
      | true =>
        rw [hcap] at hv
        simp only [cond_true] at hv
        split at hv
        · rename_i W1 hst
          simp only [Option.some.injEq, Prod.mk.injEq] at hv
          obtain ⟨rfl, rfl⟩ := hv
          have hc' := Nat.le_of_ble_eq_true hcap
          have hlive : ∃ b1 d x, β b = .live b1 d x := by
            unfold vstoreCells at hst
            split at hst
            · rename_i t m T0 hb
              obtain ⟨b1, d, x, e1, _⟩ := h.live b _ hb
              exact ⟨b1, d, x, e1⟩
            · cases hst
          obtain ⟨b1, d, xx, e1⟩ := hlive
          have hC' := hC
          unfold CR at hC'
          rw [e1] at hC'
          simp only [] at hC'
          obtain ⟨dd, hd1, rfl⟩ := hC'
          obtain ⟨w', g1, g2, g3⟩ := vstoreCells_ok h (hA.add (len * ie.size)) k2 hst
          refine ⟨_, w', β, run_append_room' hu hie k1 (by omega) g1, .slice _ _ _ _ _ _ hA hC hc', g2, g3⟩
        · cases hv
      | false =>
        rw [hcap] at hv
        simp only [cond_false] at hv
        have hc' : ¬ len + n ≤ cap := fun hh => by rw [← Nat.ble_eq] at hh; rw [hh] at hcap; cases hcap
        split at hv
        rotate_left
        · cases hv
        rename_i t m T0 hb
        cases hc : (lim.ble b && T0.beq e && (o + cap * ie.size).ble m && (len + n).ble 1000000 && ie.bytes.ble 100000 && l.length.beq (n * ie.size) && z.cells.size.beq ie.size) with
        | false => rw [hc] at hv; cases hv
        | true =>
          rw [hc] at hv
          simp only [cond_true] at hv
          simp only [Bool.and_eq_true, Nat.ble_eq] at hc
          obtain ⟨⟨⟨⟨⟨⟨c0, c1⟩, c2⟩, c3⟩, c4⟩, c5⟩, c6⟩ := hc
          have c1' := Nat.eq_of_beq_eq_true c1
          subst c1'
          have c5' := Nat.eq_of_beq_eq_true c5
          have c6' := Nat.eq_of_beq_eq_true c6
          split at hv
          rotate_left
          · cases hv
          rename_i old hr
          simp only [Option.some.injEq, Prod.mk.injEq] at hv
          obtain ⟨rfl, rfl⟩ := hv
          obtain ⟨b1, d, xx, e1, e2⟩ := h.live b _ hb
          have hC' := hC
          unfold CR at hC'
          rw [e1] at hC'
          simp only [] at hC'
          obtain ⟨dd, hd1, rfl⟩ := hC'
          have hA' := hA
          unfold AR at hA'
          rw [e1] at hA'
          simp only [] at hA'
          subst hA'
          by_cases hin : len + n ≤ cap + dd
          · obtain ⟨w', β', g1, g2, g3, g4⟩ := grow_in (t := 0) h hb e1 c0 hes c2 hd1 hr hin c5' k2 k3 hle
            refine ⟨_, w', β', run_append_room' hu hie k1 hin (by rw [addr_add]; exact g1), ?_, g3, g4⟩
            refine .slice _ _ _ _ _ _ ?_ ?_ (Nat.le_refl _)
            · unfold AR; rw [g2]; simp
            · unfold CR; rw [g2]
              exact ⟨_, Nat.le_refl _, by omega⟩
          · obtain ⟨old', q1, q2, q3⟩ := cells_rel e2 rfl hr
            have hnx : Builtin.nextslicecap (len + n) (cap + dd) * ie.bytes ≤ 281474976710656 := by
              have h1 := nextslicecap_le (need := len + n) (old := cap + dd) (by omega)
              calc _ ≤ (2 * (len + n)) * ie.bytes := Nat.mul_le_mul_right _ h1
                _ ≤ (2 * 1000000) * 100000 := Nat.mul_le_mul (by omega) c4
                _ ≤ _ := by decide
            have hold : (Builtin.firstCells ie.size len (.slice (some ⟨b1, o + d, none⟩) len (cap + dd))).run P w.drew = .ok old'.toArray w.drew :=
              run_firstCells_some w.drew ie.size len _ len (cap + dd) old' q2 (fun j u hu => by rw [addr_add]; exact q3 j u hu)
            have hrun := run_append_grow_src w T tx ty T0 ie z hu hie hz (some ⟨b1, o + d, none⟩) len (cap + dd) old' hold x' n l' k1 (by omega) (by omega) hnx
            have hz2 : (Builtin.zeroCells z.cells (grownCap w (len + n) (cap + dd) T0 - (len + n))).size = (grownCap w (len + n) (cap + dd) T0 - (len + n)) * P.cellsOf T0 := by rw [zeroCells_size, hes, c6']
            obtain ⟨r1, r2⟩ := h.drew.kill (lim := lim) c0 (h.lt_next hb)
            obtain ⟨β', g1, g2, g3⟩ := grow_new r1 (lim := lim) hlim ((q1.append k2).mono LeS.upd_dead) hz2
            refine ⟨_, _, β', hrun, ?_, g2, Ext.drew (r2.trans g3)⟩
            have hge := grownCap_ge w (len + n) (cap + dd) T0
            refine .slice _ _ _ _ _ _ ?_ ?_ (Nat.le_refl _)
            · unfold AR; rw [g1]; rfl
            · unfold CR; rw [g1]
              exact ⟨_, Nat.le_refl _, by omega⟩
  · cases hv
end
end Go.Proofs.YtmmpkkpmlaiapaaGreatDoor
namespace Go.Proofs.YtmmpkkpmlaiapaaGreatDoor
open Go.RowKit
set_option linter.unusedVariables false
theorem toListLoop (s : ByteArray) : ∀ (n i : Nat) (r : List UInt8), s.size - i = n → ByteArray.toList.loop s i r = r.reverse ++ s.data.toList.drop i
  | 0, i, r, h => by
    unfold ByteArray.toList.loop
    rw [if_neg (by omega), List.drop_eq_nil_of_le (by have : s.data.toList.length = s.size := Array.length_toList
                                                      omega)]
    simp
  | n + 1, i, r, h => by
    unfold ByteArray.toList.loop
    have hs : s.data.toList.length = s.size := Array.length_toList
    rw [if_pos (by omega), toListLoop s n (i + 1) _ (by omega)]
    have hi : i < s.data.toList.length := by omega
    rw [List.drop_eq_getElem_cons hi]
    simp only [List.reverse_cons, List.append_assoc, List.singleton_append]
    congr 2
    show s.data[i]! = _
    have hi' : i < s.data.size := by simpa using hi
    rw [getElem!_pos s.data i hi']
    rfl
theorem toList_data (s : ByteArray) : s.toList = s.data.toList := by
  have := toListLoop s s.size 0 [] (by omega)
  simpa [ByteArray.toList] using this
section
variable {P : Program} {D : Den}
/-! #### copy, clear, len -/
def vlen : Value → Option Nat
  | .slice none 0 0 => some 0
  | .slice (some _) n _ => some n
  | _ => none
theorem vlen_ok {β : Place} {w : World} {x x' : Value} {n : Nat} (hx : VR D β x x') (h : vlen x = some n) : (Builtin.lenOf x').run P w = .ok n w ∧ ∃ a c, x' = .slice a n c := by
  unfold vlen at h
  split at h
  · simp only [Option.some.injEq] at h
    subst h
    cases hx with
    | sym _ _ h1 => cases h1
    | nilSlice => exact ⟨rfl, _, _, rfl⟩
  · simp only [Option.some.injEq] at h
    subst h
    cases hx with
    | sym _ _ h1 => cases h1
    | slice => exact ⟨rfl, _, _, rfl⟩
    | slice0 => exact ⟨rfl, _, _, rfl⟩
  · cases h
def vlenOp (P : Program) (T : TypeId) (x : Value) : Option Value :=
  match P.underlying T with
  | some (.slice _) => (match vlen x with | some n => some (goInt n) | none => none)
  | _ => none
theorem vlenOp_ok {β : Place} {W : VW} {w : World} (h : Rel P D β W w) {lim : Nat} {T ty : TypeId} {x x' u : Value} (hx : VR D β x x') (hv : vlenOp P T x = some u) : VOk P D lim β w (Builtin.len_ #[T] ty #[x']) u W := by
  unfold vlenOp at hv
  split at hv
  rotate_left
  · cases hv
  rename_i e hu
  split at hv
  rotate_left
  · cases hv
  rename_i n hn
  simp only [Option.some.injEq] at hv
  subst hv
  obtain ⟨_, a, c, rfl⟩ := vlen_ok (P := P) (w := w) hx hn
  refine VOk.same h (v' := goInt n) ?_ (.int _ _)
  simp [Builtin.len_, run_underlying hu, Result.andThen]
def vfirst (W : VW) (k : Nat) : Value → Option (List Value)
  | .slice none 0 0 => some []
  | .slice (some ⟨_, _, some _⟩) _ _ => bif k.beq 0 then some [] else none
  | .slice (some ⟨b, o, none⟩) _ _ =>
    (match W.heap.at b with
    | some ob => (match rdOf ob with | some (t, m) => rdN t m o k | none => none)
    | none => none)
  | _ => none
theorem vfirst_ok {β : Place} {W : VW} {w : World} (h : Rel P D β W w) {x x' : Value} {size n : Nat} {l : List Value} (hx : VR D β x x') (hv : vfirst W (n * size) x = some l) :
    ∃ l', (Builtin.firstCells size n x').run P w = .ok l'.toArray w ∧ LR D β l l' := by
  unfold vfirst at hv
  split at hv
  · simp only [Option.some.injEq] at hv
    subst hv
    cases hx with
    | sym _ _ h1 => cases h1
    | nilSlice => exact ⟨[], by simp [Builtin.firstCells], LR.nil⟩
  · cases hk : (n * size).beq 0 with
    | false => rw [hk] at hv; cases hv
    | true =>
      rw [hk] at hv
      simp only [cond_true, Option.some.injEq] at hv
      subst hv
      have e := Nat.eq_of_beq_eq_true hk
      cases hx with
      | sym _ _ h1 => cases h1
      | slice0 => exact ⟨[], run_firstCells_some w size n _ _ _ [] (by simp [e]) (fun j u hu => by simp at hu), LR.nil⟩
  · rename_i b o len cap
    split at hv
    · rename_i ob hb
      split at hv
      rotate_left
      · cases hv
      rename_i t m hob
      obtain ⟨b1, d, xx, e1, e2⟩ := h.live b _ hb
      obtain ⟨l', k1, k2, k3⟩ := cells_rel e2 hob hv
      cases hx with
      | sym _ _ h1 => cases h1
      | slice _ _ _ _ cap' a1 hA =>
        unfold AR at hA
        rw [e1] at hA
        simp only [] at hA
        subst hA
        exact ⟨l', run_firstCells_some w size n _ _ _ l' k2 (fun j u hu => by rw [addr_add]; exact k3 j u hu), k1⟩
    · cases hv
  · cases hv
def vcopy (P : Program) (lim : Nat) (W : VW) (T : TypeId) (dst src : Value) : Option (Value × VW) :=
  match P.underlying T with
  | some (.slice e) =>
    match P.info? e, vlen dst, vlen src with
    | some ie, some dn, some sn =>
      (match vfirst W (Nat.min sn dn * ie.size) src with
      | some l =>
        (match dst with
        | .slice none 0 0 => some (goInt (Nat.min sn dn), W)
        | .slice (some ⟨b, o, none⟩) _ _ => (match vstoreCells lim W b o l with | some W' => some (goInt (Nat.min sn dn), W') | none => none)
        | .slice (some ⟨_, _, some _⟩) _ _ => (match l with | [] => some (goInt (Nat.min sn dn), W) | _ => none)
        | _ => none)
      | none => none)
    | _, _, _ => none
  | _ => none
theorem vcopy_ok {β : Place} {W W' : VW} {w : World} (h : Rel P D β W w) {lim : Nat} {T sT ty : TypeId} {dst dst' src src' v : Value} (hd : VR D β dst dst') (hs : VR D β src src') (hv : vcopy P lim W T dst src = some (v, W')) :
    VOk P D lim β w (Builtin.copy_ #[T, sT] ty #[dst', src']) v W' := by
  unfold vcopy at hv
  split at hv
  rotate_left
  · cases hv
  rename_i e hu
  split at hv
  rotate_left
  · cases hv
  rename_i ie dn sn hie hdn hsn
  split at hv
  rotate_left
  · cases hv
  rename_i l hl
  obtain ⟨_, da, dc, rfl⟩ := vlen_ok (P := P) (w := w) hd hdn
  obtain ⟨hlen, sa, sc, rfl⟩ := vlen_ok (P := P) (w := w) hs hsn
  obtain ⟨l', g1, g2⟩ := vfirst_ok h hs hl
  have hsz : (sizeOf e).run P w = .ok ie.size w := by
    have := sizeOf_run hie w
    rwa [show P.cellsOf e = ie.size by simp [Program.cellsOf, hie]] at this
  split at hv
  · simp only [Option.some.injEq, Prod.mk.injEq] at hv
    obtain ⟨rfl, rfl⟩ := hv
    cases hd with
    | sym _ _ h1 => cases h1
    | nilSlice =>
      refine VOk.same h (v' := goInt (Nat.min sn 0)) ?_ (.int _ _)
      have e0 : Nat.min sn 0 = 0 := Nat.min_zero sn
      rw [e0] at g1 ⊢
      simp only [Builtin.copy_]
      simp [run_underlying hu, Result.andThen, hlen, hsz, g1]
  · rename_i b o len cap
    split at hv
    · rename_i W1 hst
      simp only [Option.some.injEq, Prod.mk.injEq] at hv
      obtain ⟨rfl, rfl⟩ := hv
      cases hd with
      | sym _ _ h1 => cases h1
      | slice _ _ _ _ cap' a1 hA =>
        obtain ⟨w', q1, q2, q3⟩ := vstoreCells_ok h hA g2 hst
        refine ⟨goInt (Nat.min sn dn), w', β, ?_, .int _ _, q2, q3⟩
        simp only [Builtin.copy_]
        simp [run_underlying hu, Result.andThen, hlen, hsz, g1, q1]
    · cases hv
  · split at hv
    · simp only [Option.some.injEq, Prod.mk.injEq] at hv
      obtain ⟨rfl, rfl⟩ := hv
      have hl0 : l' = [] := by have := g2.1; simp at this; exact List.length_eq_zero_iff.1 this.symm
      subst hl0
      refine VOk.same h (v' := goInt (Nat.min sn dn)) ?_ (.int _ _)
      simp only [Builtin.copy_]
      cases da <;> simp [run_underlying hu, Result.andThen, hlen, hsz, g1, storeCells]
    · cases hv
  · cases hv
def vclear (P : Program) (lim : Nat) (W : VW) (T : TypeId) (x : Value) : Option VW :=
  match P.underlying T with
  | some (.slice e) =>
    (match x with
    | .slice none 0 0 => some W
    | .slice (some ⟨b, o, none⟩) n _ =>
      (match P.info? e with
      | some ie =>
        (match ie.zero with
        | some z => bif !n.beq 0 && pfs z.cells.toList && !z.cells.size.beq 0 then vstoreCells lim W b o (Builtin.zeroCells z.cells n).toList else none
        | none => none)
      | none => none)
    | _ => none)
  | _ => none
theorem vclear_ok {β : Place} {W W' : VW} {w : World} (h : Rel P D β W w) {lim : Nat} {T ty : TypeId} {x x' : Value} (hx : VR D β x x') (hv : vclear P lim W T x = some W') : VOk P D lim β w (Builtin.clear_ #[T] ty #[x']) (.tuple #[]) W' := by
  unfold vclear at hv
  split at hv
  rotate_left
  · cases hv
  rename_i e hu
  split at hv
  · simp only [Option.some.injEq] at hv
    subst hv
    cases hx with
    | sym _ _ h1 => cases h1
    | nilSlice =>
      refine VOk.same h (v' := .tuple #[]) ?_ (pf_vr D β _ rfl)
      simp [Builtin.clear_, run_underlying hu, Result.andThen]
  · rename_i b o n cap
    split at hv
    rotate_left
    · cases hv
    rename_i ie hie
    split at hv
    rotate_left
    · cases hv
    rename_i z hz
    cases hc : (!n.beq 0 && pfs z.cells.toList && !z.cells.size.beq 0) with
    | false => rw [hc] at hv; cases hv
    | true =>
      rw [hc] at hv
      simp only [cond_true] at hv
      simp only [Bool.and_eq_true, Bool.not_eq_true'] at hc
      obtain ⟨⟨c1, c2⟩, c3⟩ := hc
      have c1' : ¬ n = 0 := fun e => by rw [e] at c1; cases c1
      have c3' : z.cells.size ≠ 0 := fun e => by rw [e] at c3; cases c3
      cases hx with
      | sym _ _ h1 => cases h1
      | slice _ _ _ _ cap' a1 hA =>
        have hp : pfs (Builtin.zeroCells z.cells n).toList = true := pfs_cycle c2 c3' _
        obtain ⟨w', q1, q2, q3⟩ := vstoreCells_ok h hA (LR.of_pfs hp) hv
        refine ⟨.tuple #[], w', β, ?_, pf_vr D β _ rfl, q2, q3⟩
        have hzr : (zeroValue e).run P w = .ok z w := by simp [zeroValue, typeInfo, hie, hz, Result.andThen]
        cases n with
        | zero => exact absurd rfl c1'
        | succ n => simp [Builtin.clear_, run_underlying hu, Result.andThen, hzr, q1]
  · cases hv
/-! #### Comparisons with nil -/
def vnilEq (P : Program) (T : TypeId) (x y : Value) : Option Bool :=
  match P.underlying T, x, y with
  | some (.pointer _), .pointer none, .pointer (some ⟨_, _, none⟩) => some false
  | some (.pointer _), .pointer (some ⟨_, _, none⟩), .pointer none => some false
  | some (.slice _), .slice none 0 0, .slice (some _) _ _ => some false
  | some (.slice _), .slice (some _) _ _, .slice none 0 0 => some false
  | some (.map _ _), .map none, .map (some _) => some false
  | some (.map _ _), .map (some _), .map none => some false
  | _, _, _ => none
theorem vnilEq_ok' (dp : Nat) {β : Place} {w : World} {T : TypeId} {x x' y y' : Value} {r : Bool} (hx : VR D β x x') (hy : VR D β y y') (hv : vnilEq P T x y = some r) : (Op.equalIn (dp + 1) T x' y').run P w = .ok r w := by
  unfold vnilEq at hv
  split at hv
  · rename_i e _ _ hu
    simp only [Option.some.injEq] at hv
    subst hv
    cases hx with
    | sym _ _ h1 => cases h1
    | nilPtr => cases hy with
      | sym _ _ h1 => cases h1
      | ptr => simp [Op.equalIn, run_underlying hu, Result.andThen]
  · rename_i e _ _ hu
    simp only [Option.some.injEq] at hv
    subst hv
    cases hy with
    | sym _ _ h1 => cases h1
    | nilPtr => cases hx with
      | sym _ _ h1 => cases h1
      | ptr => simp [Op.equalIn, run_underlying hu, Result.andThen]
  · rename_i e _ _ _ hu
    simp only [Option.some.injEq] at hv
    subst hv
    cases hx with
    | sym _ _ h1 => cases h1
    | nilSlice => cases hy with
      | sym _ _ h1 => cases h1
      | slice => simp [Op.equalIn, run_underlying hu, Result.andThen]
      | slice0 => simp [Op.equalIn, run_underlying hu, Result.andThen]
  · rename_i e _ _ _ hu
    simp only [Option.some.injEq] at hv
    subst hv
    cases hy with
    | sym _ _ h1 => cases h1
    | nilSlice => cases hx with
      | sym _ _ h1 => cases h1
      | slice => simp [Op.equalIn, run_underlying hu, Result.andThen]
      | slice0 => simp [Op.equalIn, run_underlying hu, Result.andThen]
  · rename_i k e _ hu
    simp only [Option.some.injEq] at hv
    subst hv
    cases hx with
    | sym _ _ h1 => cases h1
    | nilMap => cases hy with
      | sym _ _ h1 => cases h1
      | map => simp [Op.equalIn, run_underlying hu, Result.andThen]
  · rename_i k e _ hu
    simp only [Option.some.injEq] at hv
    subst hv
    cases hy with
    | sym _ _ h1 => cases h1
    | nilMap => cases hx with
      | sym _ _ h1 => cases h1
      | map => simp [Op.equalIn, run_underlying hu, Result.andThen]
  · cases hv
theorem vnilEq_ok {β : Place} {w : World} {T : TypeId} {x x' y y' : Value} {r : Bool} (hx : VR D β x x') (hy : VR D β y y') (hv : vnilEq P T x y = some r) : (Op.equal T x' y').run P w = .ok r w := by
  have := vnilEq_ok' 9999 (w := w) hx hy hv
  exact this
def vstrOp (op : BinOp) (x y : ByteArray) : Option Value :=
  match op with
  | .add => bif (x.size + y.size).ble 1000000 then some (.string ⟨⟨x.data.toList ++ y.data.toList⟩⟩) else none
  | .eql => some (.bool (x.data.toList == y.data.toList))
  | .neq => some (.bool !(x.data.toList == y.data.toList))
  | .lss => some (.bool (Op.bytesLess x.data.toList y.data.toList))
  | .geq => some (.bool !(Op.bytesLess x.data.toList y.data.toList))
  | _ => none
theorem vstrOp_ok {op : BinOp} {x y : ByteArray} {v : Value} (h : vstrOp op x y = some v) (T : TypeId) (w : World) : (binOp op T (.string x) (.string y)).run P w = .ok v w := by
  unfold vstrOp at h
  have happ : (⟨⟨x.data.toList ++ y.data.toList⟩⟩ : ByteArray) = x ++ y := by
    refine Go.WideShapes.bytes_inj ?_
    simp
  split at h
  · cases hb : (x.size + y.size).ble 1000000 with
    | false => rw [hb] at h; cases h
    | true =>
      rw [hb] at h
      simp only [cond_true, Option.some.injEq] at h
      subst h
      have := Nat.le_of_ble_eq_true hb
      rw [happ]
      have h2 : ¬ ((x.size + y.size : Nat) : Int) > IntKind.i64.max := by
        have : IntKind.i64.max = 9223372036854775807 := rfl
        rw [this]; omega
      simp only [binOp, Op.stringOp, if_neg h2]
      rfl
  all_goals (try cases h)
  all_goals simp [binOp, Op.stringOp, toList_data]
def vbin (P : Program) (op : BinOp) (T : TypeId) (x y : Value) : Option Value :=
  match op, x, y with
  | op, .string a, .string b => vstrOp op a b
  | .eql, x, y => (match vnilEq P T x y with | some r => some (.bool r) | none => none)
  | .neq, x, y => (match vnilEq P T x y with | some r => some (.bool !r) | none => none)
  | _, _, _ => none
theorem guard_run {op : BinOp} {T : TypeId} {x y : Operand} {a b : Value} {w : World} (ha : (a = .nilIface ∨ ∃ cs, a = .agg cs) → False) : (eqGuard op T x y a b).run P w = .ok () w := by
  unfold eqGuard
  cases a <;> first | (exact (ha (Or.inl rfl)).elim) | (exact (ha (Or.inr ⟨_, rfl⟩)).elim) | (split <;> simp)
theorem vbin_all {β : Place} {op : BinOp} {T : TypeId} {x x' y y' u : Value} {ox oy : Operand} (hx : VR D β x x') (hy : VR D β y y') (hv : vbin P op T x y = some u) :
    AOk P D β (do eqGuard op T ox oy x' y'; binOp op T x' y') u := by
  have key : ∀ (w : World) r, vnilEq P T x y = some r → ((x' = .nilIface ∨ ∃ cs, x' = .agg cs) → False) ∧ (binOp .eql T x' y').run P w = .ok (.bool r) w ∧ (binOp .neq T x' y').run P w = .ok (.bool !r) w := by
    intro w r hr
    have he := vnilEq_ok (w := w) hx hy hr
    unfold vnilEq at hr
    split at hr
    all_goals (try cases hr)
    all_goals cases hx <;> first | (rename_i h1 _ _; cases h1) | skip
    all_goals cases hy <;> first | (rename_i h1 _ _; cases h1) | skip
    all_goals refine ⟨by simp, ?_, ?_⟩ <;> simp only [binOp] <;> simp [he, Result.andThen]
  unfold vbin at hv
  split at hv
  · rename_i sa sb
    cases hx with
    | sym _ _ h1 => cases h1
    | string =>
      cases hy with
      | sym _ _ h1 => cases h1
      | string =>
        have hp : VR D β u u := by
          unfold vstrOp at hv
          split at hv
          · cases hb : (Nat.ble _ 1000000) with
            | false => rw [hb] at hv; cases hv
            | true => rw [hb] at hv; simp only [cond_true, Option.some.injEq] at hv; subst hv; exact .string _
          all_goals (try (simp only [Option.some.injEq] at hv; subst hv; exact .bool _))
          cases hv
        refine ⟨u, hp, fun w => ?_⟩
        have := vstrOp_ok (P := P) hv T w
        have hg := guard_run (P := P) (op := op) (T := T) (x := ox) (y := oy) (a := .string sa) (b := .string sb) (w := w) (by simp)
        simp only [Sem.run_bind, hg, Result.andThen, this]
  · split at hv
    · rename_i r hr
      simp only [Option.some.injEq] at hv
      subst hv
      refine ⟨_, .bool _, fun w => ?_⟩
      obtain ⟨k1, k2, k3⟩ := key w r hr
      simp only [Sem.run_bind, guard_run k1, Result.andThen, k2]
    · cases hv
  · split at hv
    · rename_i r hr
      simp only [Option.some.injEq] at hv
      subst hv
      refine ⟨_, .bool _, fun w => ?_⟩
      obtain ⟨k1, k2, k3⟩ := key w r hr
      simp only [Sem.run_bind, guard_run k1, Result.andThen, k3]
    · cases hv
  · cases hv
theorem vbin_ok {β : Place} {W : VW} {w : World} (h : Rel P D β W w) {lim : Nat} {op : BinOp} {T : TypeId} {x x' y y' u : Value} {ox oy : Operand} (hx : VR D β x x') (hy : VR D β y y') (hv : vbin P op T x y = some u) :
    VOk P D lim β w (do eqGuard op T ox oy x' y'; binOp op T x' y') u W := (vbin_all hx hy hv).ok h
end
end Go.Proofs.YtmmpkkpmlaiapaaGreatDoor
