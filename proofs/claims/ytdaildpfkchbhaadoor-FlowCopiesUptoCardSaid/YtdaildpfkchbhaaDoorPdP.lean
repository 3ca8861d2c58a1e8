/- PickData: what the data's items add up to. Plain. No condition. -/
import Derived.Test.YtdaildpfkchbhaaDoorRj
namespace Go.Proofs.YtdaildpfkchbhaaDoor
open Go.RowKit
set_option linter.unusedVariables false
/-- an item of the data: its kind, its name, how many bytes it has, its number -/
structure DatD where
  kind : Int
  name : ByteArray
  len : Nat
  n : Int
structure StD where
  at_ : Int
  next : Nat
  pub : Int
  sec : Int
def gLabel (s : ByteArray) : ByteArray := ⟨#[103, 95]⟩ ++ s
/-- what the law does with an item -/
def stepD (gs : List GlobD) (s : StD) (d : DatD) : Option StD :=
  if d.kind = 0 then (match gs[s.next]? with
    | some g => if g.at_ = s.at_ ∧ d.name = gLabel g.name then some ⟨s.at_, s.next + 1, s.pub, s.sec⟩ else none
    | none => none)
  else if d.kind = 1 then some ⟨s.at_ + d.len, s.next, s.pub, s.sec⟩
  else if d.kind = 2 then some ⟨s.at_ + 8, s.next, s.pub, s.sec⟩
  else if d.kind = 3 then some ⟨s.at_ + d.n, s.next, s.pub + d.n, s.sec⟩
  else if d.kind = 4 then some ⟨s.at_ + d.n, s.next, s.pub, s.sec + d.n⟩
  else some ⟨s.at_ + d.n, s.next, s.pub, s.sec⟩
def runD (gs : List GlobD) (ds : List DatD) : Option StD := ds.foldl (fun o d => o.bind fun s => stepD gs s d) (some ⟨0, 0, 0, 0⟩)
theorem runD_snoc (gs : List GlobD) (ds : List DatD) (d : DatD) : runD gs (ds ++ [d]) = (runD gs ds).bind fun s => stepD gs s d := by
  unfold runD
  rw [List.foldl_append]; rfl
theorem fold_none (gs : List GlobD) : ∀ ds : List DatD, ds.foldl (fun o d => o.bind fun s => stepD gs s d) (none : Option StD) = none
  | [] => rfl
  | d :: ds => fold_none gs ds
theorem runD_take {gs : List GlobD} {ds : List DatD} {s : StD} (h : runD gs ds = some s) (j : Nat) : ∃ t, runD gs (ds.take j) = some t := by
  cases e : runD gs (ds.take j) with
  | some t => exact ⟨t, rfl⟩
  | none =>
    have : runD gs ds = (ds.drop j).foldl (fun o d => o.bind fun s => stepD gs s d) (runD gs (ds.take j)) := by
      unfold runD
      rw [← List.foldl_append, List.take_append_drop]
    rw [this, e, fold_none] at h
    cases h
theorem take_moreD {α : Type} {xs : List α} {i : Nat} {x : α} (h : xs[i]? = some x) : xs.take (i + 1) = xs.take i ++ [x] := by
  rw [List.take_add_one, h]; rfl
theorem runD_next {gs : List GlobD} {ds : List DatD} {j : Nat} {d : DatD} {s : StD} (hd : ds[j]? = some d) (h : runD gs (ds.take j) = some s) : runD gs (ds.take (j + 1)) = stepD gs s d := by
  rw [take_moreD hd, runD_snoc, h]; rfl
/-- items that add nothing below zero -/
def NnD (d : DatD) : Prop := 0 ≤ d.n
/-- what is kept in between -/
def StOk (s : StD) : Prop := 0 ≤ s.pub ∧ s.pub ≤ s.at_ ∧ 0 ≤ s.sec ∧ s.sec ≤ s.at_
theorem stepD_ok {gs : List GlobD} {s t : StD} {d : DatD} (h : stepD gs s d = some t) (hn : NnD d) (hs : StOk s) : StOk t ∧ s.at_ ≤ t.at_ := by
  unfold NnD at hn
  obtain ⟨h1, h2, h3, h4⟩ := hs
  unfold stepD at h
  split at h
  · split at h
    · split at h
      · cases h; exact ⟨⟨h1, h2, h3, h4⟩, Int.le_refl _⟩
      · cases h
    · cases h
  · split at h
    · cases h; unfold StOk; simp only; omega
    · split at h
      · cases h; unfold StOk; simp only; omega
      · split at h
        · cases h; unfold StOk; simp only; omega
        · split at h
          · cases h; unfold StOk; simp only; omega
          · cases h; unfold StOk; simp only; omega
theorem runD_ok {gs : List GlobD} {ds : List DatD} (hn : ∀ d ∈ ds, NnD d) : ∀ (j : Nat) (s : StD), runD gs (ds.take j) = some s → StOk s
  | 0, s, h => by
    rw [List.take_zero] at h
    cases h
    exact ⟨Int.le_refl _, Int.le_refl _, Int.le_refl _, Int.le_refl _⟩
  | j + 1, s, h => by
    cases hd : ds[j]? with
    | none =>
      rw [List.take_of_length_le (by have := List.getElem?_eq_none_iff.1 hd; omega)] at h
      have : ds = ds.take j := by rw [List.take_of_length_le (List.getElem?_eq_none_iff.1 hd)]
      rw [this] at h
      exact runD_ok hn j s h
    | some d =>
      obtain ⟨t, ht⟩ := runD_take h j
      rw [List.take_take, Nat.min_eq_left (by omega)] at ht
      rw [runD_next hd ht] at h
      exact (stepD_ok h (hn d (List.mem_of_getElem? hd)) (runD_ok hn j t ht)).1
theorem runD_mono {gs : List GlobD} {ds : List DatD} (hn : ∀ d ∈ ds, NnD d) {s : StD} (h : runD gs ds = some s) : ∀ (k j : Nat) (t : StD), j + k = ds.length → runD gs (ds.take j) = some t → t.at_ ≤ s.at_
  | 0, j, t, hj, ht => by
    rw [List.take_of_length_le (by omega), h] at ht
    cases ht; exact Int.le_refl _
  | k + 1, j, t, hj, ht => by
    obtain ⟨d, hd⟩ : ∃ d, ds[j]? = some d := ⟨_, List.getElem?_eq_getElem (by omega)⟩
    obtain ⟨u, hu⟩ := runD_take h (j + 1)
    have h1 := runD_mono hn h k (j + 1) u (by omega) hu
    rw [runD_next hd ht] at hu
    have := (stepD_ok hu (hn d (List.mem_of_getElem? hd)) (runD_ok hn j t ht)).2
    omega
/-- public, secret bytes of parts; of globals -/
def kindP (k : Int) (l : List PartD) : Int := (l.map fun y => if y.kind = k then y.n else 0).sum
def kindG (k : Int) (gs : List GlobD) : Int := (gs.map fun g => kindP k g.parts).sum
theorem kindP_take {k : Int} {l : List PartD} {q : Nat} {y : PartD} (h : l[q]? = some y) : kindP k (l.take (q + 1)) = kindP k (l.take q) + if y.kind = k then y.n else 0 := by
  unfold kindP
  rw [take_moreD h, List.map_append, List.sum_append]
  simp
theorem kindG_take {k : Int} {gs : List GlobD} {i : Nat} {g : GlobD} (h : gs[i]? = some g) : kindG k (gs.take (i + 1)) = kindG k (gs.take i) + kindP k g.parts := by
  unfold kindG
  rw [take_moreD h, List.map_append, List.sum_append]
  simp
/-- where globals end -/
def endG (gs : List GlobD) : Int := gs.foldl (fun _ g => g.at_ + g.size) 0
theorem endG_take {gs : List GlobD} {i : Nat} {g : GlobD} (h : gs[i]? = some g) : endG (gs.take (i + 1)) = g.at_ + g.size := by
  unfold endG
  rw [take_moreD h, List.foldl_append]; rfl
def Ordered (gs : List GlobD) (n : Nat) : Prop := ∀ i g, i < n → gs[i]? = some g → endG (gs.take i) ≤ g.at_
/-- a part, and the item that is made of it -/
def PartOf (y : PartD) (d : DatD) : Prop :=
  (y.kind = 0 ∧ ((d.kind = 1 ∧ d.len = y.data.length ∧ d.n = 0) ∨ (d.kind = 5 ∧ d.n = y.data.length))) ∨ (y.kind = 1 ∧ d.kind = 2 ∧ d.n = 0) ∨ (y.kind = 2 ∧ d.kind = 3 ∧ d.n = y.n) ∨ (y.kind = 3 ∧ d.kind = 4 ∧ d.n = y.n)
theorem PartOf.step {gs : List GlobD} {y : PartD} {d : DatD} {nf left l2 : Int} (h : PartOf y d) (hs : stepP nf left y = some l2) (s : StD) : stepD gs s d = some ⟨s.at_ + (left - l2), s.next, s.pub + (if y.kind = 2 then y.n else 0), s.sec + (if y.kind = 3 then y.n else 0)⟩ ∧ NnD d ∧ l2 ≤ left ∧ 0 ≤ l2 := by
  obtain ⟨a, b, c, e⟩ := s
  unfold stepP at hs
  unfold stepD NnD
  rcases h with ⟨k0, ⟨h1, h2, h3⟩ | ⟨h1, h2⟩⟩ | ⟨k1, h1, h2⟩ | ⟨k2, h1, h2⟩ | ⟨k3, h1, h2⟩
  · rw [if_pos k0] at hs
    split at hs
    · cases hs
      simp [k0, h1, h2, h3]; omega
    · cases hs
  · rw [if_pos k0] at hs
    split at hs
    · cases hs
      simp [k0, h1, h2]; omega
    · cases hs
  · rw [if_neg (by omega), if_pos k1] at hs
    split at hs
    · cases hs
      simp [k1, h1, h2]; omega
    · cases hs
  · rw [if_neg (by omega), if_neg (by omega), if_pos (Or.inl k2)] at hs
    split at hs
    · cases hs
      simp [k2, h1, h2]; omega
    · cases hs
  · rw [if_neg (by omega), if_neg (by omega), if_pos (Or.inr k3)] at hs
    split at hs
    · cases hs
      simp [k3, h1, h2]; omega
    · cases hs
end Go.Proofs.YtdaildpfkchbhaaDoor
