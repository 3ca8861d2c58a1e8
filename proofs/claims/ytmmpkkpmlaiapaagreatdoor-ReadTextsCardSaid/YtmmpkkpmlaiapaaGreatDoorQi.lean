/- What a text is read as, plainly: line by line. Texts and their lines, plainly. A text that is read is the text of what it is read as, plainly. merlonref23.Lines: a text's lines. What stands ahead of a bad line begins a program, plainly. No condition. -/
import Derived.Test.YtmmpkkpmlaiapaaGreatDoorRpD
import Derived.Test.YtmmpkkpmlaiapaaGreatDoorQg
namespace Go.Proofs.YtmmpkkpmlaiapaaGreatDoor
open Go.RowKit
set_option linter.unusedVariables false
set_option linter.unusedSimpArgs false
open Classical in
noncomputable def lineF (s : List UInt8) : Option XInsD := if h : ∃ x, XIn x ∧ showX x = s ∧ s ≠ [] then some h.choose else none
theorem lineF_yes {s : List UInt8} {x : XInsD} {b : Bool} (h : LineP s x b) (hb : b = true) : lineF s = some x := by
  obtain ⟨h1, h2, h3⟩ := line_is h hb
  have hex : ∃ x, XIn x ∧ showX x = s ∧ s ≠ [] := ⟨x, h1, h2, h3⟩
  unfold lineF
  rw [dif_pos hex]
  obtain ⟨q1, q2, q3⟩ := hex.choose_spec
  rw [(line_back h _ q1 q2 q3).2]
theorem lineF_no {s : List UInt8} {x : XInsD} {b : Bool} (h : LineP s x b) (hb : b = false) : lineF s = none := by
  unfold lineF
  rw [dif_neg]
  rintro ⟨y, q1, q2, q3⟩
  have := (line_back h y q1 q2 q3).1
  rw [hb] at this
  cases this
theorem lineF_spec {s : List UInt8} {x : XInsD} (h : lineF s = some x) : XIn x ∧ showX x = s ∧ s ≠ [] := by
  unfold lineF at h
  split at h
  · rename_i hex
    cases h
    exact hex.choose_spec
  · cases h
structure PSt where
  part : Int
  ds : List XDatumD
  cs : List XItemD
def daL : List UInt8 := [9, 46, 100, 97, 116, 97]
def teL : List UInt8 := [9, 46, 116, 101, 120, 116]
noncomputable def stepP (st : PSt) (x : List UInt8) : Option PSt :=
  if st.part = 0 then (if x = daL then some { st with part := 1 } else none)
  else if x = teL ∧ st.part = 1 then some { st with part := 2 }
  else if Lib.hasSuffix x [58] = true ∧ namedB ⟨⟨Lib.trimSuffix x [58]⟩⟩ = true then
    (if st.part = 1 then some { st with ds := st.ds ++ [⟨0, ⟨⟨Lib.trimSuffix x [58]⟩⟩, [], 0⟩] } else some { st with cs := st.cs ++ [⟨⟨⟨Lib.trimSuffix x [58]⟩⟩, insZ⟩] })
  else if Lib.hasPrefix x [9] = false then none
  else if st.part = 1 then (match datumF (Lib.trimPrefix x [9]) with
    | some d => some { st with ds := st.ds ++ [d] }
    | none => none)
  else (match lineF (Lib.trimPrefix x [9]) with
    | some k => some { st with cs := st.cs ++ [⟨emB, k⟩] }
    | none => none)
noncomputable def runP (ls : List ByteArray) : Nat → Option PSt
  | 0 => some ⟨0, [], []⟩
  | j + 1 => match runP ls j, ls[j]? with
    | some st, some x => stepP st x.data.toList
    | _, _ => none
theorem runP_step {ls : List ByteArray} {j : Nat} {st : PSt} {x : ByteArray} (h : runP ls j = some st) (hx : ls[j]? = some x) : runP ls (j + 1) = stepP st x.data.toList := by
  show (match runP ls j, ls[j]? with | some st, some x => stepP st x.data.toList | _, _ => none) = _
  rw [h, hx]
def nlB : ByteArray := ⟨#[10]⟩
def linesB (s : ByteArray) : List ByteArray := piecesS nlB s
def emP : XProgD := ⟨[], []⟩
def ParP (s : ByteArray) (p : XProgD) (fk fa : Int) : Prop :=
  ∃ M : Nat, (linesB s).length = M + 1 ∧
    ((((linesB s)[M]? ≠ some ⟨⟨[]⟩⟩ ∨ M = 0) ∧ p = emP ∧ fk = 30 ∧ fa = (M : Int)) ∨
     ((linesB s)[M]? = some ⟨⟨[]⟩⟩ ∧ M ≠ 0 ∧
       ((∃ j st x, j < M ∧ runP (linesB s) j = some st ∧ (linesB s)[j]? = some x ∧ stepP st x.data.toList = none ∧ p = emP ∧ fk = 30 ∧ fa = (j : Int) + 1) ∨
        (∃ st, runP (linesB s) M = some st ∧ st.part ≠ 2 ∧ p = emP ∧ fk = 30 ∧ fa = (M : Int) + 1) ∨
        (∃ st, runP (linesB s) M = some st ∧ st.part = 2 ∧ p = ⟨st.ds, st.cs⟩ ∧ fk = 0 ∧ fa = 0))))
end Go.Proofs.YtmmpkkpmlaiapaaGreatDoor
namespace Go.Proofs.YtmmpkkpmlaiapaaGreatDoor
open Go.RowKit
set_option linter.unusedVariables false
def preL (L : List ByteArray) : List UInt8 := (L.map fun p => p.data.toList ++ [10]).flatten
theorem preL_nil : preL [] = [] := rfl
theorem preL_snoc (L : List ByteArray) (p : ByteArray) : preL (L ++ [p]) = preL L ++ (p.data.toList ++ [10]) := by simp [preL]
theorem preL_cons (L : List ByteArray) (p : ByteArray) : preL (p :: L) = p.data.toList ++ 10 :: preL L := by simp [preL]
def NoNl (p : ByteArray) : Prop := (10 : UInt8) ∉ p.data.toList
theorem lines_none {l : List UInt8} (h : (10 : UInt8) ∉ l) : linesB ⟨⟨l⟩⟩ = [⟨⟨l⟩⟩] := split_one (c := 10) (r := []) h
theorem lines_more {a b : List UInt8} (h : (10 : UInt8) ∉ a) : linesB ⟨⟨a ++ 10 :: b⟩⟩ = ⟨⟨a⟩⟩ :: linesB ⟨⟨b⟩⟩ := split_more (c := 10) (r := []) (b := b) h
theorem first_nl : ∀ (l : List UInt8), (10 : UInt8) ∉ l ∨ ∃ a b, l = a ++ 10 :: b ∧ (10 : UInt8) ∉ a
  | [] => Or.inl (by simp)
  | c :: l => by
    by_cases hc : c = 10
    · subst hc; exact Or.inr ⟨[], l, rfl, by simp⟩
    · rcases first_nl l with h | ⟨a, b, e, h⟩
      · exact Or.inl (by simp [Ne.symm hc, h])
      · exact Or.inr ⟨c :: a, b, by rw [e]; rfl, by simp [Ne.symm hc, h]⟩
theorem lines_of : ∀ (n : Nat) (l : List UInt8), l.length ≤ n → ∃ L last, linesB ⟨⟨l⟩⟩ = L ++ [last] ∧ l = preL L ++ last.data.toList ∧ (∀ p ∈ L, NoNl p) ∧ NoNl last := by
  intro n
  induction n with
  | zero =>
    intro l hl
    have : l = [] := List.length_eq_zero_iff.1 (by omega)
    subst this
    exact ⟨[], ⟨⟨[]⟩⟩, lines_none (by simp), rfl, (fun p hp => by cases hp), by unfold NoNl; simp⟩
  | succ n ih =>
    intro l hl
    rcases first_nl l with h | ⟨a, b, rfl, h⟩
    · exact ⟨[], ⟨⟨l⟩⟩, lines_none h, rfl, (fun p hp => by cases hp), h⟩
    · obtain ⟨L, last, h1, h2, h3, h4⟩ := ih b (by simp at hl; omega)
      refine ⟨⟨⟨a⟩⟩ :: L, last, by rw [lines_more h, h1]; rfl, ?_, ?_, h4⟩
      · rw [preL_cons, List.append_assoc, List.cons_append, ← h2]
      · intro p hp
        rcases List.mem_cons.1 hp with rfl | hp
        · exact h
        · exact h3 p hp
theorem lines_to {last : ByteArray} (hl : NoNl last) : ∀ (L : List ByteArray), (∀ p ∈ L, NoNl p) → linesB ⟨⟨preL L ++ last.data.toList⟩⟩ = L ++ [last]
  | [], _ => by rw [preL_nil, List.nil_append]; exact lines_none hl
  | p :: L, h => by
    have h1 := lines_to hl L (fun q hq => h q (List.mem_cons_of_mem _ hq))
    have h2 : NoNl p := h p List.mem_cons_self
    rw [preL_cons, List.append_assoc, List.cons_append, lines_more h2, h1]
    rfl
theorem runP_pre {L L' : List ByteArray} : ∀ (j : Nat), (∀ i, i < j → L[i]? = L'[i]?) → runP L j = runP L' j
  | 0, _ => rfl
  | j + 1, h => by
    have ih := runP_pre j (fun i hi => h i (by omega))
    show (match runP L j, L[j]? with | some st, some x => stepP st x.data.toList | _, _ => none) = _
    rw [ih, h j (by omega)]
    rfl
theorem runP_none {L : List ByteArray} {j : Nat} (h : runP L j = none) : runP L (j + 1) = none := by
  show (match runP L j, L[j]? with | some st, some x => stepP st x.data.toList | _, _ => none) = none
  rw [h]
theorem part_ok {L : List ByteArray} : ∀ (j : Nat) (st : PSt), runP L j = some st → (j = 0 ∧ st = ⟨0, [], []⟩) ∨ (0 < j ∧ ((st.part = 1 ∧ st.cs = [] ∧ ∀ i x, i < j → L[i]? = some x → x.data.toList ≠ teL) ∨ (st.part = 2 ∧ ∃ i x, i < j ∧ L[i]? = some x ∧ x.data.toList = teL)))
  | 0, st, h => by cases h; exact Or.inl ⟨rfl, rfl⟩
  | j + 1, st, h => by
    right
    refine ⟨by omega, ?_⟩
    have h0 : ∃ st0 x, runP L j = some st0 ∧ L[j]? = some x ∧ stepP st0 x.data.toList = some st := by
      change (match runP L j, L[j]? with | some st, some x => stepP st x.data.toList | _, _ => none) = _ at h
      split at h
      · rename_i st0 x e1 e2
        exact ⟨st0, x, e1, e2, h⟩
      · cases h
    obtain ⟨st0, x, e1, e2, e3⟩ := h0
    have hsplit : ∀ i y, i < j + 1 → L[i]? = some y → i < j ∨ y = x := fun i y hi hy => by
      by_cases e : i = j
      · subst e; rw [e2] at hy; cases hy; exact Or.inr rfl
      · exact Or.inl (by omega)
    unfold stepP at e3
    rcases part_ok j st0 e1 with ⟨rfl, rfl⟩ | ⟨hj, ⟨p1, p2, p3⟩ | ⟨p1, p2⟩⟩
    · rw [if_pos rfl] at e3
      split at e3
      · rename_i hx
        cases e3
        refine Or.inl ⟨rfl, rfl, fun i y hi hy => ?_⟩
        rcases hsplit i y hi hy with h | h
        · omega
        · subst h; rw [hx]; decide
      · cases e3
    · rw [if_neg (by rw [p1]; decide)] at e3
      by_cases hx : x.data.toList = teL
      · rw [if_pos ⟨hx, p1⟩] at e3
        cases e3
        exact Or.inr ⟨rfl, j, x, by omega, e2, hx⟩
      · rw [if_neg (fun h => hx h.1)] at e3
        have hno : ∀ i y, i < j + 1 → L[i]? = some y → y.data.toList ≠ teL := fun i y hi hy => by
          rcases hsplit i y hi hy with h | h
          · exact p3 i y h hy
          · subst h; exact hx
        left
        split at e3
        · try rw [if_pos p1] at e3
          cases e3
          exact ⟨p1, p2, hno⟩
        · split at e3
          · cases e3
          · try rw [if_pos p1] at e3
            split at e3
            · cases e3; exact ⟨p1, p2, hno⟩
            · cases e3
    · right
      obtain ⟨i, y, hi, hy, ht⟩ := p2
      refine ⟨?_, i, y, by omega, hy, ht⟩
      rw [if_neg (by rw [p1]; decide), if_neg (fun h => by rw [p1] at h; exact absurd h.2 (by decide))] at e3
      split at e3
      · rw [if_neg (by rw [p1]; decide)] at e3
        cases e3; exact p1
      · split at e3
        · cases e3
        · rw [if_neg (by rw [p1]; decide)] at e3
          split at e3
          · cases e3; exact p1
          · cases e3
theorem parP_ok {s : ByteArray} {L : List ByteArray} {st : PSt} {p : XProgD} {fk fa : Int} (hL : linesB s = L ++ [⟨⟨[]⟩⟩]) (h0 : L ≠ []) (hr : runP (L ++ [⟨⟨[]⟩⟩]) L.length = some st) (hp : st.part = 2) (h : ParP s p fk fa) : fk = 0 := by
  obtain ⟨M, hM, h⟩ := h
  rw [hL] at hM h
  obtain rfl : M = L.length := by simp at hM; omega
  have hlast : (L ++ [(⟨⟨[]⟩⟩ : ByteArray)])[L.length]? = some ⟨⟨[]⟩⟩ := by simp
  rcases h with ⟨h1 | h1, _⟩ | ⟨_, _, ⟨j, st', x, h1, h2, h3, h4, _⟩ | ⟨st', h1, h2, _⟩ | ⟨st', _, _, _, h, _⟩⟩
  · exact absurd hlast h1
  · exact absurd (List.length_eq_zero_iff.1 h1) h0
  · -- a bad line ahead of the end
    exfalso
    have : ∀ k, j + 1 + k ≤ L.length → runP (L ++ [⟨⟨[]⟩⟩]) (j + 1 + k) = none := by
      intro k
      induction k with
      | zero => intro _; exact (runP_step h2 h3).trans h4
      | succ k ih =>
        intro hk
        exact runP_none (ih (by omega))
    have h5 := this (L.length - (j + 1)) (by omega)
    rw [show j + 1 + (L.length - (j + 1)) = L.length by omega, hr] at h5
    cases h5
  · rw [hr] at h1; cases h1; exact absurd hp h2
  · exact h
theorem parP_bad {s : ByteArray} {L : List ByteArray} {st : PSt} {x : ByteArray} {j : Nat} {p : XProgD} {fk fa : Int} (hL : linesB s = L ++ [⟨⟨[]⟩⟩]) (hj : j < L.length) (hr : runP (L ++ [⟨⟨[]⟩⟩]) j = some st) (hx : (L ++ [(⟨⟨[]⟩⟩ : ByteArray)])[j]? = some x) (hs : stepP st x.data.toList = none) (h : ParP s p fk fa) : fk = 30 ∧ fa = (j : Int) + 1 := by
  obtain ⟨M, hM, h⟩ := h
  rw [hL] at hM h
  obtain rfl : M = L.length := by simp at hM; omega
  have hlast : (L ++ [(⟨⟨[]⟩⟩ : ByteArray)])[L.length]? = some ⟨⟨[]⟩⟩ := by simp
  have hnone : ∀ k, runP (L ++ [⟨⟨[]⟩⟩]) (j + 1 + k) = none := by
    intro k
    induction k with
    | zero => exact (runP_step hr hx).trans hs
    | succ k ih =>
      exact runP_none ih
  have hend : runP (L ++ [⟨⟨[]⟩⟩]) L.length = none := by
    have := hnone (L.length - (j + 1))
    rwa [show j + 1 + (L.length - (j + 1)) = L.length by omega] at this
  rcases h with ⟨h1 | h1, _⟩ | ⟨_, _, ⟨j', st', x', h1, h2, h3, h4, _, h5, h6⟩ | ⟨st', h1, _⟩ | ⟨st', h1, _⟩⟩
  · exact absurd hlast h1
  · omega
  · have : j' = j := by
      rcases Nat.lt_trichotomy j' j with hlt | heq | hgt
      · exfalso
        have hn : ∀ k, j' + 1 + k ≤ L.length → runP (L ++ [⟨⟨[]⟩⟩]) (j' + 1 + k) = none := by
          intro k
          induction k with
          | zero => intro _; exact (runP_step h2 h3).trans h4
          | succ k ih =>
            intro hk
            exact runP_none (ih (by omega))
        have := hn (j - (j' + 1)) (by omega)
        rw [show j' + 1 + (j - (j' + 1)) = j by omega, hr] at this
        cases this
      · exact heq
      · exfalso
        have := hnone (j' - (j + 1))
        rw [show j + 1 + (j' - (j + 1)) = j' by omega, h2] at this
        cases this
    subst this
    exact ⟨h5, h6⟩
  · rw [hend] at h1; cases h1
  · rw [hend] at h1; cases h1
end Go.Proofs.YtmmpkkpmlaiapaaGreatDoor
namespace Go.Proofs.YtmmpkkpmlaiapaaGreatDoor
open Go.RowKit
set_option linter.unusedVariables false
set_option linter.unusedSimpArgs false
theorem cut_back {l W r : List UInt8} {b : Bool} {c : UInt8} (h : Lib.cut l [c] = (W, r, b)) (hr : r ≠ [] ∨ b = true) : l = W ++ c :: r := by
  by_cases hc : c ∈ l
  · obtain ⟨a, d, e, ha⟩ : ∃ a d, l = a ++ c :: d ∧ c ∉ a := by
      clear h hr
      induction l with
      | nil => cases hc
      | cons x l ih =>
        by_cases hx : x = c
        · subst hx; exact ⟨[], l, rfl, by simp⟩
        · have : c ∈ l := by
            rcases List.mem_cons.1 hc with e | e
            · exact absurd e.symm hx
            · exact e
          obtain ⟨a, d, e, ha⟩ := ih this
          exact ⟨x :: a, d, by rw [e]; rfl, by simp [Ne.symm hx, ha]⟩
    rw [e, cut_app d ha] at h
    cases h
    exact e
  · rw [cut_none hc] at h
    cases h
    rcases hr with h | h
    · exact absurd rfl h
    · cases h
theorem numF_back {s : List UInt8} {v : Int} (h : numF s = some v) : Lib.itoa v = s ∧ In64 v := by
  unfold numF at h
  split at h
  · rename_i u hu
    split at h
    · rename_i he
      cases h
      exact ⟨he, parse_in hu⟩
    · cases h
  · cases h
theorem byteF_back {p : List UInt8} {v : Int} (h : byteF p = some v) : Lib.itoa v = p ∧ 0 ≤ v ∧ v ≤ 255 := by
  unfold byteF at h
  split at h
  · rename_i u hu
    split at h
    · rename_i hv
      cases h
      exact ⟨(numF_back hu).1, hv⟩
    · cases h
  · cases h
theorem pieces_join : ∀ (n : Nat) (l : List UInt8), l.length ≤ n → Lib.join ((piecesS cmB ⟨⟨l⟩⟩).map (·.data.toList)) [44] = l := by
  intro n
  induction n with
  | zero =>
    intro l hl
    have : l = [] := List.length_eq_zero_iff.1 (by omega)
    subst this
    rw [show piecesS cmB ⟨⟨[]⟩⟩ = [⟨⟨[]⟩⟩] from split_one (c := 44) (r := []) (by simp)]
    rfl
  | succ n ih =>
    intro l hl
    by_cases hc : (44 : UInt8) ∈ l
    · obtain ⟨a, b, rfl, ha⟩ : ∃ a b, l = a ++ 44 :: b ∧ (44 : UInt8) ∉ a := by
        clear ih hl
        induction l with
        | nil => cases hc
        | cons x l ih =>
          by_cases hx : x = 44
          · subst hx; exact ⟨[], l, rfl, by simp⟩
          · have : (44 : UInt8) ∈ l := by
              rcases List.mem_cons.1 hc with e | e
              · exact absurd e.symm hx
              · exact e
            obtain ⟨a, d, e, ha⟩ := ih this
            exact ⟨x :: a, d, by rw [e]; rfl, by simp [Ne.symm hx, ha]⟩
      have h1 := ih b (by simp at hl; omega)
      rw [show piecesS cmB ⟨⟨a ++ 44 :: b⟩⟩ = ⟨⟨a⟩⟩ :: piecesS cmB ⟨⟨b⟩⟩ from split_more (c := 44) (r := []) (b := b) ha]
      have hne : (piecesS cmB ⟨⟨b⟩⟩).map (·.data.toList) ≠ [] := by
        have := piecesS_len (sep := cmB) (by decide) ⟨⟨b⟩⟩
        intro e
        rw [List.map_eq_nil_iff] at e
        rw [e] at this
        simp at this
      cases hp : (piecesS cmB ⟨⟨b⟩⟩).map (·.data.toList) with
      | nil => exact absurd hp hne
      | cons y ys =>
        rw [hp] at h1
        rw [List.map_cons, hp, show Lib.join (a :: y :: ys) [44] = a ++ [44] ++ Lib.join (y :: ys) [44] by simp [Lib.join, List.intercalate], h1]
        simp
    · rw [show piecesS cmB ⟨⟨l⟩⟩ = [⟨⟨l⟩⟩] from split_one (c := 44) (r := []) hc]
      simp [Lib.join, List.intercalate]
structure DGood (d : XDatumD) : Prop where
  k64 : In64 d.kind
  n64 : In64 d.n
  name : d.name.size ≤ 60
  bytes : Bytes255 d.data
  none_ : d.kind ≠ 1 → d.data = []
theorem bsF_itoa {ps : List ByteArray} (h : okB ps ps.length) : (bsF ps ps.length).map Lib.itoa = ps.map (·.data.toList) ∧ Bytes255 (bsF ps ps.length) := by
  have hb : ∀ p ∈ ps, ∃ v, byteF p.data.toList = some v := fun p hp => by
    obtain ⟨i, hi, rfl⟩ := List.mem_iff_getElem.1 hp
    exact Option.isSome_iff_exists.1 (h i ps[i] hi (List.getElem?_eq_getElem hi))
  unfold bsF
  rw [List.take_length]
  constructor
  · rw [List.map_map]
    refine List.map_congr_left fun p hp => ?_
    obtain ⟨v, hv⟩ := hb p hp
    show Lib.itoa ((byteF p.data.toList).getD 0) = _
    rw [hv]
    exact (byteF_back hv).1
  · intro i x hx
    rw [List.getElem?_map] at hx
    cases hp : ps[i]? with
    | none => rw [hp] at hx; cases hx
    | some p =>
      rw [hp] at hx
      cases hx
      obtain ⟨v, hv⟩ := hb p (List.mem_of_getElem? hp)
      show 0 ≤ (byteF p.data.toList).getD 0 ∧ (byteF p.data.toList).getD 0 ≤ 255
      rw [hv]
      exact (byteF_back hv).2
theorem numD_back {k : Int} {r : List UInt8} {d : XDatumD} (hk : In64 k) (h : numD k r = some d) : d = ⟨k, emB, [], d.n⟩ ∧ Lib.itoa d.n = r ∧ DGood d := by
  unfold numD at h
  split at h
  · rename_i v hv
    split at h
    · cases h
      exact ⟨rfl, (numF_back hv).1, hk, (numF_back hv).2, (show emB.size ≤ 60 by decide), (fun i x hx => by simp at hx), fun _ => rfl⟩
    · cases h
  · cases h
theorem itoa_ne (n : Int) : Lib.itoa n ≠ [] := itoa_full n
theorem datum_back {b : List UInt8} {d : XDatumD} (h : datumF b = some d) : datL d = 9 :: b ∧ DGood d := by
  obtain ⟨W, r, q, hcut⟩ : ∃ W r q, Lib.cut b [32] = (W, r, q) := ⟨_, _, _, rfl⟩
  unfold datumF at h
  rw [hcut] at h
  simp only at h
  split at h
  · rename_i hW
    cases hb : bytesF (piecesS cmB ⟨⟨r⟩⟩) with
    | none => rw [hb] at h; cases h
    | some bs =>
      rw [hb] at h
      cases h
      unfold bytesF at hb
      split at hb
      · rename_i hok
        cases hb
        obtain ⟨h1, h2⟩ := bsF_itoa hok
        have hj := pieces_join r.length r (Nat.le_refl _)
        have hne : r ≠ [] := by
          rintro rfl
          rw [show piecesS cmB ⟨⟨[]⟩⟩ = [⟨⟨[]⟩⟩] from split_one (c := 44) (r := []) (by simp)] at hok
          have := hok 0 ⟨⟨[]⟩⟩ (by decide) rfl
          rw [show byteF [] = none by kernel_rfl] at this
          cases this
        refine ⟨?_, (show In64 1 from in64_small (by decide)), (show In64 0 from in64_small (by decide)), (show emB.size ≤ 60 by decide), h2, fun h => absurd rfl h⟩
        have e := cut_back hcut (Or.inl hne)
        rw [e, hW]
        show [9, 46, 98, 121, 116, 101, 32] ++ byteLs _ = _
        unfold byteLs
        rw [h1, hj]
        rfl
      · cases hb
  · split at h
    · rename_i hW
      split at h
      · rename_i hn
        cases h
        refine ⟨?_, (show In64 2 from in64_small (by decide)), (show In64 0 from in64_small (by decide)), named_le hn, (fun i x hx => by simp at hx), fun _ => rfl⟩
        have e := cut_back hcut (Or.inl (named_chars hn).1)
        rw [e, hW]
        rfl
      · cases h
    · split at h
      · rename_i j hj
        have hj3 : j < 3 := by
          obtain ⟨i, hi, hg⟩ := firstF_some hj
          unfold pubG at hg
          split at hg
          · cases hg; exact hi
          · cases hg
        obtain ⟨h1, h2, h3⟩ := numD_back (in64_small (by omega)) h
        refine ⟨?_, h3⟩
        have e := cut_back hcut (Or.inl (by rw [← h2]; exact itoa_ne _))
        obtain ⟨i, hi, hg⟩ := firstF_some hj
        unfold pubG at hg
        split at hg
        · rename_i hp
          cases hg
          rw [e, ← h2, h1, ← hp]
          have : j = 0 ∨ j = 1 ∨ j = 2 := by omega
          rcases this with rfl | rfl | rfl <;> rfl
        · cases hg
      · cases h
def CGood (c : XItemD) : Prop := c.label.size ≤ 60 ∧ XIn c.ins ∧ (c.label.size = 0 → c.ins.to_.size ≤ 60)
theorem suf_back {x : List UInt8} (h : Lib.hasSuffix x [58] = true) : x = Lib.trimSuffix x [58] ++ [58] := by
  have h0 := h
  unfold Lib.hasSuffix at h
  rw [List.isSuffixOf_iff_suffix] at h
  obtain ⟨t, rfl⟩ := h
  rw [(suf_app t [58]).2]
theorem pre_back {x : List UInt8} (h : ¬ Lib.hasPrefix x [9] = false) : x = 9 :: Lib.trimPrefix x [9] := by
  have h1 : Lib.hasPrefix x [9] = true := by cases hh : Lib.hasPrefix x [9] with | true => rfl | false => exact absurd hh h
  have h0 := h1
  unfold Lib.hasPrefix at h1
  rw [List.isPrefixOf_iff_prefix] at h1
  obtain ⟨t, rfl⟩ := h1
  show [9] ++ t = 9 :: Lib.trimPrefix (9 :: t) [9]
  rw [(pre_same 9 t).2]
  rfl
theorem line_to {b : List UInt8} {k : XInsD} (h : lineF b = some k) : showX k = b ∧ XIn k ∧ k.to_.size ≤ 60 := by
  obtain ⟨h1, h2, h3⟩ := lineF_spec h
  refine ⟨h2, h1, ?_⟩
  unfold showX showB at h2
  split at h2
  · rename_i hg
    by_cases hj : jumpI k.op = true
    · exact named_le (hg.2 hj)
    · have := rq_emp hg.1 (fun h => hj (by unfold jumpI; exact decide_eq_true h))
      show k.to_.data.toList.length ≤ 60
      rw [this]; decide
  · exact absurd h2.symm h3
def TextOk (st : PSt) (t : List UInt8) : Prop := (st.part = 1 ∧ st.cs = [] ∧ datT st.ds = t) ∨ (st.part = 2 ∧ codT st.ds st.cs = t)
theorem run_text {L : List ByteArray} : ∀ (j : Nat) (st : PSt), 0 < j → runP L j = some st → TextOk st (preL (L.take j)) ∧ (∀ d ∈ st.ds, DGood d) ∧ (∀ c ∈ st.cs, CGood c) ∧ st.ds.length + st.cs.length ≤ j
  | 0, st, h, _ => absurd h (by decide)
  | j + 1, st, _, h => by
    have h0 : ∃ st0 x, runP L j = some st0 ∧ L[j]? = some x ∧ stepP st0 x.data.toList = some st := by
      change (match runP L j, L[j]? with | some st, some x => stepP st x.data.toList | _, _ => none) = _ at h
      split at h
      · rename_i st0 x e1 e2
        exact ⟨st0, x, e1, e2, h⟩
      · cases h
    obtain ⟨st0, x, e1, e2, e3⟩ := h0
    rw [take_more e2, preL_snoc]
    unfold stepP at e3
    rcases part_ok j st0 e1 with ⟨rfl, rfl⟩ | ⟨hj, hp⟩
    · rw [if_pos rfl] at e3
      split at e3
      · rename_i hx
        cases e3
        refine ⟨Or.inl ⟨rfl, rfl, ?_⟩, (fun d hd => by cases hd), (fun c hc => by cases hc), by simp⟩
        rw [hx]; rfl
      · cases e3
    · obtain ⟨ht, hd, hc, hl⟩ := run_text j st0 hj e1
      rcases hp with ⟨p1, p2, _⟩ | ⟨p1, _⟩
      · have hT : datT st0.ds = preL (L.take j) := by
          rcases ht with ⟨_, _, h⟩ | ⟨h, _⟩
          · exact h
          · rw [p1] at h; exact absurd h (by decide)
        rw [if_neg (by rw [p1]; decide)] at e3
        by_cases hx : x.data.toList = teL
        · rw [if_pos ⟨hx, p1⟩] at e3
          cases e3
          refine ⟨Or.inr ⟨rfl, ?_⟩, hd, hc, by simp only; omega⟩
          rw [p2, codT_nil, hT, hx]
          rfl
        · rw [if_neg (fun h => hx h.1)] at e3
          split at e3
          · rename_i hs
            try rw [if_pos p1] at e3
            cases e3
            refine ⟨Or.inl ⟨p1, p2, ?_⟩, fun d hd' => ?_, hc, by simp; omega⟩
            · rw [datT_snoc, hT]
              congr 1
              rw [show datL ⟨0, ⟨⟨Lib.trimSuffix x.data.toList [58]⟩⟩, [], 0⟩ = Lib.trimSuffix x.data.toList [58] ++ [58] from rfl, ← suf_back hs.1]
            · rcases List.mem_append.1 hd' with h | h
              · exact hd d h
              · rw [List.mem_singleton.1 h]
                exact ⟨(show In64 0 from in64_small (by decide)), (show In64 0 from in64_small (by decide)), named_le hs.2, (fun i x hx => by simp at hx), fun _ => rfl⟩
          · split at e3
            · cases e3
            · rename_i hpx
              try rw [if_pos p1] at e3
              split at e3
              · rename_i d hdF
                cases e3
                obtain ⟨q1, q2⟩ := datum_back hdF
                refine ⟨Or.inl ⟨p1, p2, ?_⟩, fun d' hd' => ?_, hc, by simp; omega⟩
                · rw [datT_snoc, hT, q1, ← pre_back hpx]
                · rcases List.mem_append.1 hd' with h | h
                  · exact hd d' h
                  · rw [List.mem_singleton.1 h]; exact q2
              · cases e3
      · have hT : codT st0.ds st0.cs = preL (L.take j) := by
          rcases ht with ⟨h, _⟩ | ⟨_, h⟩
          · rw [p1] at h; exact absurd h (by decide)
          · exact h
        rw [if_neg (by rw [p1]; decide), if_neg (fun h => by rw [p1] at h; exact absurd h.2 (by decide))] at e3
        split at e3
        · rename_i hs
          rw [if_neg (by rw [p1]; decide)] at e3
          cases e3
          refine ⟨Or.inr ⟨p1, ?_⟩, hd, fun c hc' => ?_, by simp; omega⟩
          · rw [codT_snoc, hT]
            congr 1
            unfold codeL
            have hne : ¬ (⟨⟨Lib.trimSuffix x.data.toList [58]⟩⟩ : ByteArray).size = 0 := by
              have := (named_chars hs.2).1
              intro e
              exact this (List.length_eq_zero_iff.1 e)
            rw [if_neg hne]
            show Lib.trimSuffix x.data.toList [58] ++ [58, 10] = _
            conv => rhs; rw [suf_back hs.1]
            simp
          · rcases List.mem_append.1 hc' with h | h
            · exact hc c h
            · rw [List.mem_singleton.1 h]
              exact ⟨named_le hs.2, insZ_in, fun _ => (show insZ.to_.size ≤ 60 by decide)⟩
        · split at e3
          · cases e3
          · rename_i hpx
            rw [if_neg (by rw [p1]; decide)] at e3
            split at e3
            · rename_i k hk
              cases e3
              obtain ⟨q1, q2, q3⟩ := line_to hk
              refine ⟨Or.inr ⟨p1, ?_⟩, hd, fun c hc' => ?_, by simp; omega⟩
              · rw [codT_snoc, hT]
                congr 1
                unfold codeL
                rw [if_pos (show emB.size = 0 by decide)]
                have : insL k = Lib.trimPrefix x.data.toList [9] := q1
                show [9] ++ insL k ++ [10] = _
                rw [this]
                conv => rhs; rw [pre_back hpx]
                simp
              · rcases List.mem_append.1 hc' with h | h
                · exact hc c h
                · rw [List.mem_singleton.1 h]
                  exact ⟨(show emB.size ≤ 60 by decide), q2, fun _ => q3⟩
            · cases e3
theorem byteLs_ge (l : List Int) : l.length ≤ (byteLs l).length := by
  have key : ∀ (m : List (List UInt8)), (∀ a ∈ m, a ≠ []) → m.length ≤ (Lib.join m [44]).length := by
    intro m
    induction m with
    | nil => intro _; simp
    | cons a m ih =>
      intro h
      have ha : 1 ≤ a.length := by
        have := h a List.mem_cons_self
        cases a with
        | nil => exact absurd rfl this
        | cons c r => simp
      cases m with
      | nil => simp [Lib.join, List.intercalate]; omega
      | cons b m =>
        have h2 := ih (fun c hc => h c (List.mem_cons_of_mem _ hc))
        rw [show Lib.join (a :: b :: m) [44] = a ++ [44] ++ Lib.join (b :: m) [44] by simp [Lib.join, List.intercalate]]
        simp only [List.length_append, List.length_cons, List.length_nil] at h2 ⊢
        omega
  have := key (l.map Lib.itoa) (fun a ha => by
    obtain ⟨v, _, rfl⟩ := List.mem_map.1 ha
    exact itoa_full v)
  simpa [byteLs] using this
theorem sumD_flat : ∀ (l : List XDatumD), (∀ d ∈ l, DGood d) → sumD l ≤ ((l.map fun d => datL d ++ [10]).flatten).length
  | [], _ => by simp [sumD]
  | d :: l, h => by
    have h1 := sumD_flat l (fun e he => h e (List.mem_cons_of_mem _ he))
    have hd := h d List.mem_cons_self
    have h2 : d.data.length ≤ (datL d).length := by
      by_cases hk : d.kind = 1
      · unfold datL
        rw [if_neg (by omega), if_pos hk]
        have := byteLs_ge d.data
        simp only [List.length_append]
        omega
      · rw [hd.none_ hk]; simp
    have h3 : sumD (d :: l) = d.data.length + sumD l := by simp [sumD]
    rw [h3, List.map_cons, List.flatten_cons]
    simp only [List.length_append, List.length_cons, List.length_nil]
    omega
theorem sumD_text (l : List XDatumD) (h : ∀ d ∈ l, DGood d) : sumD l + 7 ≤ (datT l).length := by
  have := sumD_flat l h
  unfold datT
  simp only [List.length_append, List.length_cons, List.length_nil]
  omega
theorem good_prog {L : List ByteArray} {j : Nat} {st : PSt} (hj : 0 < j) (h : runP L j = some st) (h2 : st.part = 2) (hl : (preL (L.take j)).length ≤ 20000) (hn : j ≤ 20000) : DatOk st.ds ∧ CodOk st.cs ∧ codT st.ds st.cs = preL (L.take j) := by
  obtain ⟨ht, hd, hc, hlen⟩ := run_text j st hj h
  have hT : codT st.ds st.cs = preL (L.take j) := by
    rcases ht with ⟨h, _⟩ | ⟨_, h⟩
    · rw [h2] at h; exact absurd h (by decide)
    · exact h
  have hs := sumD_text st.ds hd
  have hle : (datT st.ds).length ≤ (codT st.ds st.cs).length := by unfold codT; simp only [List.length_append]; omega
  rw [hT] at hle
  refine ⟨⟨fun i d hi => ?_, by omega, by omega⟩, ⟨fun i c hi => ?_, by omega⟩, hT⟩
  · have := hd d (List.mem_of_getElem? hi)
    exact ⟨this.n64, by have := this.name; omega, this.bytes⟩
  · obtain ⟨q1, q2, q3⟩ := hc c (List.mem_of_getElem? hi)
    exact ⟨by omega, fun e => by have := q3 e; omega, q2.2.2.2.1⟩
end Go.Proofs.YtmmpkkpmlaiapaaGreatDoor
namespace Go.Proofs.YtmmpkkpmlaiapaaGreatDoor
open Go.RowKit
set_option linter.unusedVariables false
set_option maxHeartbeats 4000000
set_option maxRecDepth 100000
def RowT (w : World) (B : Nat) (v : Value) (xs : List ByteArray) : Prop := w.ownsRow B 9 1 v xs.length (xs.map Value.string)
theorem RowT.slice {w : World} {B : Nat} {v : Value} {xs : List ByteArray} (h : RowT w B v xs) : ∃ A cap, v = .slice A xs.length cap := let ⟨A, cap, e, _⟩ := own_slice h; ⟨A, cap, e⟩
theorem RowT.push {w : World} {B : Nat} {v : Value} {xs : List ByteArray} (h : RowT w B v xs) (hB : B ≤ w.heap.size) (x : ByteArray) (g : Nat) (hg : g = w.heap.size) (hl : xs.length ≤ 10000000) :
    ∃ v' w', (Builtin.append_ #[43, 43] 43 #[v, .slice (some ⟨g, 0, none⟩) 1 1]).run Tryz.prog (w.alloc (.cells #[.string x] 9)) = .ok v' w' ∧ RowT w' B v' (xs ++ [x]) ∧ Below B w w' ∧ KpT 9 w w' := by
  obtain ⟨i0, z0, q1, q2, q3, q4, q5⟩ := info_partsK (C := 1) (B := 16) (show (Tryz.prog.info? 9).map (fun i => (i.zero.map (·.cells.size), i.size, i.bytes)) = some (some 1, 1, 16) by kernel_rfl)
  obtain ⟨v', w', r1, r2, r3, r4⟩ := append_oneC (P := Tryz.prog) B 43 9 i0 z0 1 16 Tryz.underlying43 q1 q2 q4 q5 q3 (by decide) v xs.length _ h #[.string x] rfl g hg (fun u hu => by
    simp only [List.mem_cons, List.not_mem_nil, or_false] at hu
    subst hu; rfl) (by unfold maxLen; omega) (by omega) hB
  refine ⟨v', w', r1, ?_, below_of_grown (Below.refl _ _) hB r3 (fun k hk => ?_), kpT_grown h r3⟩
  · unfold RowT
    rw [List.length_append, List.map_append]
    simpa using r2
  · rcases h.2 with ⟨rfl, e2⟩ | ⟨g', cap, cur, rfl, k1, k2, _⟩
    · simp [Value.ownBlock] at hk
    · simp only [Value.ownBlock, Option.some.injEq] at hk
      omega
structure LnAt (l : List UInt8) (k f : Nat) (L : List ByteArray) : Prop where
  fk : f ≤ k
  txt : l.take k = preL L ++ (l.take k).drop f
  len : (preL L).length = f
  no : ∀ p ∈ L, NoNl p
  tail : (10 : UInt8) ∉ (l.take k).drop f
theorem LnAt.zero (l : List UInt8) : LnAt l 0 0 [] := ⟨Nat.le_refl _, by simp [preL], rfl, (fun p hp => by cases hp), by simp⟩
theorem LnAt.same {l : List UInt8} {k f : Nat} {L : List ByteArray} {c : UInt8} (h : LnAt l k f L) (hc : l[k]? = some c) (hn : c ≠ 10) : LnAt l (k + 1) f L := by
  have hk : k < l.length := (List.getElem?_eq_some_iff.1 hc).1
  have hd : (l.take (k + 1)).drop f = (l.take k).drop f ++ [c] := by
    rw [take_more hc, List.drop_append_of_le_length (by rw [List.length_take]; have := h.fk; omega)]
  refine ⟨Nat.le_trans h.fk (Nat.le_succ _), ?_, h.len, h.no, ?_⟩
  · rw [hd, take_more hc, ← List.append_assoc, ← h.txt]
  · rw [hd]
    simp only [List.mem_append, List.mem_singleton, not_or]
    exact ⟨h.tail, Ne.symm hn⟩
theorem LnAt.next {l : List UInt8} {k f : Nat} {L : List ByteArray} (h : LnAt l k f L) (hc : l[k]? = some 10) : LnAt l (k + 1) (k + 1) (L ++ [⟨⟨(l.take k).drop f⟩⟩]) := by
  have hk : k < l.length := (List.getElem?_eq_some_iff.1 hc).1
  have e : preL (L ++ [⟨⟨(l.take k).drop f⟩⟩]) = l.take (k + 1) := by
    rw [preL_snoc, ← List.append_assoc, ← h.txt, take_more hc]
  refine ⟨Nat.le_refl _, ?_, ?_, fun p hp => ?_, ?_⟩
  · rw [e]; simp
  · rw [e, List.length_take]; omega
  · rcases List.mem_append.1 hp with hp | hp
    · exact h.no p hp
    · rw [List.mem_singleton.1 hp]; exact h.tail
  · simp
theorem LnAt.done {s : ByteArray} {f : Nat} {L : List ByteArray} (h : LnAt s.data.toList s.size f L) : linesB s = L ++ [⟨⟨s.data.toList.drop f⟩⟩] := by
  have hl : s.data.toList.length = s.size := rfl
  have ht : s.data.toList.take s.size = s.data.toList := by rw [← hl]; exact List.take_length
  have h1 := h.txt
  have h2 := h.tail
  rw [ht] at h1 h2
  have := lines_to (last := ⟨⟨s.data.toList.drop f⟩⟩) h2 L h.no
  rw [← this]
  congr 1
  show s = ⟨⟨preL L ++ s.data.toList.drop f⟩⟩
  rw [← h1]
def LnsO (s : ByteArray) (w : World) (e : Ending) (w' : World) : Prop := ∃ (v : Value) (L : List ByteArray) (last : ByteArray), e = .returned (.tuple #[v, .bool (decide (last.data.toList = [] ∧ s.size ≠ 0))]) ∧ linesB s = L ++ [last] ∧ s.data.toList = preL L ++ last.data.toList ∧ (∀ p ∈ L, NoNl p) ∧ RowT w' w.heap.size v L ∧ Below w.heap.size w w'
theorem lines_any (w : World) (s : ByteArray) (hs : s.size ≤ 900000) : Calls Tryz.prog 14 #[.string s] w (LnsO s w) := by
  go_enter Tryz.func14, Tryz.ntmps14
  go_wp2_with fail
  go_loopw [4, 5, 6] (fun v f i wr => ∃ (k fr : Nat) (L : List ByteArray), k ≤ s.size ∧ i = .int .i64 (k : Nat) ∧ f = .int .i64 (fr : Nat) ∧ LnAt s.data.toList k fr L ∧ L.length ≤ k ∧ RowT wr w.heap.size v L ∧ Below w.heap.size w wr) (fun _ _ i _ => s.size - (intOf i).toNat)
  case atStart => exact ⟨0, 0, [], by omega, rfl, rfl, LnAt.zero _, by simp, World.ownsRow_nil _ _ _ _, Below.refl _ _⟩
  case round =>
    rename World => wr
    obtain ⟨k, fr, L, hk, rfl, rfl, hat, hL, hrow, hb⟩ := hrel
    have HAT := Lib.hid hat
    have HLL := Lib.hid hL
    have HROW := Lib.hid hrow
    have HB := Lib.hid hb
    have hfk := hat.fk
    clear hat hL hrow hb
    obtain ⟨A, c, hv⟩ := RowT.slice HROW.out
    obtain ⟨nv, hnv⟩ : ∃ z, z = L.length := ⟨_, rfl⟩
    rw [← hnv] at hv
    have HNV := Lib.hid hnv
    clear hnv
    subst hv
    by_cases hlt : k < s.size
    · obtain ⟨n, hn⟩ : ∃ n, n = (s[k]'hlt).toNat := ⟨_, rfl⟩
      have HGK := Lib.hid (show s.data.toList[k]? = some (s[k]'hlt) by
        rw [List.getElem?_eq_getElem (show k < s.data.toList.length from hlt)]; rfl)
      have hix : ∀ w, (Instr.index 9 (.string s) (.int .i64 (k : Int))).run Tryz.prog w = .ok (.int .u8 (n : Int)) w := fun w => by
        rw [run_index_string (h := Tryz.underlying9), dif_pos (show 0 ≤ (k : Int) ∧ (k : Int) < s.size by omega), hn]
        simp only [Int.toNat_natCast]
      have HLT := Lib.hid hlt
      by_cases h10 : n = 10
      · have d10 : ((n : Int) == 10) = true := by rw [h10]; rfl
        have HC := Lib.hid (show s.data.toList[k]? = some 10 by
          rw [HGK.out]
          congr 1
          exact UInt8.toNat_inj.1 (by rw [← hn, h10]; rfl))
        obtain ⟨p, hp⟩ : ∃ p : ByteArray, p = s.extract fr k := ⟨_, rfl⟩
        have HPE := Lib.hid (show (⟨⟨(s.data.toList.take k).drop fr⟩⟩ : ByteArray) = p by
          rw [hp]
          exact (extract_list s.data.toList fr k).symm)
        obtain ⟨v2, w6, hr, hri, hb6, hk6⟩ := RowT.push HROW.out HB.out.size p wr.heap.size rfl (by have := HLL.out; omega)
        obtain ⟨A2, c2, hv2⟩ := RowT.slice hri
        obtain ⟨n2, hn2⟩ : ∃ z, z = (L ++ [p]).length := ⟨_, rfl⟩
        rw [← hn2] at hv2
        subst hv2
        have HRI := Lib.hid hri
        have HB6 := Lib.hid (HB.out.trans hb6)
        rw [hp] at hr
        clear hri hb6 hk6 hn2 hn h10
        go_wp2_with (at_builtin; refine wpList_append_ro _ rfl _ _ _ rfl _ _ _ _ rfl rfl hr ?_)
        go_roundw
        case rel =>
          have hlt2 := HLT.out
          refine ⟨k + 1, k + 1, L ++ [p], by omega, by go_num, by go_num, ?_, by have := HLL.out; simp; omega, HRI.out, HB6.out⟩
          have := HAT.out.next HC.out
          rw [HPE.out] at this
          exact this
        case measure => have hlt2 := HLT.out; simp [intOf]; omega
      · have d10 : ((n : Int) == 10) = false := by simp; omega
        have HNC := Lib.hid (show (s[k]'hlt) ≠ 10 from fun e => h10 (by rw [hn, e]; rfl))
        clear hn h10
        go_wp2_with fail
        go_roundw
        case rel =>
          have hlt2 := HLT.out
          exact ⟨k + 1, fr, L, by omega, by go_num, rfl, HAT.out.same HGK.out HNC.out, by have := HLL.out; omega, HROW.out, HB.out⟩
        case measure => have hlt2 := HLT.out; simp [intOf]; omega
    · have e : k = s.size := by omega
      subst e
      have HLD := Lib.hid (LnAt.done HAT.out)
      have HTX := Lib.hid HAT.out.txt
      by_cases hfe : fr = s.size
      · have df : ((fr : Int) == (s.size : Int)) = true := by simp [hfe]
        have HFE := Lib.hid hfe
        by_cases h0 : s.size = 0
        · have d0 : decide (0 < s.size) = false := decide_eq_false (by omega)
          have HZ := Lib.hid h0
          clear hfe h0 hlt hk hfk
          go_wp2_with fail
          go_returns
          refine ⟨.slice A nv c, L, ⟨⟨s.data.toList.drop fr⟩⟩, ?_, HLD.out, ?_, HAT.out.no, HROW.out, HB.out⟩
          · rw [show decide ((⟨⟨s.data.toList.drop fr⟩⟩ : ByteArray).data.toList = [] ∧ s.size ≠ 0) = false from decide_eq_false (fun h => h.2 HZ.out)]; rfl
          · have h1 := HTX.out
            rw [show s.data.toList.take s.size = s.data.toList from List.take_length] at h1
            exact h1
        · have d0 : decide (0 < s.size) = true := decide_eq_true (by omega)
          have HZ := Lib.hid h0
          clear hfe h0 hlt hk hfk
          go_wp2_with fail
          go_returns
          refine ⟨.slice A nv c, L, ⟨⟨s.data.toList.drop fr⟩⟩, ?_, HLD.out, ?_, HAT.out.no, HROW.out, HB.out⟩
          · rw [show decide ((⟨⟨s.data.toList.drop fr⟩⟩ : ByteArray).data.toList = [] ∧ s.size ≠ 0) = true from decide_eq_true ⟨by rw [HFE.out]; exact List.drop_length, HZ.out⟩]; rfl
          · have h1 := HTX.out
            rw [show s.data.toList.take s.size = s.data.toList from List.take_length] at h1
            exact h1
      · have df : ((fr : Int) == (s.size : Int)) = false := by simp; omega
        have HFE := Lib.hid (show fr < s.size by omega)
        clear hfe hlt hk hfk
        go_wp2_with fail
        go_returns
        refine ⟨.slice A nv c, L, ⟨⟨s.data.toList.drop fr⟩⟩, ?_, HLD.out, ?_, HAT.out.no, HROW.out, HB.out⟩
        · rw [show decide ((⟨⟨s.data.toList.drop fr⟩⟩ : ByteArray).data.toList = [] ∧ s.size ≠ 0) = false from decide_eq_false (fun h => by
            have h1 := congrArg List.length h.1
            rw [List.length_drop] at h1
            have h2 : s.data.toList.length = s.size := rfl
            have := HFE.out
            simp at h1
            omega)]
          rfl
        · have h1 := HTX.out
          rw [show s.data.toList.take s.size = s.data.toList from List.take_length] at h1
          exact h1
end Go.Proofs.YtmmpkkpmlaiapaaGreatDoor
namespace Go.Proofs.YtmmpkkpmlaiapaaGreatDoor
open Go.RowKit
set_option linter.unusedVariables false
def txB (L : List ByteArray) (k : Nat) : Bool := (L.take k).any fun p => p.data.toList == teL
theorem txB_snoc {L : List ByteArray} {k : Nat} {p : ByteArray} (h : L[k]? = some p) : txB L (k + 1) = (txB L k || p.data.toList == teL) := by
  unfold txB
  rw [take_more h, List.any_append]
  simp
theorem txB_iff {L : List ByteArray} {k : Nat} : txB L k = true ↔ ∃ i x, i < k ∧ L[i]? = some x ∧ x.data.toList = teL := by
  unfold txB
  rw [List.any_eq_true]
  constructor
  · rintro ⟨x, hx, he⟩
    obtain ⟨i, hi, rfl⟩ := List.mem_iff_getElem.1 hx
    have h1 : (L.take k)[i]? = some (L.take k)[i] := List.getElem?_eq_getElem hi
    rw [List.length_take] at hi
    rw [List.getElem?_take, if_pos (by omega)] at h1
    exact ⟨i, _, by omega, h1, by simpa using he⟩
  · rintro ⟨i, x, hi, hx, he⟩
    refine ⟨x, ?_, by simpa using he⟩
    rw [List.mem_iff_getElem?]
    exact ⟨i, by rw [List.getElem?_take, if_pos hi]; exact hx⟩
theorem preL_take_le (L : List ByteArray) (k : Nat) : (preL (L.take k)).length ≤ (preL L).length := by
  have h : preL L = preL (L.take k) ++ preL (L.drop k) := by
    unfold preL
    rw [← List.flatten_append, ← List.map_append, List.take_append_drop]
  rw [h, List.length_append]; omega
theorem preL_count (L : List ByteArray) : L.length ≤ (preL L).length := by
  induction L with
  | nil => simp
  | cons p L ih => rw [preL_cons]; simp only [List.length_append, List.length_cons]; omega
theorem preL_app (A B : List ByteArray) : preL (A ++ B) = preL A ++ preL B := by simp [preL]
def teB : ByteArray := ⟨⟨teL⟩⟩
theorem te_nonl : NoNl teB := by unfold NoNl teB teL; decide
theorem em_nonl : NoNl ⟨⟨[]⟩⟩ := by unfold NoNl; simp
theorem lines_pre {L : List ByteArray} (h : ∀ p ∈ L, NoNl p) {s : ByteArray} (hs : s.data.toList = preL L) : linesB s = L ++ [⟨⟨[]⟩⟩] := by
  have h1 := lines_to em_nonl L h
  rw [show preL L ++ (⟨⟨[]⟩⟩ : ByteArray).data.toList = s.data.toList by rw [hs]; simp] at h1
  exact h1
theorem part_tx {L : List ByteArray} {last : ByteArray} {j : Nat} {st : PSt} (hj : 0 < j) (hjl : j ≤ L.length) (hr : runP (L ++ [last]) j = some st) : (txB L j = true → st.part = 2) ∧ (txB L j = false → st.part = 1) := by
  have hget : ∀ i, i < j → (L ++ [last])[i]? = L[i]? := fun i hi => List.getElem?_append_left (by omega)
  rcases part_ok j st hr with ⟨h, _⟩ | ⟨_, ⟨p1, _, p2⟩ | ⟨p1, i, x, h1, h2, h3⟩⟩
  · omega
  · refine ⟨fun h => ?_, fun _ => p1⟩
    obtain ⟨i, x, h1, h2, h3⟩ := txB_iff.1 h
    exact absurd h3 (p2 i x h1 (by rw [hget i h1]; exact h2))
  · refine ⟨fun _ => p1, fun h => ?_⟩
    have := txB_iff.2 ⟨i, x, h1, by rw [← hget i h1]; exact h2, h3⟩
    rw [h] at this
    cases this
theorem step_te {st : PSt} (h : st.part = 1) : stepP st teL = some { st with part := 2 } := by
  unfold stepP
  rw [if_neg (by rw [h]; decide), if_pos ⟨rfl, h⟩]
def wholeL (L : List ByteArray) (t : Bool) : List ByteArray := L ++ (if t then [] else [teB])
theorem whole_pre (L : List ByteArray) (t : Bool) : preL (wholeL L t) = preL L ++ (if t then [] else teL ++ [10]) := by
  unfold wholeL
  cases t with
  | true => simp
  | false => rw [preL_app]; rfl
theorem whole_nonl {L : List ByteArray} (h : ∀ p ∈ L, NoNl p) (t : Bool) : ∀ p ∈ wholeL L t, NoNl p := by
  intro p hp
  unfold wholeL at hp
  rcases List.mem_append.1 hp with hp | hp
  · exact h p hp
  · cases t with
    | true => cases hp
    | false => rw [List.mem_singleton.1 hp]; exact te_nonl
theorem pre_ok {L : List ByteArray} {last s : ByteArray} {j : Nat} {st : PSt} {p : XProgD} {fk fa : Int} (hj : 0 < j) (hjl : j ≤ L.length) (hn : ∀ p ∈ L, NoNl p) (hr : runP (L ++ [last]) j = some st) (hs : s.data.toList = preL (L.take j) ++ (if txB L j then [] else teL ++ [10])) (h : ParP s p fk fa) : fk = 0 := by
  have hnt : ∀ p ∈ L.take j, NoNl p := fun p hp => hn p (List.mem_of_mem_take hp)
  have hlen : (L.take j).length = j := by rw [List.length_take]; omega
  obtain ⟨t1, t2⟩ := part_tx hj hjl hr
  have hl := lines_pre (whole_nonl hnt (txB L j)) (s := s) (by rw [whole_pre]; exact hs)
  have hrun : ∀ X : List ByteArray, runP (L.take j ++ X) j = some st := fun X => by
    rw [← hr]
    refine runP_pre j (fun i hi => ?_)
    rw [List.getElem?_append_left (by omega), List.getElem?_append_left (by omega), List.getElem?_take, if_pos hi]
  cases ht : txB L j with
  | true =>
    rw [ht] at hl
    have e : wholeL (L.take j) true = L.take j := by simp [wholeL]
    rw [e] at hl
    exact parP_ok hl (by intro h0; rw [h0] at hlen; simp at hlen; omega) (by rw [hlen]; exact hrun _) (t1 ht) h
  | false =>
    rw [ht] at hl
    have e : wholeL (L.take j) false = L.take j ++ [teB] := rfl
    rw [e] at hl
    have hx : ((L.take j ++ [teB]) ++ [(⟨⟨[]⟩⟩ : ByteArray)])[j]? = some teB := by
      rw [List.append_assoc, List.getElem?_append_right (by omega), hlen, Nat.sub_self]; rfl
    have h1 : runP ((L.take j ++ [teB]) ++ [⟨⟨[]⟩⟩]) j = some st := by rw [List.append_assoc]; exact hrun _
    have h2 := (runP_step h1 hx).trans (step_te (t2 ht))
    exact parP_ok hl (by simp) (by rw [List.length_append, hlen]; exact h2) rfl h
theorem pre_bad {L : List ByteArray} {last s x : ByteArray} {j : Nat} {st : PSt} {p : XProgD} {fk fa : Int} (hjl : j < L.length) (hn : ∀ p ∈ L, NoNl p) (hr : runP (L ++ [last]) j = some st) (hx : L[j]? = some x) (hst : stepP st x.data.toList = none) (t : Bool) (hs : s.data.toList = preL (L.take j) ++ (x.data.toList ++ [10]) ++ (if t then [] else teL ++ [10])) (h : ParP s p fk fa) : fk = 30 ∧ fa = (j : Int) + 1 := by
  have hlen : (L.take j).length = j := by rw [List.length_take]; omega
  have hnt : ∀ p ∈ L.take j ++ [x], NoNl p := fun p hp => by
    rcases List.mem_append.1 hp with hp | hp
    · exact hn p (List.mem_of_mem_take hp)
    · rw [List.mem_singleton.1 hp]; exact hn x (List.mem_of_getElem? hx)
  have hl := lines_pre (whole_nonl hnt t) (s := s) (by rw [whole_pre, preL_snoc]; exact hs)
  have hget : ∀ i, i < j → (wholeL (L.take j ++ [x]) t ++ [(⟨⟨[]⟩⟩ : ByteArray)])[i]? = (L ++ [last])[i]? := fun i hi => by
    unfold wholeL
    rw [List.append_assoc, List.append_assoc, List.getElem?_append_left (by omega), List.getElem?_append_left (by omega), List.getElem?_take, if_pos hi]
  have h1 : runP (wholeL (L.take j ++ [x]) t ++ [⟨⟨[]⟩⟩]) j = some st := by rw [← hr]; exact runP_pre j hget
  have h2 : (wholeL (L.take j ++ [x]) t ++ [(⟨⟨[]⟩⟩ : ByteArray)])[j]? = some x := by
    unfold wholeL
    rw [List.append_assoc, List.append_assoc, List.getElem?_append_right (by omega), hlen, Nat.sub_self]; rfl
  have h3 : j < (wholeL (L.take j ++ [x]) t).length := by unfold wholeL; simp only [List.length_append, hlen, List.length_cons]; omega
  exact parP_bad hl h3 h1 h2 hst h
end Go.Proofs.YtmmpkkpmlaiapaaGreatDoor
