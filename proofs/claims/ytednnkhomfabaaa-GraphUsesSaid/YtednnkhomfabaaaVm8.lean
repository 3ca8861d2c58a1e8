/- A machine to run closed calls: operations in any order. No condition. -/
import Derived.Test.YtednnkhomfabaaaVm7
namespace Go.Proofs.Ytednnkhomfabaaa
open Go.RowKit
set_option linter.unusedVariables false
/-! ### Which operations wait for which -/
def bindsTo (o : Oper) : List Nat := (o.after.toList.filter (fun e => Region.binds .any e)).map (·.on)
def stepMask (m : List Nat) (o : Oper) : Nat := (bindsTo o).foldl (fun s j => s ||| 2 ^ j ||| m.getD j 0) 0
def masks : List Oper → List Nat → List Nat
  | [], acc => acc
  | o :: l, acc => masks l (acc ++ [stepMask acc o])
def edgesOk : Nat → List Oper → Bool
  | _, [] => true
  | k, o :: l => (bindsTo o).all (fun j => j.blt k) && edgesOk (k + 1) l
def masksOk (m : List Nat) : Nat → List Oper → Bool
  | _, [] => true
  | k, o :: l => (m.getD k 0).beq (stepMask m o) && masksOk m (k + 1) l
theorem edgesOk_at : ∀ (l : List Oper) (k : Nat), edgesOk k l = true → ∀ (i : Nat) o, l[i]? = some o → ∀ j ∈ bindsTo o, j < k + i
  | [], _, _, i, o, h => by simp at h
  | x :: l, k, hk, i, o, h => by
    simp only [edgesOk, Bool.and_eq_true] at hk
    cases i with
    | zero =>
      simp only [List.getElem?_cons_zero, Option.some.injEq] at h
      subst h
      intro j hj
      have := (List.all_eq_true.1 hk.1) j hj
      simpa [Nat.blt_eq] using this
    | succ i =>
      intro j hj
      have := edgesOk_at l (k + 1) hk.2 i o (by simpa using h) j hj
      omega
theorem masksOk_at (m : List Nat) : ∀ (l : List Oper) (k : Nat), masksOk m k l = true → ∀ (i : Nat) o, l[i]? = some o → m.getD (k + i) 0 = stepMask m o
  | [], _, _, i, o, h => by simp at h
  | x :: l, k, hk, i, o, h => by
    simp only [masksOk, Bool.and_eq_true] at hk
    cases i with
    | zero =>
      simp only [List.getElem?_cons_zero, Option.some.injEq] at h
      subst h
      exact Nat.eq_of_beq_eq_true hk.1
    | succ i =>
      have := masksOk_at m l (k + 1) hk.2 i o (by simpa using h)
      rw [← this]
      congr 1
      omega
theorem foldMask (m : List Nat) (k : Nat) : ∀ (l : List Nat) (s : Nat), (l.foldl (fun s j => s ||| 2 ^ j ||| m.getD j 0) s).testBit k = (s.testBit k || l.any (fun j => decide (j = k) || (m.getD j 0).testBit k))
  | [], s => by simp
  | j :: l, s => by
    rw [List.foldl_cons, foldMask m k l]
    simp only [Nat.testBit_or, Nat.testBit_two_pow, List.any_cons, Bool.or_assoc]
theorem stepMask_bit (m : List Nat) (o : Oper) (k : Nat) : (stepMask m o).testBit k = true ↔ ∃ j ∈ bindsTo o, j = k ∨ (m.getD j 0).testBit k = true := by
  unfold stepMask
  rw [foldMask]
  simp
section
variable {ops : List Oper} {m : List Nat} (he : edgesOk 0 ops = true) (hm : masksOk m 0 ops = true)
include he hm
theorem bit_spec {i : Nat} {o : Oper} (ho : ops[i]? = some o) (k : Nat) : (m.getD i 0).testBit k = true ↔ ∃ j ∈ bindsTo o, j < i ∧ (j = k ∨ (m.getD j 0).testBit k = true) := by
  have e1 := masksOk_at m ops 0 hm i o ho
  have e2 := edgesOk_at ops 0 he i o ho
  rw [Nat.zero_add] at e1
  rw [e1, stepMask_bit]
  constructor
  · rintro ⟨j, hj, h⟩; have := e2 j hj; exact ⟨j, hj, by omega, h⟩
  · rintro ⟨j, hj, _, h⟩; exact ⟨j, hj, h⟩
theorem bit_lt : ∀ (i : Nat) {o : Oper}, ops[i]? = some o → ∀ k, (m.getD i 0).testBit k = true → k < i := by
  intro i
  induction i using Nat.strongRecOn with
  | _ i ih =>
    intro o ho k hk
    obtain ⟨j, hj, hji, h⟩ := (bit_spec he hm ho k).1 hk
    rcases h with rfl | h
    · exact hji
    · have hlt : j < ops.length := by
        have := (List.getElem?_eq_some_iff.1 ho).1
        omega
      have := ih j hji (List.getElem?_eq_getElem hlt) k h
      omega
theorem bit_trans : ∀ (i : Nat) {o : Oper}, ops[i]? = some o → ∀ j k, (m.getD i 0).testBit j = true → (m.getD j 0).testBit k = true → (m.getD i 0).testBit k = true := by
  intro i
  induction i using Nat.strongRecOn with
  | _ i ih =>
    intro o ho j k hj hk
    obtain ⟨j', h1, h2, h3⟩ := (bit_spec he hm ho j).1 hj
    rw [bit_spec he hm ho k]
    refine ⟨j', h1, h2, Or.inr ?_⟩
    rcases h3 with rfl | h3
    · exact hk
    · have hlt : j' < ops.length := by
        have := (List.getElem?_eq_some_iff.1 ho).1
        omega
      exact ih j' h2 (List.getElem?_eq_getElem hlt) j k h3 hk
/-- what an operation waits for has been taken, if each that has been taken waited for what it waits for -/
theorem bit_done {L : Nat → Prop} (hL : ∀ i o, L i → ops[i]? = some o → ∀ j ∈ bindsTo o, L j) : ∀ (i : Nat) {o : Oper}, ops[i]? = some o → (∀ j ∈ bindsTo o, L j) → ∀ k, (m.getD i 0).testBit k = true → L k := by
  intro i
  induction i using Nat.strongRecOn with
  | _ i ih =>
    intro o ho hb k hk
    obtain ⟨j, h1, h2, h3⟩ := (bit_spec he hm ho k).1 hk
    rcases h3 with rfl | h3
    · exact hb j h1
    · have hlt : j < ops.length := by
        have := (List.getElem?_eq_some_iff.1 ho).1
        omega
      have ho' := List.getElem?_eq_getElem hlt
      exact ih j h2 ho' (hL j _ (hb j h1) ho') k h3
end
/-! ### Operations that may be taken whenever they are ready -/
def floatOk (ops : Array Oper) (i : Nat) (o : Oper) (l : List Oper) : Bool := regKind o.op && l.all (fun oj => (bindsTo oj).contains i || o.apart ops oj)
def fmask (ops : Array Oper) : Nat → List Oper → Nat
  | _, [] => 0
  | i, o :: l => (bif floatOk ops i o l then 2 ^ i else 0) ||| fmask ops (i + 1) l
theorem fmask_bit (ops : Array Oper) : ∀ (l : List Oper) (i : Nat), (∀ j, l[j]? = ops[i + j]?) → ∀ k, (fmask ops i l).testBit k = true → i ≤ k ∧ ∃ o, ops[k]? = some o ∧ regKind o.op = true ∧ ∀ j oj, k < j → ops[j]? = some oj → (∀ e ∈ oj.after, Region.binds .any e = true → e.on ≠ k) → o.apart ops oj = true
  | [], i, _, k, h => by simp [fmask] at h
  | o :: l, i, hl, k, h => by
    unfold fmask at h
    rw [Nat.testBit_or, Bool.or_eq_true] at h
    rcases h with h | h
    · cases hf : floatOk ops i o l with
      | false => rw [hf] at h; simp at h
      | true =>
        rw [hf] at h
        simp only [cond_true, Nat.testBit_two_pow, decide_eq_true_eq] at h
        subst h
        unfold floatOk at hf
        simp only [Bool.and_eq_true, List.all_eq_true, Bool.or_eq_true] at hf
        refine ⟨Nat.le_refl _, o, by simpa using (hl 0).symm, hf.1, fun j oj hj hoj hne => ?_⟩
        have h1 := hl (j - i)
        rw [show i + (j - i) = j by omega, hoj] at h1
        have h2 : oj ∈ l := by
          obtain ⟨d, hd⟩ : ∃ d, j - i = d + 1 := ⟨j - i - 1, by omega⟩
          rw [hd] at h1
          exact List.mem_of_getElem? (by simpa using h1)
        rcases hf.2 oj h2 with h3 | h3
        · have h4 : i ∈ bindsTo oj := by simpa using h3
          unfold bindsTo at h4
          obtain ⟨e, he, hei⟩ := List.mem_map.1 h4
          obtain ⟨he1, he2⟩ := List.mem_filter.1 he
          exact absurd hei (hne e (by simpa using he1) he2)
        · exact h3
    · obtain ⟨h1, h2⟩ := fmask_bit ops l (i + 1) (fun j => by have := hl (j + 1); simpa [Nat.add_assoc, Nat.add_comm 1 j] using this) k h
      exact ⟨by omega, h2⟩
/-! ### A part of a region in which any order may be -/
structure Rec where
  i : Nat
  dst : Option Tmp
  val : Value
  delta : List (Nat × VObj)
  lo : Nat
  hi : Nat
def selRecs (m : Nat) (recs : List Rec) : List Rec := recs.filter (fun r => m.testBit r.i)
def addDelta (h : Tr VObj) : List (Nat × VObj) → Tr VObj
  | [] => h
  | p :: l => addDelta (h.put p.1 p.2) l
def heapOf (h : Tr VObj) : List Rec → Tr VObj
  | [] => h
  | r :: l => heapOf (addDelta h r.delta) l
def frameOf (A : Tr Value) : List Rec → Tr Value
  | [] => A
  | r :: l => frameOf (match r.dst with | some d => A.put d r.val | none => A) l
def dropAll (A : Tr Value) : List Oper → Tr Value
  | [] => A
  | o :: l => dropAll (match o.dst with | some d => Tr.set DD A d none | none => A) l
def collect (h : Tr VObj) (lo : Nat) : Nat → List (Nat × VObj)
  | 0 => []
  | n + 1 => match h.at (lo + n) with
    | some o => (lo + n, o) :: collect h lo n
    | none => collect h lo n
theorem addDelta_at : ∀ (l : List (Nat × VObj)) (h : Tr VObj) (i : Nat) (o : VObj), (addDelta h l).at i = some o → (i, o) ∈ l ∨ h.at i = some o
  | [], _, _, _, h => Or.inr h
  | p :: l, h, i, o, hh => by
    rcases addDelta_at l _ i o hh with h1 | h1
    · exact Or.inl (List.mem_cons_of_mem _ h1)
    · rcases Tr.at_put h1 with ⟨rfl, rfl⟩ | ⟨_, h2⟩
      · exact Or.inl List.mem_cons_self
      · exact Or.inr h2
theorem heapOf_at : ∀ (l : List Rec) (h : Tr VObj) (i : Nat) (o : VObj), (heapOf h l).at i = some o → (∃ r ∈ l, (i, o) ∈ r.delta) ∨ h.at i = some o
  | [], _, _, _, h => Or.inr h
  | r :: l, h, i, o, hh => by
    rcases heapOf_at l _ i o hh with ⟨r', h1, h2⟩ | h1
    · exact Or.inl ⟨r', List.mem_cons_of_mem _ h1, h2⟩
    · rcases addDelta_at _ _ _ _ h1 with h2 | h2
      · exact Or.inl ⟨r, List.mem_cons_self, h2⟩
      · exact Or.inr h2
theorem frameOf_at : ∀ (l : List Rec) (A : Tr Value) (t : Nat) (v : Value), (frameOf A l).at t = some v → (∃ r ∈ l, r.dst = some t ∧ r.val = v) ∨ (A.at t = some v ∧ ∀ r ∈ l, r.dst ≠ some t)
  | [], _, _, _, h => Or.inr ⟨h, fun r hr => by cases hr⟩
  | r :: l, A, t, v, h => by
    rcases frameOf_at l _ t v h with ⟨r', h1, h2⟩ | ⟨h1, h2⟩
    · exact Or.inl ⟨r', List.mem_cons_of_mem _ h1, h2⟩
    · cases hd : r.dst with
      | none =>
        rw [hd] at h1
        refine Or.inr ⟨h1, fun r' hr' => ?_⟩
        rcases List.mem_cons.1 hr' with rfl | hr'
        · rw [hd]; exact fun e => by cases e
        · exact h2 r' hr'
      | some d =>
        rw [hd] at h1
        rcases Tr.at_put h1 with ⟨rfl, rfl⟩ | ⟨hne, h3⟩
        · exact Or.inl ⟨r, List.mem_cons_self, hd, rfl⟩
        · refine Or.inr ⟨h3, fun r' hr' => ?_⟩
          rcases List.mem_cons.1 hr' with rfl | hr'
          · rw [hd]; exact fun e => hne (Option.some.inj e).symm
          · exact h2 r' hr'
theorem dropAll_at : ∀ (l : List Oper) (A : Tr Value) (t : Nat) (v : Value), (dropAll A l).at t = some v → A.at t = some v ∧ ∀ o ∈ l, o.dst ≠ some t
  | [], _, _, _, h => ⟨h, fun o ho => by cases ho⟩
  | o :: l, A, t, v, h => by
    obtain ⟨h1, h2⟩ := dropAll_at l _ t v h
    cases hd : o.dst with
    | none =>
      rw [hd] at h1
      refine ⟨h1, fun o' ho' => ?_⟩
      rcases List.mem_cons.1 ho' with rfl | ho'
      · rw [hd]; exact fun e => by cases e
      · exact h2 o' ho'
    | some d =>
      rw [hd] at h1
      obtain ⟨hne, h3⟩ := Tr.at_drop h1
      refine ⟨h3, fun o' ho' => ?_⟩
      rcases List.mem_cons.1 ho' with rfl | ho'
      · rw [hd]; exact fun e => hne (Option.some.inj e).symm
      · exact h2 o' ho'
theorem collect_spec (h : Tr VObj) (lo : Nat) : ∀ (n : Nat) (p : Nat × VObj), p ∈ collect h lo n → lo ≤ p.1 ∧ p.1 < lo + n ∧ h.at p.1 = some p.2
  | 0, p, hp => by cases hp
  | n + 1, p, hp => by
    unfold collect at hp
    split at hp
    · rename_i o ho
      rcases List.mem_cons.1 hp with rfl | hp
      · exact ⟨by omega, by omega, ho⟩
      · obtain ⟨h1, h2, h3⟩ := collect_spec h lo n p hp
        exact ⟨h1, by omega, h3⟩
    · obtain ⟨h1, h2, h3⟩ := collect_spec h lo n p hp
      exact ⟨h1, by omega, h3⟩
def dstFresh (nt : Nat) (d : Option Tmp) (recs : List Rec) : Bool :=
  match d with
  | none => true
  | some t => t.blt nt && recs.all (fun r => match r.dst with | some u => !u.beq t | none => true)
def vmulti {P : Program} {D : Den} (sy : Sy P D) (call : VCall) (nt : Nat) (ops : List Oper) (m : List Nat) (fm : Nat) (A0 : Tr Value) (h0 : Tr VObj) : List Oper → Nat → List Rec → Nat → Option (List Rec × Nat)
  | [], _, recs, s => some (recs, s)
  | o :: l, i, recs, s =>
    match bif fm.testBit i then (match vregW sy ops (frameOf A0 (selRecs (m.getD i 0) recs)) o with | some v => some (v, ⟨heapOf h0 (selRecs (m.getD i 0) recs), s⟩) | none => none)
      else vexec1 sy call s ops (frameOf A0 (selRecs (m.getD i 0) recs)) ⟨heapOf h0 (selRecs (m.getD i 0) recs), s⟩ o with
    | some (v, W1) =>
      bif dstFresh nt o.dst recs then vmulti sy call nt ops m fm A0 h0 l (i + 1) (recs ++ [⟨i, o.dst, v, collect W1.heap s (W1.next - s), s, W1.next⟩]) W1.next else none
    | none => none
theorem vexec1_next {P : Program} {D : Den} {sy : Sy P D} {call : VCall} {lim : Nat} {ops : List Oper} {A : Tr Value} {W W' : VW} {o : Oper} {v : Value} (hv : vexec1 sy call lim ops A W o = some (v, W')) : W.next ≤ W'.next := by
  have key : ∀ (W1 : VW) (u : Value), (bif W.next.ble W1.next then some (u, W1) else none) = some (v, W') → W.next ≤ W'.next := by
    intro W1 u h
    cases hb : W.next.ble W1.next with
    | false => rw [hb] at h; cases h
    | true =>
      rw [hb] at h
      simp only [cond_true, Option.some.injEq, Prod.mk.injEq] at h
      obtain ⟨rfl, rfl⟩ := h
      exact Nat.le_of_ble_eq_true hb
  unfold vexec1 at hv
  split at hv
  · simp only [Option.some.injEq, Prod.mk.injEq] at hv
    obtain ⟨rfl, rfl⟩ := hv
    exact Nat.le_refl _
  split at hv
  · split at hv
    · exact key _ _ hv
    · exact key _ _ hv
    · split at hv
      · exact key _ _ hv
      · cases hv
    · cases hv
  · simp only [Option.some.injEq, Prod.mk.injEq] at hv
    obtain ⟨rfl, rfl⟩ := hv
    exact Nat.le_refl _
  · cases hv
end Go.Proofs.Ytednnkhomfabaaa
