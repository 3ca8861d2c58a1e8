/- Laws over any program: a region that draws its order, taken operation by operation; what its reads rest on holds until one operation, which waits for them. No condition. -/
import Derived.Deep.RegionHeld3
namespace Go.Proofs.YtmmpkkpmlaiapaaGreatDoor
open Go
set_option linter.unusedVariables false
section
variable {P : Program} {Q : Exit → Act → World → Prop} {S : World → Prop} {n : Nat}
def UpTo (n : Nat) (S : World → Prop) (listed : Array Bool) (w : World) : Prop := listed.getD n true = true ∨ S w
def wpAnyU (P : Program) (ops : Array Oper) (Q : Exit → Act → World → Prop) (S : World → Prop) (n : Nat) : Nat → Array Bool → Act → World → Prop
  | 0, listed, a, w => Region.ready .any ops listed = [] ∧ Q .normal a w
  | fuel + 1, listed, a, w =>
    (Region.ready .any ops listed = [] → Q .normal a w) ∧
    ∀ i ∈ Region.ready .any ops listed, wpOp P ops Q i (fun a' w' => UpTo n S (listed.setIfInBounds i true) w' ∧ wpAnyU P ops Q S n fuel (listed.setIfInBounds i true) a' w') a w
theorem wpAny_of_upto {ops : Array Oper} : ∀ (fuel : Nat) (listed : Array Bool) (a : Act) (w : World), wpAnyU P ops Q S n fuel listed a w → wpAny P .any ops Q fuel listed a w
  | 0, _, _, _, h => h
  | fuel + 1, _, _, _, h => ⟨h.1, fun i hi => wpOp_mono (fun a' w' h' => wpAny_of_upto fuel _ a' w' h'.2) (h.2 i hi)⟩
theorem upto_first {ops : Array Oper} {i : Nat} {oi on_ : Oper} {v : Value} (hi : ops[i]? = some oi) (hn : ops[n]? = some on_) (hw : ∃ e ∈ on_.after, Region.binds .any e = true ∧ e.on = i) (hne : n ≠ i)
    (hsel : ∀ (j : Nat) (o : Oper) cs b, ops[j]? = some o → o.op ≠ .select cs b) (hQ : ∀ c a w, Q (.panic c) (a.put oi.dst v) w → Q (.panic c) a w) :
    ∀ (fuel : Nat) (listed : Array Bool) (a : Act) (w : World), listed.getD n true = false →
      (∀ j oj, ops[j]? = some oj → j ≠ i → listed.getD j true = false → (∀ e ∈ oj.after, Region.binds .any e = true → e.on ≠ i) → oi.apart ops oj = true) →
      i ∈ Region.ready .any ops listed → YieldsIf P ops S oi v a → S w →
      wpAnyU P ops Q S n fuel (listed.setIfInBounds i true) (a.put oi.dst v) w → wpAnyU P ops Q S n (fuel + 1) listed a w := by
  intro fuel
  induction fuel with
  | zero =>
    intro listed a w hnl _ hr hy hS H
    refine ⟨fun h => (by rw [h] at hr; cases hr), fun j hj => ?_⟩
    by_cases hji : j = i
    · subst hji; exact hy.wpOp hi hS ⟨Or.inr hS, H⟩
    · have := ready_mono hj hji
      rw [H.1] at this
      cases this
  | succ fuel ih =>
    intro listed a w hnl hfree hr hy hS H
    refine ⟨fun h => (by rw [h] at hr; cases hr), fun j hj => ?_⟩
    by_cases hji : j = i
    · subst hji; exact hy.wpOp hi hS ⟨Or.inr hS, H⟩
    · have h1 := H.2 j (ready_mono hj hji)
      obtain ⟨hjun, oj, hoj, hall⟩ := mem_ready.1 hj
      have hclash : ∀ e ∈ oj.after, Region.binds .any e = true → e.on ≠ i := fun e he hb heq => by
        have h1 := hall e he hb
        have h0 := (mem_ready.1 hr).1
        rw [heq] at h1
        rcases Nat.lt_or_ge i listed.size with h' | h'
        · simp [h'] at h0 h1; rw [h0] at h1; cases h1
        · simp [Array.getElem?_eq_none h'] at h1
      have hjn : j ≠ n := fun e => by
        subst e
        obtain ⟨ed, h2, h3, h4⟩ := hw
        rw [hn] at hoj
        obtain rfl := Option.some.inj hoj
        exact hclash ed h2 h3 h4
      have hnl2 : (listed.setIfInBounds j true).getD n true = false := by rw [getD_set_ne true hjn]; exact hnl
      have h2 := wpOp_putIf hoj (hfree j oj hoj hji hjun hclash) (fun cs b => hsel i oi cs b hi) (fun cs b => hsel j oj cs b hoj) hQ hy h1
      have hfree' : ∀ k ok, ops[k]? = some ok → k ≠ i → (listed.setIfInBounds j true).getD k true = false →
          (∀ e ∈ ok.after, Region.binds .any e = true → e.on ≠ i) → oi.apart ops ok = true := fun k ok hk hki hun hno => by
        refine hfree k ok hk hki ?_ hno
        by_cases hjk : j = k
        · subst hjk; exact hjun
        · rw [getD_set_ne true hjk] at hun; exact hun
      refine wpOp_mono (fun a' w' h3 => ?_) h2
      have hS' : S w' := by
        rcases h3.2.1 with h4 | h4
        · rw [getD_set_ne true hjn, getD_set_ne true (Ne.symm hne), hnl] at h4; cases h4
        · exact h4
      refine ⟨Or.inr hS', ih (listed.setIfInBounds j true) a' w' hnl2 hfree' (ready_mono hr (Ne.symm hji)) h3.1 hS' ?_⟩
      rw [Array.setIfInBounds_comm _ _ hji]
      exact h3.2.2
theorem upto_any {ops : Array Oper} {i : Nat} {oi : Oper} {v : Value} (hi : ops[i]? = some oi) (hne : n ≠ i)
    (hsel : ∀ (j : Nat) (o : Oper) cs b, ops[j]? = some o → o.op ≠ .select cs b) (hQ : ∀ c a w, Q (.panic c) (a.put oi.dst v) w → Q (.panic c) a w) :
    ∀ (fuel : Nat) (listed : Array Bool) (a : Act) (w : World), UpTo n S listed w →
      (∀ j oj, ops[j]? = some oj → j ≠ i → listed.getD j true = false → (∀ e ∈ oj.after, Region.binds .any e = true → e.on ≠ i) → oi.apart ops oj = true) →
      i ∈ Region.ready .any ops listed → YieldsIf P ops (fun _ => True) oi v a →
      wpAnyU P ops Q S n fuel (listed.setIfInBounds i true) (a.put oi.dst v) w → wpAnyU P ops Q S n (fuel + 1) listed a w := by
  have up : ∀ {listed : Array Bool} {w : World}, UpTo n S listed w ↔ UpTo n S (listed.setIfInBounds i true) w := by
    intro listed w
    unfold UpTo
    rw [getD_set_ne true (Ne.symm hne)]
  intro fuel
  induction fuel with
  | zero =>
    intro listed a w hS _ hr hy H
    refine ⟨fun h => (by rw [h] at hr; cases hr), fun j hj => ?_⟩
    by_cases hji : j = i
    · subst hji; exact hy.wpOp hi trivial ⟨up.1 hS, H⟩
    · have := ready_mono hj hji
      rw [H.1] at this
      cases this
  | succ fuel ih =>
    intro listed a w hS hfree hr hy H
    refine ⟨fun h => (by rw [h] at hr; cases hr), fun j hj => ?_⟩
    by_cases hji : j = i
    · subst hji; exact hy.wpOp hi trivial ⟨up.1 hS, H⟩
    · have h1 := H.2 j (ready_mono hj hji)
      obtain ⟨hjun, oj, hoj, hall⟩ := mem_ready.1 hj
      have hclash : ∀ e ∈ oj.after, Region.binds .any e = true → e.on ≠ i := fun e he hb heq => by
        have h1 := hall e he hb
        have h0 := (mem_ready.1 hr).1
        rw [heq] at h1
        rcases Nat.lt_or_ge i listed.size with h' | h'
        · simp [h'] at h0 h1; rw [h0] at h1; cases h1
        · simp [Array.getElem?_eq_none h'] at h1
      have h2 := wpOp_putIf hoj (hfree j oj hoj hji hjun hclash) (fun cs b => hsel i oi cs b hi) (fun cs b => hsel j oj cs b hoj) hQ hy h1
      have hfree' : ∀ k ok, ops[k]? = some ok → k ≠ i → (listed.setIfInBounds j true).getD k true = false →
          (∀ e ∈ ok.after, Region.binds .any e = true → e.on ≠ i) → oi.apart ops ok = true := fun k ok hk hki hun hno => by
        refine hfree k ok hk hki ?_ hno
        by_cases hjk : j = k
        · subst hjk; exact hjun
        · rw [getD_set_ne true hjk] at hun; exact hun
      refine wpOp_mono (fun a' w' h3 => ?_) h2
      have e : (listed.setIfInBounds i true).setIfInBounds j true = (listed.setIfInBounds j true).setIfInBounds i true := Array.setIfInBounds_comm _ _ (Ne.symm hji)
      have hS' : UpTo n S (listed.setIfInBounds j true) w' := up.2 (by rw [← e]; exact h3.2.1)
      refine ⟨hS', ih (listed.setIfInBounds j true) a' w' hS' hfree' (ready_mono hr (Ne.symm hji)) h3.1 ?_⟩
      rw [Array.setIfInBounds_comm _ _ hji]
      exact h3.2.2
variable {ops : List Oper}
theorem nth_ofU {i : Nat} {oi : Oper} (h : (ops.drop i).head? = some oi) : ops.toArray[i]? = some oi := by
  rw [List.getElem?_toArray, ← List.head?_drop]; exact h
def waitsFor (ops : List Oper) (n i : Nat) : Bool := match (ops.drop n).head? with | some o => o.after.any (fun e => Region.binds .any e && e.on == i) | none => false
theorem waitsFor_spec {i : Nat} (h : waitsFor ops n i = true) : ∃ on_, ops.toArray[n]? = some on_ ∧ ∃ e ∈ on_.after, Region.binds .any e = true ∧ e.on = i := by
  unfold waitsFor at h
  split at h
  · rename_i o ho
    obtain ⟨e, he, h2⟩ := Array.any_eq_true'.1 h
    simp only [Bool.and_eq_true, beq_iff_eq] at h2
    exact ⟨o, nth_ofU ho, e, he, h2.1, h2.2⟩
  · cases h
theorem UpTo.like {l l' : Array Bool} {w : World} (h : UpTo n S l w) (e : (l.getD n true == l'.getD n true) = true) : UpTo n S l' w := by
  have e' : l.getD n true = l'.getD n true := by simpa using e
  unfold UpTo at *
  rwa [← e']
theorem UpTo.holds {l : Array Bool} {w : World} (h : UpTo n S l w) (e : l.getD n true = false) : S w := by
  rcases h with h | h
  · rw [h] at e; cases e
  · exact h
theorem upto_begin (n : Nat) (S : World → Prop) {id : Nat} {a : Act} {w : World} (hm : P.follows .mixedOrders = true) (hS : S w.drew)
    (h : UpTo n S (Array.replicate ops.toArray.size false) w.drew → wpAnyU P ops.toArray Q S n ops.toArray.size (Array.replicate ops.toArray.size false) a w.drew) : (Code.region id ops.toArray true).wp P Q a w :=
  wp_region_any hm (wpAny_of_upto _ _ _ _ (h (Or.inr hS)))
theorem upto_read (i : Nat) {oi : Oper} {v : Value} {fuel : Nat} {listed l0 : Array Bool} {a : Act} {w : World} (hS : UpTo n S l0 w) (hl : (l0.getD n true == listed.getD n true) = true) (hi : (ops.drop i).head? = some oi) (hw : waitsFor ops n i = true) (hnl : (listed.getD n true || n == i) = false)
    (hs : Region.noSelect ops.toArray = true) (hf : Region.free .any ops.toArray listed i = true) (hr : (Region.ready .any ops.toArray listed).contains i = true)
    (hQ : ∀ c a w, Q (.panic c) (a.put oi.dst v) w → Q (.panic c) a w) (hy : YieldsIf P ops.toArray S oi v a)
    (h : wpAnyU P ops.toArray Q S n fuel (listed.setIfInBounds i true) (a.put oi.dst v) w) : wpAnyU P ops.toArray Q S n (fuel + 1) listed a w := by
  obtain ⟨on_, h1, h2⟩ := waitsFor_spec hw
  rw [Bool.or_eq_false_iff] at hnl
  exact upto_first (nth_ofU hi) h1 h2 (by simpa using hnl.2) (Region.noSelect_spec hs) hQ fuel listed a w hnl.1 (Region.free_spec (nth_ofU hi) hf) (by simpa using hr) hy ((hS.like hl).holds hnl.1) h
theorem upto_run (i : Nat) {oi : Oper} {v : Value} {fuel : Nat} {listed l0 : Array Bool} {a : Act} {w : World} (hS : UpTo n S l0 w) (hl : (l0.getD n true == listed.getD n true) = true) (hi : (ops.drop i).head? = some oi) (hne : (n == i) = false)
    (hs : Region.noSelect ops.toArray = true) (hf : Region.free .any ops.toArray listed i = true) (hr : (Region.ready .any ops.toArray listed).contains i = true)
    (hQ : ∀ c a w, Q (.panic c) (a.put oi.dst v) w → Q (.panic c) a w) (hy : YieldsIf P ops.toArray (fun _ => True) oi v a)
    (h : wpAnyU P ops.toArray Q S n fuel (listed.setIfInBounds i true) (a.put oi.dst v) w) : wpAnyU P ops.toArray Q S n (fuel + 1) listed a w :=
  upto_any (nth_ofU hi) (by simpa using hne) (Region.noSelect_spec hs) hQ fuel listed a w (hS.like hl) (Region.free_spec (nth_ofU hi) hf) (by simpa using hr) hy h
theorem upto_next (i : Nat) {o : Oper} {fuel : Nat} {listed : Array Bool} {a : Act} {w : World} (hi : (ops.drop i).head? = some o) (hr : Region.ready .any ops.toArray listed = [i])
    (h : ∀ K' : Act → World → Prop, Shut (∀ a w, UpTo n S (listed.setIfInBounds i true) w → (UpTo n S (listed.setIfInBounds i true) w → wpAnyU P ops.toArray Q S n fuel (listed.setIfInBounds i true) a w) → K' a w) → if Region.wanted o (yielded ops.toArray a.tmps) = true then Oper.wp P o a w K' Q else K' (a.put o.dst undef) w) :
    wpAnyU P ops.toArray Q S n (fuel + 1) listed a w :=
  ⟨fun h0 => (by rw [hr] at h0; cases h0), fun j hj => by
    rw [hr] at hj
    obtain rfl := List.mem_singleton.1 hj
    exact wpOp_step (nth_ofU hi) (fun K' hK => h K' (fun a w hS hW => hK a w ⟨hS, hW hS⟩))⟩
theorem upto_done {listed : Array Bool} {a : Act} {w : World} (hr : Region.ready .any ops.toArray listed = []) (h : Q .normal a w) : ∀ fuel, wpAnyU P ops.toArray Q S n fuel listed a w
  | 0 => ⟨hr, h⟩
  | _ + 1 => ⟨fun _ => h, by rw [hr]; simp⟩
def runC (ops : List Oper) (n : Nat) (listed l0 : Array Bool) (i : Nat) : Bool := (l0.getD n true == listed.getD n true) && !(n == i) && Region.noSelect ops.toArray && Region.free .any ops.toArray listed i && (Region.ready .any ops.toArray listed).contains i
theorem ur (i : Nat) {oi : Oper} {v : Value} {fuel : Nat} {listed l0 : Array Bool} {a : Act} {w : World} (hS : UpTo n S l0 w) (hi : (ops.drop i).head? = some oi) (hc : runC ops n listed l0 i = true) (hQ : ∀ c a w, Q (.panic c) (a.put oi.dst v) w → Q (.panic c) a w)
    (hw : Region.wanted oi (yielded ops.toArray a.tmps) = true) (hy : ∀ w, True → (execOp a.eval oi).run P w = .ok (.value v) w) (h : wpAnyU P ops.toArray Q S n fuel (listed.setIfInBounds i true) (a.put oi.dst v) w) : wpAnyU P ops.toArray Q S n (fuel + 1) listed a w := by
  simp only [runC, Bool.and_eq_true, Bool.not_eq_true'] at hc
  obtain ⟨⟨⟨⟨h1, h2⟩, h3⟩, h4⟩, h5⟩ := hc
  exact upto_run i hS h1 hi h2 h3 h4 h5 hQ (Or.inl ⟨hw, hy⟩) h
theorem urd (i : Nat) {oi : Oper} {v : Value} {fuel : Nat} {listed l0 : Array Bool} {a : Act} {w : World} (hS : UpTo n S l0 w) (hi : (ops.drop i).head? = some oi) (hc : (waitsFor ops n i && !listed.getD n true && runC ops n listed l0 i) = true) (hQ : ∀ c a w, Q (.panic c) (a.put oi.dst v) w → Q (.panic c) a w)
    (hw : Region.wanted oi (yielded ops.toArray a.tmps) = true) (hy : ∀ w, S w → (execOp a.eval oi).run P w = .ok (.value v) w) (h : wpAnyU P ops.toArray Q S n fuel (listed.setIfInBounds i true) (a.put oi.dst v) w) : wpAnyU P ops.toArray Q S n (fuel + 1) listed a w := by
  simp only [runC, Bool.and_eq_true, Bool.not_eq_true'] at hc
  obtain ⟨⟨h6, h7⟩, ⟨⟨⟨h1, h2⟩, h3⟩, h4⟩, h5⟩ := hc
  exact upto_read i hS h1 hi h6 (by rw [h7, h2]; rfl) h3 h4 h5 hQ (Or.inl ⟨hw, hy⟩) h
end
end Go.Proofs.YtmmpkkpmlaiapaaGreatDoor
