/- Laws over any program: a region that draws its order, taken operation by operation; what its reads rest on holds until one operation, which waits for them. Plain facts: sets of numbers as words of 64 bits. Plain facts: ways in a graph of n nodes, from number 0 on. No condition. -/
import Derived.Deep.RegionHeld3
namespace Go.Proofs.YtbogcompeefoaaaDoor
open Go
set_option linter.unusedVariables false
section
variable {P : Program} {Q : Exit → Act → World → Prop} {S : World → Prop} {n : Nat}
/-- S holds, or number n has come up -/
def UpTo (n : Nat) (S : World → Prop) (listed : Array Bool) (w : World) : Prop := listed.getD n true = true ∨ S w
def wpAnyU (P : Program) (ops : Array Oper) (Q : Exit → Act → World → Prop) (S : World → Prop) (n : Nat) : Nat → Array Bool → Act → World → Prop
  | 0, listed, a, w => Region.ready .any ops listed = [] ∧ Q .normal a w
  | fuel + 1, listed, a, w =>
    (Region.ready .any ops listed = [] → Q .normal a w) ∧
    ∀ i ∈ Region.ready .any ops listed, wpOp P ops Q i (fun a' w' => UpTo n S (listed.setIfInBounds i true) w' ∧ wpAnyU P ops Q S n fuel (listed.setIfInBounds i true) a' w') a w
theorem wpAny_of_upto {ops : Array Oper} : ∀ (fuel : Nat) (listed : Array Bool) (a : Act) (w : World), wpAnyU P ops Q S n fuel listed a w → wpAny P .any ops Q fuel listed a w
  | 0, _, _, _, h => h
  | fuel + 1, _, _, _, h => ⟨h.1, fun i hi => wpOp_mono (fun a' w' h' => wpAny_of_upto fuel _ a' w' h'.2) (h.2 i hi)⟩
theorem upto_first {ops : Array Oper} {i : Nat} {oi on_ : Oper} {v : Value} (hi : ops[i]? = some oi) (hn : ops[n]? = some on_) (hw : ∃ e ∈ on_.after, Region.binds .any e = true ∧ e.on = i) (hne : n ≠ i)
    (hsel : ∀ (j : Nat) (o : Oper) cs b, ops[j]? = some o → o.op ≠ .select cs b) (hQ : ∀ c a w, Q (.panic c) (a.put oi.dst v) w → Q (.panic c) a w) :
    ∀ (fuel : Nat) (listed : Array Bool) (a : Act) (w : World), listed.getD n true = false →
      (∀ j oj, ops[j]? = some oj → j ≠ i → listed.getD j true = false → (∀ e ∈ oj.after, Region.binds .any e = true → e.on ≠ i) → oi.apart ops oj = true) →
      i ∈ Region.ready .any ops listed → YieldsIf P ops S oi v a → S w →
      wpAnyU P ops Q S n fuel (listed.setIfInBounds i true) (a.put oi.dst v) w → wpAnyU P ops Q S n (fuel + 1) listed a w := by
  intro fuel
  induction fuel with
  | zero =>
    intro listed a w hnl _ hr hy hS H
    refine ⟨fun h => (by rw [h] at hr; cases hr), fun j hj => ?_⟩
    by_cases hji : j = i
    · subst hji; exact hy.wpOp hi hS ⟨Or.inr hS, H⟩
    · have := ready_mono hj hji
      rw [H.1] at this
      cases this
  | succ fuel ih =>
    intro listed a w hnl hfree hr hy hS H
    refine ⟨fun h => (by rw [h] at hr; cases hr), fun j hj => ?_⟩
    by_cases hji : j = i
    · subst hji; exact hy.wpOp hi hS ⟨Or.inr hS, H⟩
    · have h1 := H.2 j (ready_mono hj hji)
      obtain ⟨hjun, oj, hoj, hall⟩ := mem_ready.1 hj
      have hclash : ∀ e ∈ oj.after, Region.binds .any e = true → e.on ≠ i := fun e he hb heq => by
        have h1 := hall e he hb
        have h0 := (mem_ready.1 hr).1
        rw [heq] at h1
        rcases Nat.lt_or_ge i listed.size with h' | h'
        · simp [h'] at h0 h1; rw [h0] at h1; cases h1
        · simp [Array.getElem?_eq_none h'] at h1
      have hjn : j ≠ n := fun e => by
        subst e
        obtain ⟨ed, h2, h3, h4⟩ := hw
        rw [hn] at hoj
        obtain rfl := Option.some.inj hoj
        exact hclash ed h2 h3 h4
      have hnl2 : (listed.setIfInBounds j true).getD n true = false := by rw [getD_set_ne true hjn]; exact hnl
      have h2 := wpOp_putIf hoj (hfree j oj hoj hji hjun hclash) (fun cs b => hsel i oi cs b hi) (fun cs b => hsel j oj cs b hoj) hQ hy h1
      have hfree' : ∀ k ok, ops[k]? = some ok → k ≠ i → (listed.setIfInBounds j true).getD k true = false →
          (∀ e ∈ ok.after, Region.binds .any e = true → e.on ≠ i) → oi.apart ops ok = true := fun k ok hk hki hun hno => by
        refine hfree k ok hk hki ?_ hno
        by_cases hjk : j = k
        · subst hjk; exact hjun
        · rw [getD_set_ne true hjk] at hun; exact hun
      refine wpOp_mono (fun a' w' h3 => ?_) h2
      have hS' : S w' := by
        rcases h3.2.1 with h4 | h4
        · rw [getD_set_ne true hjn, getD_set_ne true (Ne.symm hne), hnl] at h4; cases h4
        · exact h4
      refine ⟨Or.inr hS', ih (listed.setIfInBounds j true) a' w' hnl2 hfree' (ready_mono hr (Ne.symm hji)) h3.1 hS' ?_⟩
      rw [Array.setIfInBounds_comm _ _ hji]
      exact h3.2.2
theorem upto_any {ops : Array Oper} {i : Nat} {oi : Oper} {v : Value} (hi : ops[i]? = some oi) (hne : n ≠ i)
    (hsel : ∀ (j : Nat) (o : Oper) cs b, ops[j]? = some o → o.op ≠ .select cs b) (hQ : ∀ c a w, Q (.panic c) (a.put oi.dst v) w → Q (.panic c) a w) :
    ∀ (fuel : Nat) (listed : Array Bool) (a : Act) (w : World), UpTo n S listed w →
      (∀ j oj, ops[j]? = some oj → j ≠ i → listed.getD j true = false → (∀ e ∈ oj.after, Region.binds .any e = true → e.on ≠ i) → oi.apart ops oj = true) →
      i ∈ Region.ready .any ops listed → YieldsIf P ops (fun _ => True) oi v a →
      wpAnyU P ops Q S n fuel (listed.setIfInBounds i true) (a.put oi.dst v) w → wpAnyU P ops Q S n (fuel + 1) listed a w := by
  have up : ∀ {listed : Array Bool} {w : World}, UpTo n S listed w ↔ UpTo n S (listed.setIfInBounds i true) w := by
    intro listed w
    unfold UpTo
    rw [getD_set_ne true (Ne.symm hne)]
  intro fuel
  induction fuel with
  | zero =>
    intro listed a w hS _ hr hy H
    refine ⟨fun h => (by rw [h] at hr; cases hr), fun j hj => ?_⟩
    by_cases hji : j = i
    · subst hji; exact hy.wpOp hi trivial ⟨up.1 hS, H⟩
    · have := ready_mono hj hji
      rw [H.1] at this
      cases this
  | succ fuel ih =>
    intro listed a w hS hfree hr hy H
    refine ⟨fun h => (by rw [h] at hr; cases hr), fun j hj => ?_⟩
    by_cases hji : j = i
    · subst hji; exact hy.wpOp hi trivial ⟨up.1 hS, H⟩
    · have h1 := H.2 j (ready_mono hj hji)
      obtain ⟨hjun, oj, hoj, hall⟩ := mem_ready.1 hj
      have hclash : ∀ e ∈ oj.after, Region.binds .any e = true → e.on ≠ i := fun e he hb heq => by
        have h1 := hall e he hb
        have h0 := (mem_ready.1 hr).1
        rw [heq] at h1
        rcases Nat.lt_or_ge i listed.size with h' | h'
        · simp [h'] at h0 h1; rw [h0] at h1; cases h1
        · simp [Array.getElem?_eq_none h'] at h1
      have h2 := wpOp_putIf hoj (hfree j oj hoj hji hjun hclash) (fun cs b => hsel i oi cs b hi) (fun cs b => hsel j oj cs b hoj) hQ hy h1
      have hfree' : ∀ k ok, ops[k]? = some ok → k ≠ i → (listed.setIfInBounds j true).getD k true = false →
          (∀ e ∈ ok.after, Region.binds .any e = true → e.on ≠ i) → oi.apart ops ok = true := fun k ok hk hki hun hno => by
        refine hfree k ok hk hki ?_ hno
        by_cases hjk : j = k
        · subst hjk; exact hjun
        · rw [getD_set_ne true hjk] at hun; exact hun
      refine wpOp_mono (fun a' w' h3 => ?_) h2
      have e : (listed.setIfInBounds i true).setIfInBounds j true = (listed.setIfInBounds j true).setIfInBounds i true := Array.setIfInBounds_comm _ _ (Ne.symm hji)
      have hS' : UpTo n S (listed.setIfInBounds j true) w' := up.2 (by rw [← e]; exact h3.2.1)
      refine ⟨hS', ih (listed.setIfInBounds j true) a' w' hS' hfree' (ready_mono hr (Ne.symm hji)) h3.1 ?_⟩
      rw [Array.setIfInBounds_comm _ _ hji]
      exact h3.2.2
variable {ops : List Oper}
theorem nth_ofU {i : Nat} {oi : Oper} (h : (ops.drop i).head? = some oi) : ops.toArray[i]? = some oi := by
  rw [List.getElem?_toArray, ← List.head?_drop]; exact h
def waitsFor (ops : List Oper) (n i : Nat) : Bool := match (ops.drop n).head? with | some o => o.after.any (fun e => Region.binds .any e && e.on == i) | none => false
theorem waitsFor_spec {i : Nat} (h : waitsFor ops n i = true) : ∃ on_, ops.toArray[n]? = some on_ ∧ ∃ e ∈ on_.after, Region.binds .any e = true ∧ e.on = i := by
  unfold waitsFor at h
  split at h
  · rename_i o ho
    obtain ⟨e, he, h2⟩ := Array.any_eq_true'.1 h
    simp only [Bool.and_eq_true, beq_iff_eq] at h2
    exact ⟨o, nth_ofU ho, e, he, h2.1, h2.2⟩
  · cases h
theorem UpTo.like {l l' : Array Bool} {w : World} (h : UpTo n S l w) (e : (l.getD n true == l'.getD n true) = true) : UpTo n S l' w := by
  have e' : l.getD n true = l'.getD n true := by simpa using e
  unfold UpTo at *
  rwa [← e']
theorem UpTo.holds {l : Array Bool} {w : World} (h : UpTo n S l w) (e : l.getD n true = false) : S w := by
  rcases h with h | h
  · rw [h] at e; cases e
  · exact h
/-- the beginning -/
theorem upto_begin (n : Nat) (S : World → Prop) {id : Nat} {a : Act} {w : World} (hm : P.follows .mixedOrders = true) (hS : S w.drew)
    (h : UpTo n S (Array.replicate ops.toArray.size false) w.drew → wpAnyU P ops.toArray Q S n ops.toArray.size (Array.replicate ops.toArray.size false) a w.drew) : (Code.region id ops.toArray true).wp P Q a w :=
  wp_region_any hm (wpAny_of_upto _ _ _ _ (h (Or.inr hS)))
/-- number i runs first: it looks at what S tells, number n waits for it -/
theorem upto_read (i : Nat) {oi : Oper} {v : Value} {fuel : Nat} {listed l0 : Array Bool} {a : Act} {w : World} (hS : UpTo n S l0 w) (hl : (l0.getD n true == listed.getD n true) = true) (hi : (ops.drop i).head? = some oi) (hw : waitsFor ops n i = true) (hnl : (listed.getD n true || n == i) = false)
    (hs : Region.noSelect ops.toArray = true) (hf : Region.free .any ops.toArray listed i = true) (hr : (Region.ready .any ops.toArray listed).contains i = true)
    (hQ : ∀ c a w, Q (.panic c) (a.put oi.dst v) w → Q (.panic c) a w) (hy : YieldsIf P ops.toArray S oi v a)
    (h : wpAnyU P ops.toArray Q S n fuel (listed.setIfInBounds i true) (a.put oi.dst v) w) : wpAnyU P ops.toArray Q S n (fuel + 1) listed a w := by
  obtain ⟨on_, h1, h2⟩ := waitsFor_spec hw
  rw [Bool.or_eq_false_iff] at hnl
  exact upto_first (nth_ofU hi) h1 h2 (by simpa using hnl.2) (Region.noSelect_spec hs) hQ fuel listed a w hnl.1 (Region.free_spec (nth_ofU hi) hf) (by simpa using hr) hy ((hS.like hl).holds hnl.1) h
/-- number i runs first: it looks at no memory; or it is skipped -/
theorem upto_run (i : Nat) {oi : Oper} {v : Value} {fuel : Nat} {listed l0 : Array Bool} {a : Act} {w : World} (hS : UpTo n S l0 w) (hl : (l0.getD n true == listed.getD n true) = true) (hi : (ops.drop i).head? = some oi) (hne : (n == i) = false)
    (hs : Region.noSelect ops.toArray = true) (hf : Region.free .any ops.toArray listed i = true) (hr : (Region.ready .any ops.toArray listed).contains i = true)
    (hQ : ∀ c a w, Q (.panic c) (a.put oi.dst v) w → Q (.panic c) a w) (hy : YieldsIf P ops.toArray (fun _ => True) oi v a)
    (h : wpAnyU P ops.toArray Q S n fuel (listed.setIfInBounds i true) (a.put oi.dst v) w) : wpAnyU P ops.toArray Q S n (fuel + 1) listed a w :=
  upto_any (nth_ofU hi) (by simpa using hne) (Region.noSelect_spec hs) hQ fuel listed a w (hS.like hl) (Region.free_spec (nth_ofU hi) hf) (by simpa using hr) hy h
/-- number i comes up next, alone -/
theorem upto_next (i : Nat) {o : Oper} {fuel : Nat} {listed : Array Bool} {a : Act} {w : World} (hi : (ops.drop i).head? = some o) (hr : Region.ready .any ops.toArray listed = [i])
    (h : ∀ K' : Act → World → Prop, Shut (∀ a w, UpTo n S (listed.setIfInBounds i true) w → (UpTo n S (listed.setIfInBounds i true) w → wpAnyU P ops.toArray Q S n fuel (listed.setIfInBounds i true) a w) → K' a w) → if Region.wanted o (yielded ops.toArray a.tmps) = true then Oper.wp P o a w K' Q else K' (a.put o.dst undef) w) :
    wpAnyU P ops.toArray Q S n (fuel + 1) listed a w :=
  ⟨fun h0 => (by rw [hr] at h0; cases h0), fun j hj => by
    rw [hr] at hj
    obtain rfl := List.mem_singleton.1 hj
    exact wpOp_step (nth_ofU hi) (fun K' hK => h K' (fun a w hS hW => hK a w ⟨hS, hW hS⟩))⟩
/-- number i or number j comes up next -/
theorem upto_two (i j : Nat) {o o2 : Oper} {fuel : Nat} {listed : Array Bool} {a : Act} {w : World} (hi : (ops.drop i).head? = some o) (hj : (ops.drop j).head? = some o2) (hr : Region.ready .any ops.toArray listed = [i, j])
    (h : ∀ K' : Act → World → Prop, Shut (∀ a w, UpTo n S (listed.setIfInBounds i true) w → (UpTo n S (listed.setIfInBounds i true) w → wpAnyU P ops.toArray Q S n fuel (listed.setIfInBounds i true) a w) → K' a w) → if Region.wanted o (yielded ops.toArray a.tmps) = true then Oper.wp P o a w K' Q else K' (a.put o.dst undef) w)
    (h2 : ∀ K' : Act → World → Prop, Shut (∀ a w, UpTo n S (listed.setIfInBounds j true) w → (UpTo n S (listed.setIfInBounds j true) w → wpAnyU P ops.toArray Q S n fuel (listed.setIfInBounds j true) a w) → K' a w) → if Region.wanted o2 (yielded ops.toArray a.tmps) = true then Oper.wp P o2 a w K' Q else K' (a.put o2.dst undef) w) :
    wpAnyU P ops.toArray Q S n (fuel + 1) listed a w :=
  ⟨fun h0 => (by rw [hr] at h0; cases h0), fun k hk => by
    rw [hr] at hk
    rcases List.mem_cons.1 hk with e | hk
    · subst e
      exact wpOp_step (nth_ofU hi) (fun K' hK => h K' (fun a w hS hW => hK a w ⟨hS, hW hS⟩))
    · obtain e := List.mem_singleton.1 hk
      subst e
      exact wpOp_step (nth_ofU hj) (fun K' hK => h2 K' (fun a w hS hW => hK a w ⟨hS, hW hS⟩))⟩
theorem upto_done {listed : Array Bool} {a : Act} {w : World} (hr : Region.ready .any ops.toArray listed = []) (h : Q .normal a w) : ∀ fuel, wpAnyU P ops.toArray Q S n fuel listed a w
  | 0 => ⟨hr, h⟩
  | _ + 1 => ⟨fun _ => h, by rw [hr]; simp⟩
end
end Go.Proofs.YtbogcompeefoaaaDoor
namespace Go.Proofs.YtbogcompeefoaaaDoor
def bitL (l : List Nat) (i : Nat) : Bool := (l.getD (i / 64) 0).testBit (i % 64)
def hasL (l : List Nat) (i : Int) : Bool := decide (0 ≤ i) && bitL l i.toNat
def maskL : Nat := 18446744073709551615
def putL (l : List Nat) (i : Int) : List Nat := if 0 ≤ i ∧ i.toNat / 64 < l.length then l.set (i.toNat / 64) (l.getD (i.toNat / 64) 0 ||| 2 ^ (i.toNat % 64)) else l
def outL (l : List Nat) (i : Int) : List Nat := if 0 ≤ i ∧ i.toNat / 64 < l.length then l.set (i.toNat / 64) (l.getD (i.toNat / 64) 0 &&& (maskL ^^^ 2 ^ (i.toNat % 64))) else l
/-- k words joined -/
def joinK (l o : List Nat) (k : Nat) : List Nat := (List.range l.length).map fun j => if j < k then l.getD j 0 ||| o.getD j 0 else l.getD j 0
def moreK (l o : List Nat) (k : Nat) : Bool := (List.range k).any fun j => decide (l.getD j 0 ||| o.getD j 0 ≠ l.getD j 0)
theorem getD_set (l : List Nat) (i j x : Nat) : (l.set i x).getD j 0 = if i = j ∧ j < l.length then x else l.getD j 0 := by
  simp only [List.getD_eq_getElem?_getD, List.getElem?_set]
  by_cases h : i = j
  · subst h
    by_cases h2 : i < l.length
    · simp [h2]
    · simp [h2]
  · simp [h]
theorem getD_out (l : List Nat) (j : Nat) (h : l.length ≤ j) : l.getD j 0 = 0 := by
  simp [List.getD_eq_getElem?_getD, List.getElem?_eq_none h]
theorem putL_length (l : List Nat) (i : Int) : (putL l i).length = l.length := by unfold putL; split <;> simp
theorem outL_length (l : List Nat) (i : Int) : (outL l i).length = l.length := by unfold outL; split <;> simp
theorem bit_put (l : List Nat) (i : Int) (k : Nat) : bitL (putL l i) k = (bitL l k || decide (i = (k : Int) ∧ k / 64 < l.length)) := by
  unfold putL bitL
  split
  · rename_i h
    rw [getD_set]
    by_cases hq : i.toNat / 64 = k / 64
    · rw [if_pos ⟨hq, by omega⟩, hq, Nat.testBit_or, Nat.testBit_two_pow]
      congr 1
      apply decide_eq_decide.2
      omega
    · rw [if_neg (by omega)]
      have : ¬ (i = (k : Int) ∧ k / 64 < l.length) := by omega
      simp [this]
  · rename_i h
    have : ¬ (i = (k : Int) ∧ k / 64 < l.length) := by omega
    simp [this]
theorem mask_bit (r j : Nat) (_hr : r < 64) (hj : j < 64) : (maskL ^^^ 2 ^ r).testBit j = !decide (r = j) := by
  rw [Nat.testBit_xor, Nat.testBit_two_pow]
  have : maskL.testBit j = true := by
    show (2 ^ 64 - 1).testBit j = true
    rw [Nat.testBit_two_pow_sub_one]; simpa using hj
  rw [this]; simp
theorem bit_out (l : List Nat) (i : Int) (k : Nat) : bitL (outL l i) k = (bitL l k && !decide (i = (k : Int))) := by
  unfold outL bitL
  split
  · rename_i h
    rw [getD_set]
    by_cases hq : i.toNat / 64 = k / 64
    · rw [if_pos ⟨hq, by omega⟩, hq, Nat.testBit_and, mask_bit _ _ (by omega) (by omega)]
      congr 2
      apply decide_eq_decide.2
      omega
    · rw [if_neg (by omega)]
      have : ¬ (i = (k : Int)) := by omega
      simp [this]
  · rename_i h
    by_cases hk : i = (k : Int)
    · rw [getD_out l _ (by omega)]; simp
    · simp [hk]
theorem joinK_length (l o : List Nat) (k : Nat) : (joinK l o k).length = l.length := by simp [joinK]
theorem joinK_at (l o : List Nat) (k j : Nat) : (joinK l o k).getD j 0 = if j < l.length ∧ j < k then l.getD j 0 ||| o.getD j 0 else l.getD j 0 := by
  unfold joinK
  by_cases h : j < l.length
  · simp [List.getD_eq_getElem?_getD, h]
  · have h1 := getD_out l j (by omega)
    have h2 : (List.map (fun j => if j < k then l.getD j 0 ||| o.getD j 0 else l.getD j 0) (List.range l.length)).getD j 0 = 0 := getD_out _ _ (by simpa using Nat.le_of_not_lt h)
    rw [h2, if_neg (by omega), h1]
theorem list_getD_ext {l m : List Nat} (hl : l.length = m.length) (h : ∀ j, l.getD j 0 = m.getD j 0) : l = m := by
  apply List.ext_getElem hl
  intro j h1 h2
  have := h j
  simpa [List.getD_eq_getElem?_getD, h1, h2] using this
theorem joinK_zero (l o : List Nat) : joinK l o 0 = l := list_getD_ext (joinK_length _ _ _) fun j => by rw [joinK_at, if_neg (by omega)]
theorem joinK_succ (l o : List Nat) (k : Nat) (hk : k < l.length) : joinK l o (k + 1) = (joinK l o k).set k (l.getD k 0 ||| o.getD k 0) := by
  refine list_getD_ext (by simp [joinK_length]) fun j => ?_
  rw [getD_set, joinK_at, joinK_at, joinK_length]
  by_cases h : k = j
  · subst h; rw [if_pos ⟨hk, by omega⟩, if_pos ⟨rfl, hk⟩]
  · rw [if_neg (c := k = j ∧ j < l.length) (by omega)]
    by_cases h2 : j < l.length ∧ j < k + 1
    · rw [if_pos h2, if_pos (by omega)]
    · rw [if_neg h2, if_neg (by omega)]
theorem joinK_same (l o : List Nat) (k : Nat) (hk : k < l.length) (h : l.getD k 0 ||| o.getD k 0 = l.getD k 0) : joinK l o (k + 1) = joinK l o k :=
  list_getD_ext (by simp [joinK_length]) fun j => by
    rw [joinK_at, joinK_at]
    by_cases e : j = k
    · subst e; rw [if_pos ⟨hk, by omega⟩, if_neg (by omega), h]
    · by_cases h2 : j < l.length ∧ j < k
      · rw [if_pos (by omega), if_pos h2]
      · rw [if_neg (by omega), if_neg h2]
theorem moreK_succ (l o : List Nat) (k : Nat) : moreK l o (k + 1) = (moreK l o k || decide (l.getD k 0 ||| o.getD k 0 ≠ l.getD k 0)) := by
  simp [moreK, List.range_succ]
theorem joinK_end (l o : List Nat) (k : Nat) (hk : k = min l.length o.length) : joinK l o k = joinK l o l.length :=
  list_getD_ext (by simp [joinK_length]) fun j => by
    rw [joinK_at, joinK_at]
    by_cases h1 : j < l.length
    · by_cases h2 : j < k
      · rw [if_pos ⟨h1, h2⟩, if_pos ⟨h1, h1⟩]
      · rw [if_neg (by omega), if_pos ⟨h1, h1⟩, getD_out o j (by omega), Nat.or_zero]
    · rw [if_neg (by omega), if_neg (by omega)]
theorem bit_join (l o : List Nat) (k i : Nat) (hk : k = min l.length o.length) : bitL (joinK l o k) i = (bitL l i || (decide (i / 64 < l.length) && bitL o i)) := by
  rw [joinK_end l o k hk]
  unfold bitL
  rw [joinK_at]
  by_cases h : i / 64 < l.length
  · rw [if_pos ⟨h, h⟩, Nat.testBit_or]; simp [h]
  · rw [if_neg (by omega)]; simp [h]
theorem or_ne_iff (a b : Nat) (_ha : a < 2 ^ 64) (hb : b < 2 ^ 64) : (a ||| b ≠ a) ↔ ∃ r, r < 64 ∧ b.testBit r = true ∧ a.testBit r = false := by
  constructor
  · intro h
    apply Classical.byContradiction
    intro hn
    apply h
    apply Nat.eq_of_testBit_eq
    intro r
    rw [Nat.testBit_or]
    by_cases hr : r < 64
    · cases hb2 : b.testBit r with
      | false => simp
      | true =>
        cases ha2 : a.testBit r with
        | true => rfl
        | false => exact absurd ⟨r, hr, hb2, ha2⟩ hn
    · have : b.testBit r = false := Nat.testBit_lt_two_pow (Nat.lt_of_lt_of_le hb (Nat.pow_le_pow_right (by decide) (by omega)))
      rw [this]; simp
  · rintro ⟨r, _, h1, h2⟩ e
    have := congrArg (fun x => Nat.testBit x r) e
    simp [Nat.testBit_or, h1, h2] at this
theorem moreK_iff (l o : List Nat) (k : Nat) (hl : ∀ x ∈ l, x < 2 ^ 64) (ho : ∀ x ∈ o, x < 2 ^ 64) (hk : k = min l.length o.length) :
    moreK l o k = true ↔ ∃ i, i / 64 < l.length ∧ bitL o i = true ∧ bitL l i = false := by
  have gl : ∀ (m : List Nat), (∀ x ∈ m, x < 2 ^ 64) → ∀ j, m.getD j 0 < 2 ^ 64 := by
    intro m hm j
    rw [List.getD_eq_getElem?_getD]
    cases h : m[j]? with
    | none => simp
    | some x => simpa using hm x (List.mem_of_getElem? h)
  unfold moreK
  simp only [List.any_eq_true, List.mem_range, decide_eq_true_eq]
  constructor
  · rintro ⟨j, hj, hne⟩
    obtain ⟨r, hr, h1, h2⟩ := (or_ne_iff _ _ (gl l hl j) (gl o ho j)).1 hne
    refine ⟨64 * j + r, by omega, ?_, ?_⟩
    · unfold bitL; rw [show (64 * j + r) / 64 = j by omega, show (64 * j + r) % 64 = r by omega]; exact h1
    · unfold bitL; rw [show (64 * j + r) / 64 = j by omega, show (64 * j + r) % 64 = r by omega]; exact h2
  · rintro ⟨i, hi, h1, h2⟩
    unfold bitL at h1 h2
    have hio : i / 64 < o.length := by
      apply Classical.byContradiction
      intro h
      rw [getD_out o _ (by omega)] at h1
      simp at h1
    exact ⟨i / 64, by omega, (or_ne_iff _ _ (gl l hl _) (gl o ho _)).2 ⟨i % 64, by omega, h1, h2⟩⟩
theorem bitL_out (l : List Nat) (i : Nat) (h : l.length ≤ i / 64) : bitL l i = false := by
  unfold bitL; rw [getD_out l _ h]; simp
theorem bitL_zero (n i : Nat) : bitL (List.replicate n 0) i = false := by
  unfold bitL
  rw [List.getD_eq_getElem?_getD]
  by_cases h : i / 64 < n
  · simp [h]
  · simp [h]
theorem or_lt64 {a r : Nat} (ha : a < 2 ^ 64) (hr : r < 64) : a ||| 2 ^ r < 2 ^ 64 := Nat.or_lt_two_pow ha (Nat.pow_lt_pow_right (by decide) hr)
end Go.Proofs.YtbogcompeefoaaaDoor
namespace Go.Proofs.YtbogcompeefoaaaDoor
/-- so many of the first n meet p -/
def cnt (p : Nat → Bool) : Nat → Nat
  | 0 => 0
  | n + 1 => cnt p n + (if p n then 1 else 0)
theorem cnt_le (p : Nat → Bool) : ∀ n, cnt p n ≤ n
  | 0 => Nat.le_refl _
  | n + 1 => by have := cnt_le p n; unfold cnt; split <;> omega
theorem cnt_mono {p q : Nat → Bool} : ∀ n, (∀ i, i < n → p i = true → q i = true) → cnt p n ≤ cnt q n
  | 0, _ => Nat.le_refl _
  | n + 1, h => by
    have h1 := cnt_mono n (fun i hi => h i (by omega))
    have h2 := h n (by omega)
    unfold cnt
    by_cases e : p n = true
    · rw [if_pos e, if_pos (h2 e)]; omega
    · rw [if_neg e]; split <;> omega
theorem cnt_lt {p q : Nat → Bool} : ∀ n, (∀ i, i < n → p i = true → q i = true) → (∃ i, i < n ∧ q i = true ∧ p i = false) → cnt p n < cnt q n
  | 0, _, h => by obtain ⟨i, h, _⟩ := h; omega
  | n + 1, h, hx => by
    obtain ⟨i, h1, h2, h3⟩ := hx
    have hm := cnt_mono n (fun i hi => h i (by omega))
    have hn := h n (by omega)
    unfold cnt
    by_cases e : i = n
    · subst e
      rw [h2, h3]; simp; omega
    · have hl := cnt_lt n (fun i hi => h i (by omega)) ⟨i, by omega, h2, h3⟩
      by_cases e : p n = true
      · rw [if_pos e, if_pos (hn e)]; omega
      · rw [if_neg e]; split <;> omega
theorem cnt_set {p : Nat → Bool} {k n : Nat} (hk : k < n) (hp : p k = false) : cnt p n < cnt (fun i => p i || decide (i = k)) n :=
  cnt_lt n (fun i _ h => by simp [h]) ⟨k, hk, by simp, hp⟩
/-- ways -/
inductive Way (nx : Nat → List Int) : Nat → Prop
  | start : Way nx 0
  | step {i k : Nat} : Way nx i → (k : Int) ∈ nx i → Way nx k
/-- ways of t steps at most -/
def WayIn (nx : Nat → List Int) : Nat → Nat → Prop
  | 0, k => k = 0
  | t + 1, k => WayIn nx t k ∨ ∃ i, WayIn nx t i ∧ (k : Int) ∈ nx i
theorem WayIn.way {nx : Nat → List Int} : ∀ {t k : Nat}, WayIn nx t k → Way nx k
  | 0, k, h => by cases (show k = 0 from h); exact .start
  | t + 1, k, h => by
    rcases h with h | ⟨i, h, hk⟩
    · exact h.way
    · exact .step h.way hk
theorem WayIn.zero {nx : Nat → List Int} : ∀ t, WayIn nx t 0
  | 0 => rfl
  | t + 1 => Or.inl (WayIn.zero t)
open Classical in
noncomputable def wayB (nx : Nat → List Int) (t k : Nat) : Bool := decide (WayIn nx t k)
theorem wayIn_closed {nx : Nat → List Int} {t : Nat} (h : ∀ k, WayIn nx (t + 1) k → WayIn nx t k) : ∀ {k : Nat}, Way nx k → WayIn nx t k := by
  intro k hw
  induction hw with
  | start => exact WayIn.zero t
  | step _ hk ih => exact h _ (Or.inr ⟨_, ih, hk⟩)
theorem wayIn_all {nx : Nat → List Int} {n : Nat} (hn : 0 < n) (hnx : ∀ i k, i < n → k ∈ nx i → 0 ≤ k ∧ k < n) : ∀ {k : Nat}, Way nx k → WayIn nx n k := by
  have hlt : ∀ t k, WayIn nx t k → k < n := by
    intro t
    induction t with
    | zero => intro k h; cases (show k = 0 from h); exact hn
    | succ t ih =>
      intro k h
      rcases h with h | ⟨i, h, hk⟩
      · exact ih k h
      · have := hnx i k (ih i h) hk; omega
  have key : ∀ t, t + 1 ≤ cnt (wayB nx t) n ∨ ∃ s, s ≤ t ∧ ∀ k, WayIn nx (s + 1) k → WayIn nx s k := by
    intro t
    induction t with
    | zero =>
      refine Or.inl ?_
      have : cnt (fun _ => false) n < cnt (wayB nx 0) n := cnt_lt n (fun _ _ h => by cases h) ⟨0, hn, by simp [wayB, WayIn], rfl⟩
      omega
    | succ t ih =>
      rcases ih with h | ⟨s, hs, h⟩
      · by_cases hc : ∀ k, WayIn nx (t + 1) k → WayIn nx t k
        · exact Or.inr ⟨t, by omega, hc⟩
        · refine Or.inl ?_
          have ⟨k, h1⟩ := Classical.not_forall.1 hc
          have ⟨h1, h2⟩ := Classical.not_imp.1 h1
          have : cnt (wayB nx t) n < cnt (wayB nx (t + 1)) n := cnt_lt n (fun i _ h => by
            simp only [wayB, decide_eq_true_eq] at h ⊢; exact Or.inl h) ⟨k, hlt _ _ h1, by simp only [wayB, decide_eq_true_eq]; exact h1, by simp only [wayB, decide_eq_false_iff_not]; exact h2⟩
          omega
      · exact Or.inr ⟨s, by omega, h⟩
  have mono : ∀ s t k, s ≤ t → WayIn nx s k → WayIn nx t k := by
    intro s t k hst h
    induction hst with
    | refl => exact h
    | step _ ih => exact Or.inl ih
  intro k hw
  rcases key n with h | ⟨s, hs, h⟩
  · have := cnt_le (wayB nx n) n; omega
  · exact mono s n k hs (wayIn_closed h hw)
/-! ### Reached: what is left to do -/
/-- S: seen; work: what is left to be gone on from -/
structure Seen (nx : Nat → List Int) (n : Nat) (S : Nat → Bool) (work : List Int) : Prop where
  zero : S 0 = true
  todo : ∀ x ∈ work, 0 ≤ x ∧ x < n ∧ S x.toNat = true
  way : ∀ x, S x = true → x < n ∧ Way nx x
  closed : ∀ x, S x = true → (x : Int) ∉ work → ∀ k ∈ nx x, S k.toNat = true
theorem Seen.done {nx : Nat → List Int} {n : Nat} {S : Nat → Bool} (h : Seen nx n S []) (hnx : ∀ i k, i < n → k ∈ nx i → 0 ≤ k ∧ k < n) (x : Nat) : S x = true ↔ Way nx x := by
  refine ⟨fun e => (h.way x e).2, fun hw => ?_⟩
  induction hw with
  | start => exact h.zero
  | step _ hk ih => exact h.closed _ ih (by simp) _ hk
/-- x was taken; the first ones that follow it are seen -/
structure Seeing (nx : Nat → List Int) (n x j : Nat) (S : Nat → Bool) (work : List Int) : Prop where
  zero : S 0 = true
  todo : ∀ x ∈ work, 0 ≤ x ∧ x < n ∧ S x.toNat = true
  way : ∀ x, S x = true → x < n ∧ Way nx x
  here : x < n ∧ S x = true
  closed : ∀ y, S y = true → y ≠ x → (y : Int) ∉ work → ∀ k ∈ nx y, S k.toNat = true
  some_ : ∀ k ∈ (nx x).take j, S k.toNat = true
theorem Seen.take {nx : Nat → List Int} {n : Nat} {S : Nat → Bool} {l : List Int} {x : Int} (h : Seen nx n S (l ++ [x])) : ∃ q : Nat, x = q ∧ q < n ∧ Seeing nx n q 0 S l := by
  obtain ⟨h1, h2, h3⟩ := h.todo x (by simp)
  refine ⟨x.toNat, by omega, by omega, h.zero, fun y hy => h.todo y (by simp [hy]), h.way, ⟨by omega, h3⟩, fun y hy hne hno => h.closed y hy ?_, by simp⟩
  rw [List.mem_append, not_or]
  refine ⟨hno, ?_⟩
  simp only [List.mem_singleton]
  omega
theorem Seeing.end_ {nx : Nat → List Int} {n x j : Nat} {S : Nat → Bool} {l : List Int} (h : Seeing nx n x j S l) (hj : (nx x).length ≤ j) : Seen nx n S l :=
  ⟨h.zero, h.todo, h.way, fun y hy hno => by
    by_cases e : y = x
    · subst e; have := h.some_; rwa [List.take_of_length_le hj] at this
    · exact h.closed y hy e hno⟩
theorem take_mem {l : List Int} {j : Nat} {k y : Int} (h : l[j]? = some k) (hy : y ∈ l.take (j + 1)) : y ∈ l.take j ∨ y = k := by
  rw [List.take_add_one, h] at hy
  simpa using hy
theorem Seeing.skip {nx : Nat → List Int} {n x j : Nat} {S : Nat → Bool} {l : List Int} {k : Int} (h : Seeing nx n x j S l) (hk : (nx x)[j]? = some k) (hs : S k.toNat = true) : Seeing nx n x (j + 1) S l :=
  ⟨h.zero, h.todo, h.way, h.here, h.closed, fun y hy => by
    rcases take_mem hk hy with hy | rfl
    · exact h.some_ y hy
    · exact hs⟩
theorem Seeing.add {nx : Nat → List Int} {n x j k : Nat} {S : Nat → Bool} {l : List Int} (h : Seeing nx n x j S l) (hk : (nx x)[j]? = some (k : Int)) (hn : k < n) (hs : S k = false) :
    Seeing nx n x (j + 1) (fun i => S i || decide (i = k)) (l ++ [(k : Int)]) :=
  ⟨by simp [h.zero], fun y hy => by
    rcases List.mem_append.1 hy with hy | hy
    · have := h.todo y hy
      exact ⟨this.1, this.2.1, by simp [this.2.2]⟩
    · obtain rfl := List.mem_singleton.1 hy
      exact ⟨by omega, by omega, by simp⟩, fun y hy => by
    rcases Bool.or_eq_true_iff.1 hy with hy | hy
    · exact h.way y hy
    · obtain rfl := of_decide_eq_true hy
      exact ⟨hn, .step (h.way x h.here.2).2 (List.mem_of_getElem? hk)⟩, ⟨h.here.1, by simp [h.here.2]⟩, fun y hy hne hno z hz => by
    rw [List.mem_append, not_or] at hno
    rcases Bool.or_eq_true_iff.1 hy with hy | hy
    · simp [h.closed y hy hne hno.1 z hz]
    · obtain rfl := of_decide_eq_true hy
      exact absurd (List.mem_singleton.2 rfl) hno.2, fun y hy => by
    rcases take_mem hk hy with hy | rfl
    · simp [h.some_ y hy]
    · simp⟩
end Go.Proofs.YtbogcompeefoaaaDoor
