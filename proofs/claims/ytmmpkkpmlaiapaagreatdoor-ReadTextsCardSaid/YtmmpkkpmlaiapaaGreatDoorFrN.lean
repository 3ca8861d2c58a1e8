/- A region that draws its order: operations that read, calls that only make memory, and operations that make new blocks, in any order; a forced tail. Over any program. No condition. -/
import Derived.Test.YtmmpkkpmlaiapaaGreatDoorLib
namespace Go.Proofs.YtmmpkkpmlaiapaaGreatDoor
open Go.RowKit
set_option linter.unusedVariables false
def Stable (T : World → Prop) : Prop := ∀ x x', T x → Below x.heap.size x x' → T x'
structure ExtF (w : World) (T : World → Prop) where
  x : World
  below : Below w.heap.size w x
  t : T x
@[go_sem] theorem ExtF.cell {w : World} {T : World → Prop} (e : ExtF w T) {b o : Nat} (h : b < w.heap.size) : e.x.cell? ⟨b, o, none⟩ = w.cell? ⟨b, o, none⟩ := e.below.cell (p := ⟨b, o, none⟩) h
@[go_sem] theorem ExtF.frozen {w : World} {T : World → Prop} (e : ExtF w T) {b o : Nat} (h : b < w.heap.size) : e.x.frozen? ⟨b, o, none⟩ = w.frozen? ⟨b, o, none⟩ := e.below.frozen (p := ⟨b, o, none⟩) h
def Cls (w : World) (T : World → Prop) (x : World) : Prop := ∃ e : ExtF w T, x = e.x
theorem Cls.mk {w x : World} {T : World → Prop} (h : Below w.heap.size w x) (t : T x) : Cls w T x := ⟨⟨x, h, t⟩, rfl⟩
theorem Cls.grow {w x x' : World} {T : World → Prop} (hT : Stable T) (h : Cls w T x) (hb : Below x.heap.size x x') : Cls w T x' := by
  obtain ⟨e, rfl⟩ := h
  exact Cls.mk (e.below.trans (hb.mono e.below.size)) (hT _ _ e.t hb)
theorem calls_ext {P : Program} {f : FuncId} {args : Array Value} {w : World} {T : World → Prop} (hT : Stable T) (e : ExtF w T) {v : Value}
    (h : Calls P f args e.x fun en w' => en = .returned v ∧ Below e.x.heap.size e.x w') : Calls P f args e.x fun en w' => en = .returned v ∧ ∃ e' : ExtF w T, w' = e'.x :=
  h.mono fun _ w' ⟨he, hb⟩ => ⟨he, Cls.grow hT ⟨e, rfl⟩ hb⟩
section
variable {P : Program} {ops : Array Oper} {md : Region.Mode} {w : World}
def YM (P : Program) (ops : Array Oper) (w : World) (o : Oper) (v : Value) (a : Act) : Prop := ∀ T, Stable T → YieldsIn P ops (Cls w T) o v a
def KS (S : Nat → Option Obj) (x : World) : Prop := ∀ b obj, S b = some obj → x.heap[b]? = some obj
def upd1 (S : Nat → Option Obj) (b : Nat) (obj : Obj) : Nat → Option Obj := fun k => if k = b then some obj else S k
theorem upd1_comm (S : Nat → Option Obj) {b c : Nat} (h : b ≠ c) (x y : Obj) : upd1 (upd1 S b x) c y = upd1 (upd1 S c y) b x := by
  funext k; unfold upd1
  by_cases h1 : k = c
  · subst h1; simp; intro e; exact absurd e.symm h
  · simp [h1]
theorem KS.stable (S : Nat → Option Obj) : Stable (KS S) := fun x x' h hb b obj hs => by
  have := h b obj hs
  rw [hb.block b (blk_lt this)]; exact this
abbrev Makers := Nat → Option (Obj × (Nat → Value))
def Makes (P : Program) (ops : Array Oper) (al : Makers) : Prop :=
  ∀ i obj mk, al i = some (obj, mk) → ∃ o, ops[i]? = some o ∧ o.guard = none ∧ ∀ (a : Act) (x : World), (execOp a.eval o).run P x = .ok (.value (mk x.heap.size)) (x.alloc obj)
def Gm (P : Program) (md : Region.Mode) (ops : Array Oper) (w : World) (al : Makers) (n : Nat) (L : Array Bool → Act → (Nat → Option Obj) → Prop) : Nat → Array Bool → Act → (Nat → Option Obj) → Prop
  | 0, listed, a, S => L listed a S
  | f + 1, listed, a, S => Region.ready md ops listed ≠ [] ∧ ∀ i ∈ Region.ready md ops listed, i < n ∧ ∃ o, ops[i]? = some o ∧
      match al i with
      | some (obj, mk) => ∀ b, w.heap.size ≤ b → S b = none → Gm P md ops w al n L f (listed.setIfInBounds i true) (a.put o.dst (mk b)) (upd1 S b obj)
      | none => ∃ v, YM P ops w o v a ∧ Gm P md ops w al n L f (listed.setIfInBounds i true) (a.put o.dst v) S
theorem Gm.sound {al : Makers} (hal : Makes P ops al) {n g : Nat} {L : Array Bool → Act → (Nat → Option Obj) → Prop} {Q' : Exit → Act → World → Prop}
    (hL : ∀ listed a S x, Below w.heap.size w x → KS S x → L listed a S → wpAny P md ops Q' g listed a x) :
    ∀ (f : Nat) (listed : Array Bool) (a : Act) (S : Nat → Option Obj) (x : World), Below w.heap.size w x → KS S x → Gm P md ops w al n L f listed a S → wpAny P md ops Q' (f + g) listed a x
  | 0, listed, a, S, x, hx, hs, h => by rw [Nat.zero_add]; exact hL _ _ _ _ hx hs h
  | f + 1, listed, a, S, x, hx, hs, h => by
    rw [show f + 1 + g = (f + g) + 1 by omega]
    refine ⟨fun h0 => absurd h0 h.1, fun i hi => ?_⟩
    obtain ⟨_, o, ho, hm⟩ := h.2 i hi
    cases hai : al i with
    | some p =>
      obtain ⟨obj, mk⟩ := p
      rw [hai] at hm
      obtain ⟨o', ho', hg, hrun⟩ := hal i obj mk hai
      have : o' = o := Option.some.inj (ho'.symm.trans ho)
      subst this
      have hw : Region.wanted o' (yielded ops a.tmps) = true := by simp [Region.wanted, hg]
      unfold wpOp
      rw [ho]
      simp only [hw, if_true]
      refine Or.inl ?_
      unfold Oper.wp
      rw [hrun a x]
      refine Gm.sound hal hL f _ _ _ _ (hx.alloc hx.size obj) ?_ (hm x.heap.size hx.size ?_)
      · intro b ob hb
        unfold upd1 at hb
        by_cases hbx : b = x.heap.size
        · subst hbx; rw [if_pos rfl] at hb; rw [← hb]; exact blk_new x obj
        · rw [if_neg hbx] at hb; exact blk_alloc (hs b ob hb) obj
      · cases hsx : S x.heap.size with
        | none => rfl
        | some ob => have := blk_lt (hs _ _ hsx); omega
    | none =>
      rw [hai] at hm
      obtain ⟨v, hy, hG⟩ := hm
      refine wpOp_of_qOp (C := Cls w (KS S)) (Cls.mk hx hs) (K := fun a' => Gm P md ops w al n L f (listed.setIfInBounds i true) a' S) (fun a' w' hw' h' => ?_) ((hy (KS S) (KS.stable S)).qOp ho hG)
      obtain ⟨e, rfl⟩ := hw'
      exact Gm.sound hal hL f _ a' S e.x e.below e.t h'
theorem YM.of_put {oi oj : Oper} {v u : Value} {a : Act} (hap : oi.apart ops oj = true) (hsi : ∀ cs b, oi.op ≠ .select cs b) (hy : YM P ops w oi v a) : YM P ops w oi v (a.put oj.dst u) := fun T hT => by
  obtain ⟨h1, h2, h3⟩ := Oper.apart_spec hap
  exact (hy T hT).of_same (execOp_put oi hsi a oj.dst u h3) (wanted_put oi a oj.dst u h3)
theorem YM.put_of {oi oj : Oper} {v u : Value} {a : Act} (hap : oi.apart ops oj = true) (hsj : ∀ cs b, oj.op ≠ .select cs b) (hy : YM P ops w oj u (a.put oi.dst v)) : YM P ops w oj u a := fun T hT => by
  obtain ⟨h1, h2, h3⟩ := Oper.apart_spec hap
  exact (hy T hT).of_same (execOp_put oj hsj a oi.dst v h1).symm (wanted_put oj a oi.dst v h1).symm
theorem listed_next {i j : Nat} {oi : Oper} {listed : Array Bool} (hfree : ∀ k ok, ops[k]? = some ok → k ≠ i → listed.getD k true = false → (∀ e ∈ ok.after, Region.binds md e = true → e.on ≠ i) → oi.apart ops ok = true)
    (hjun : listed.getD j true = false) : ∀ k ok, ops[k]? = some ok → k ≠ i → (listed.setIfInBounds j true).getD k true = false → (∀ e ∈ ok.after, Region.binds md e = true → e.on ≠ i) → oi.apart ops ok = true := fun k ok hk hki hun hno => by
  refine hfree k ok hk hki ?_ hno
  by_cases hjk : j = k
  · subst hjk; exact hjun
  · rw [getD_set_ne true hjk] at hun; exact hun
theorem no_wait {i : Nat} {oj : Oper} {listed : Array Bool} (hr : i ∈ Region.ready md ops listed) (hall : ∀ e ∈ oj.after, Region.binds md e = true → listed.getD e.on false = true) : ∀ e ∈ oj.after, Region.binds md e = true → e.on ≠ i := fun e he hb heq => by
  have h1 := hall e he hb
  rw [heq, getD_both (mem_ready.1 hr).1] at h1
  cases h1
theorem Gm.quiet_first {al : Makers} {n i : Nat} {oi : Oper} {v : Value} {L : Array Bool → Act → (Nat → Option Obj) → Prop} (hi : ops[i]? = some oi) (hai : al i = none) (hsel : ∀ (j : Nat) (o : Oper) cs b, ops[j]? = some o → o.op ≠ .select cs b)
    (hs : Region.sinkB md ops n = true) (hc : Region.chainB md ops n = true) (hn : n < ops.size) (hin : i < n) (hdone : ∀ listed a S, L listed a S → ∀ j ∈ Region.ready md ops listed, n ≤ j) :
    ∀ (f : Nat) (listed : Array Bool) (a : Act) (S : Nat → Option Obj), HeadInv md ops n listed →
      (∀ j oj, ops[j]? = some oj → j ≠ i → listed.getD j true = false → (∀ e ∈ oj.after, Region.binds md e = true → e.on ≠ i) → oi.apart ops oj = true) →
      i ∈ Region.ready md ops listed → YM P ops w oi v a → Gm P md ops w al n L f (listed.setIfInBounds i true) (a.put oi.dst v) S → Gm P md ops w al n L (f + 1) listed a S := by
  intro f
  induction f with
  | zero =>
    intro listed a S inv _ hr hy H
    have hun := (mem_ready.1 hr).1
    refine ⟨fun h => (by rw [h] at hr; cases hr), fun j hj => ?_⟩
    have hjn : j < n := by
      rcases Nat.lt_or_ge j n with h | h
      · exact h
      · exact absurd hj (tail_waits hs hc hn inv _ i rfl hin hun j h)
    by_cases hji : j = i
    · subst hji; refine ⟨hjn, oi, hi, ?_⟩; rw [hai]; exact ⟨v, hy, H⟩
    · have := hdone _ _ _ H j (ready_mono hj hji); omega
  | succ f ih =>
    intro listed a S inv hfree hr hy H
    have hun := (mem_ready.1 hr).1
    refine ⟨fun h => (by rw [h] at hr; cases hr), fun j hj => ?_⟩
    have hjn : j < n := by
      rcases Nat.lt_or_ge j n with h | h
      · exact h
      · exact absurd hj (tail_waits hs hc hn inv _ i rfl hin hun j h)
    by_cases hji : j = i
    · subst hji; refine ⟨hjn, oi, hi, ?_⟩; rw [hai]; exact ⟨v, hy, H⟩
    · obtain ⟨_, oj', hoj', hm⟩ := H.2 j (ready_mono hj hji)
      obtain ⟨hjun, oj, hoj, hall⟩ := mem_ready.1 hj
      have : oj' = oj := Option.some.inj (hoj'.symm.trans hoj)
      subst this
      have hap := hfree j oj' hoj hji hjun (no_wait hr hall)
      obtain ⟨h1, h2, h3⟩ := Oper.apart_spec hap
      refine ⟨hjn, oj', hoj, ?_⟩
      cases haj : al j with
      | some p =>
        obtain ⟨obj, mk⟩ := p
        rw [haj] at hm
        intro b hb hsb
        refine ih (listed.setIfInBounds j true) _ _ (inv.set hj hjn) (listed_next hfree hjun) (ready_mono hr (Ne.symm hji)) (hy.of_put hap (fun cs b => hsel i oi cs b hi)) ?_
        have := hm b hb hsb
        rw [Array.setIfInBounds_comm _ _ hji, ← Act.put_comm a v (mk b) h2]
        exact this
      | none =>
        rw [haj] at hm
        obtain ⟨u, hu, hG⟩ := hm
        refine ⟨u, hu.put_of hap (fun cs b => hsel j oj' cs b hoj), ih (listed.setIfInBounds j true) _ _ (inv.set hj hjn) (listed_next hfree hjun) (ready_mono hr (Ne.symm hji)) (hy.of_put hap (fun cs b => hsel i oi cs b hi)) ?_⟩
        rw [Array.setIfInBounds_comm _ _ hji, ← Act.put_comm a v u h2]
        exact hG
theorem Gm.make_first {al : Makers} {n i : Nat} {oi : Oper} {obj : Obj} {mk : Nat → Value} {L : Array Bool → Act → (Nat → Option Obj) → Prop} (hi : ops[i]? = some oi) (hai : al i = some (obj, mk))
    (hs : Region.sinkB md ops n = true) (hc : Region.chainB md ops n = true) (hn : n < ops.size) (hin : i < n) (hdone : ∀ listed a S, L listed a S → ∀ j ∈ Region.ready md ops listed, n ≤ j) :
    ∀ (f : Nat) (listed : Array Bool) (a : Act) (S : Nat → Option Obj), HeadInv md ops n listed →
      (∀ j oj, ops[j]? = some oj → j ≠ i → listed.getD j true = false → (∀ e ∈ oj.after, Region.binds md e = true → e.on ≠ i) → oi.apart ops oj = true) →
      (∀ j oj, ops[j]? = some oj → j < n → j ≠ i → listed.getD j true = false → (∀ e ∈ oj.after, Region.binds md e = true → e.on ≠ i) → (al j).isSome = true) →
      i ∈ Region.ready md ops listed → (∃ N, ∀ b, N ≤ b → S b = none) → (∀ b, w.heap.size ≤ b → S b = none → Gm P md ops w al n L f (listed.setIfInBounds i true) (a.put oi.dst (mk b)) (upd1 S b obj)) → Gm P md ops w al n L (f + 1) listed a S := by
  intro f
  induction f with
  | zero =>
    intro listed a S inv _ _ hr hS H
    have hun := (mem_ready.1 hr).1
    refine ⟨fun h => (by rw [h] at hr; cases hr), fun j hj => ?_⟩
    have hjn : j < n := by
      rcases Nat.lt_or_ge j n with h | h
      · exact h
      · exact absurd hj (tail_waits hs hc hn inv _ i rfl hin hun j h)
    by_cases hji : j = i
    · subst hji; refine ⟨hjn, oi, hi, ?_⟩; rw [hai]; exact H
    · obtain ⟨hjun, oj, hoj, hall⟩ := mem_ready.1 hj
      obtain ⟨N, hN⟩ := hS
      have := hdone _ _ _ (H (max N w.heap.size) (Nat.le_max_right _ _) (hN _ (Nat.le_max_left _ _))) j (ready_mono hj hji)
      omega
  | succ f ih =>
    intro listed a S inv hfree hmk hr hS H
    have hun := (mem_ready.1 hr).1
    refine ⟨fun h => (by rw [h] at hr; cases hr), fun j hj => ?_⟩
    have hjn : j < n := by
      rcases Nat.lt_or_ge j n with h | h
      · exact h
      · exact absurd hj (tail_waits hs hc hn inv _ i rfl hin hun j h)
    by_cases hji : j = i
    · subst hji; refine ⟨hjn, oi, hi, ?_⟩; rw [hai]; exact H
    · obtain ⟨hjun, oj, hoj, hall⟩ := mem_ready.1 hj
      have hap := hfree j oj hoj hji hjun (no_wait hr hall)
      obtain ⟨h1, h2, h3⟩ := Oper.apart_spec hap
      refine ⟨hjn, oj, hoj, ?_⟩
      have hsm := hmk j oj hoj hjn hji hjun (no_wait hr hall)
      cases haj : al j with
      | none => rw [haj] at hsm; cases hsm
      | some p =>
        obtain ⟨obj', mk'⟩ := p
        intro b' hb' hsb'
        refine ih (listed.setIfInBounds j true) _ _ (inv.set hj hjn) (listed_next hfree hjun) (fun k ok hk hkn hki hun hno => ?_) (ready_mono hr (Ne.symm hji)) ?_ (fun b hb hsb => ?_)
        · refine hmk k ok hk hkn hki ?_ hno
          by_cases hjk : j = k
          · subst hjk; exact hjun
          · rw [getD_set_ne true hjk] at hun; exact hun
        · obtain ⟨N, hN⟩ := hS
          refine ⟨max N (b' + 1), fun b hb => ?_⟩
          unfold upd1
          rw [if_neg (by omega), hN b (by omega)]
        · have hne : b ≠ b' := by rintro rfl; simp [upd1] at hsb
          have hsb2 : S b = none := by simpa [upd1, hne] using hsb
          obtain ⟨_, oj', hoj', hm⟩ := (H b hb hsb2).2 j (ready_mono hj hji)
          have : oj' = oj := Option.some.inj (hoj'.symm.trans hoj)
          subst this
          rw [haj] at hm
          have := hm b' hb' (by simp [upd1, Ne.symm hne, hsb'])
          rw [Array.setIfInBounds_comm _ _ hji, ← Act.put_comm a (mk b) (mk' b') h2, upd1_comm S (Ne.symm hne)]
          exact this
/-! The order: first what reads, one behind the other; then what makes blocks; then the tail. -/
def wpF (P : Program) (ops : Array Oper) (w : World) (al : Makers) (Lq : Act → (Nat → Option Obj) → Prop) : List Nat → Act → (Nat → Option Obj) → Prop
  | [], a, S => Lq a S
  | k :: l, a, S => ∃ o, ops[k]? = some o ∧ match al k with
      | some (obj, mk) => ∀ b, w.heap.size ≤ b → S b = none → wpF P ops w al Lq l (a.put o.dst (mk b)) (upd1 S b obj)
      | none => ∃ v, YM P ops w o v a ∧ wpF P ops w al Lq l (a.put o.dst v) S
/-! A chain of reads that ends in one frame, whatever is true of the memory: its values do not hang on it. -/
def dsts : List Oper → List (Option Tmp) := List.map (·.dst)
theorem put_getD {a : Act} {d e : Tmp} {v : Value} (h : d ≠ e) : (a.put (some d) v).tmps.getD e undef = a.tmps.getD e undef := by
  simp [Act.put, Array.getElem?_setIfInBounds_ne h]
theorem put_size {a : Act} {d : Option Tmp} {v : Value} : (a.put d v).tmps.size = a.tmps.size := by cases d <;> simp [Act.put]
theorem chain_end {C : World → Prop} {A : Act} {d : Tmp} : ∀ (lo : List Oper) (a : Act), some d ∉ dsts lo → wpQuiet P ops C (fun a' => a' = A) lo a → A.tmps.getD d undef = a.tmps.getD d undef
  | [], a, _, h => by have : a = A := h; rw [this]
  | o :: lo, a, hd, h => by
    simp only [dsts, List.map_cons, List.mem_cons, not_or] at hd
    have keep : ∀ v, (a.put o.dst v).tmps.getD d undef = a.tmps.getD d undef := fun v => by
      cases ho : o.dst with
      | none => rfl
      | some e => exact put_getD (fun he => hd.1 (by rw [ho, he]))
    unfold wpQuiet at h
    split at h
    · obtain ⟨v, _, h2⟩ := h
      rw [chain_end lo _ hd.2 h2, keep]
    · rw [chain_end lo _ hd.2 h, keep]
def goodDsts (m : Nat) : List Oper → Bool
  | [] => true
  | o :: lo => (match o.dst with | some d => decide (d < m) && !(dsts lo).contains (some d) | none => false) && goodDsts m lo
def wpMq (P : Program) (ops : Array Oper) (w : World) (A : Act) : List Oper → Act → Prop
  | [], a => a = A
  | o :: lo, a => ∃ v, YM P ops w o v a ∧ wpMq P ops w A lo (a.put o.dst v)
theorem chain_M {A : Act} : ∀ (lo : List Oper) (a : Act), goodDsts a.tmps.size lo = true → (∀ T, Stable T → Nonempty (ExtF w T) → wpQuiet P ops (Cls w T) (fun a' => a' = A) lo a) → wpMq P ops w A lo a
  | [], a, _, h => h (fun _ => True) (fun _ _ _ _ => trivial) ⟨⟨w, Below.refl _ _, trivial⟩⟩
  | o :: lo, a, hg, h => by
    simp only [goodDsts, Bool.and_eq_true] at hg
    obtain ⟨hg1, hg2⟩ := hg
    cases hd : o.dst with
    | none => rw [hd] at hg1; cases hg1
    | some d =>
      rw [hd] at hg1
      simp only [Bool.and_eq_true, decide_eq_true_eq, Bool.not_eq_true'] at hg1
      have hnin : some d ∉ dsts lo := by simpa using hg1.2
      have at_d : ∀ v, (a.put o.dst v).tmps.getD d undef = v := fun v => by simp [hd, Act.put, hg1.1]
      have key : ∀ T, Stable T → Nonempty (ExtF w T) → YieldsIn P ops (Cls w T) o (A.tmps.getD d undef) a ∧ wpQuiet P ops (Cls w T) (fun a' => a' = A) lo (a.put o.dst (A.tmps.getD d undef)) := fun T hT hne => by
        have h1 := h T hT hne
        unfold wpQuiet at h1
        by_cases hw : Region.wanted o (yielded ops a.tmps) = true
        · rw [if_pos hw] at h1
          obtain ⟨v, h2, h3⟩ := h1
          have e := chain_end lo _ hnin h3
          rw [at_d] at e
          rw [e]
          exact ⟨.inl ⟨hw, h2⟩, h3⟩
        · rw [if_neg hw] at h1
          have e := chain_end lo _ hnin h1
          rw [at_d] at e
          rw [e]
          exact ⟨.inr ⟨by simpa using hw, rfl⟩, h1⟩
      refine ⟨_, fun T hT => ?_, chain_M lo _ (by rw [put_size]; exact hg2) (fun T hT hne => (key T hT hne).2)⟩
      by_cases hne : Nonempty (ExtF w T)
      · exact (key T hT hne).1
      · rcases (key (fun _ => True) (fun _ _ _ _ => trivial) ⟨⟨w, Below.refl _ _, trivial⟩⟩).1 with ⟨h1, _⟩ | h1
        · exact .inl ⟨h1, fun x ⟨e, _⟩ => absurd ⟨e⟩ hne⟩
        · exact .inr h1
theorem wpF_of_chain {al : Makers} {A : Act} {Lq : Act → (Nat → Option Obj) → Prop} (l2 : List Nat) : ∀ (l1 : List Nat) (lo : List Oper) (a : Act) (S : Nat → Option Obj), (∀ j : Nat, lo[j]? = (l1[j]?).bind (fun k => ops[k]?)) → lo.length = l1.length → (∀ k ∈ l1, al k = none) →
    wpMq P ops w A lo a → wpF P ops w al Lq l2 A S → wpF P ops w al Lq (l1 ++ l2) a S
  | [], [], a, S, _, _, _, h, h2 => by have : a = A := h; subst this; exact h2
  | [], o :: lo, a, S, _, hl, _, _, _ => by simp at hl
  | k :: l1, [], a, S, _, hl, _, _, _ => by simp at hl
  | k :: l1, o :: lo, a, S, hlo, hl, hal, h, h2 => by
    have h0 : ops[k]? = some o := by simpa using (hlo 0).symm
    obtain ⟨v, hy, hr⟩ := h
    refine ⟨o, h0, ?_⟩
    rw [hal k (by simp)]
    exact ⟨v, hy, wpF_of_chain l2 l1 lo _ S (fun j => by simpa using hlo (j + 1)) (by simpa using hl) (fun k' hk' => hal k' (by simp [hk'])) hr h2⟩
end
def opsAt (l : List Oper) (is : List Nat) : List Oper := is.filterMap (fun k => l[k]?)
abbrev MkL := List (Nat × Obj × (Nat → Value))
def mkAl (ml : MkL) : Makers := fun k => (ml.find? (fun e => e.1 == k)).map (·.2)
def nodupB : List Nat → Bool
  | [] => true
  | k :: l => !l.contains k && nodupB l
theorem mkAl_isSome (ml : MkL) (k : Nat) : (ml.map (·.1)).contains k = (mkAl ml k).isSome := by
  unfold mkAl
  induction ml with
  | nil => rfl
  | cons e ml ih =>
    simp only [List.map_cons, List.contains_cons, List.find?_cons]
    by_cases h : e.1 = k
    · subst h; simp
    · have h1 : (e.1 == k) = false := by simpa using h
      have h2 : (k == e.1) = false := by simpa using fun h' => h h'.symm
      rw [h1, h2, Bool.false_or, ih]
theorem mkAl_at : ∀ (ml : MkL), nodupB (ml.map (·.1)) = true → ∀ e ∈ ml, mkAl ml e.1 = some e.2
  | [], _, e, he => by cases he
  | f :: ml, hn, e, he => by
    simp only [List.map_cons, nodupB, Bool.and_eq_true, Bool.not_eq_true'] at hn
    unfold mkAl
    rcases List.mem_cons.1 he with rfl | he'
    · simp
    · have hne : ¬ f.1 = e.1 := by
        intro h
        have : (ml.map (·.1)).contains f.1 = true := by rw [h]; simpa using ⟨_, _, he'⟩
        rw [this] at hn; cases hn.1
      have h1 : (f.1 == e.1) = false := by simpa using hne
      simp only [List.find?_cons, h1]
      exact mkAl_at ml hn.2 e he'
section
variable {P : Program} {ops : Array Oper} {w : World}
def wpMk (ops : Array Oper) (w : World) (Lq : Act → (Nat → Option Obj) → Prop) : MkL → Act → (Nat → Option Obj) → Prop
  | [], a, S => Lq a S
  | (k, obj, mk) :: l, a, S => ∀ b, w.heap.size ≤ b → S b = none → wpMk ops w Lq l (a.put ((ops[k]?).bind (·.dst)) (mk b)) (upd1 S b obj)
theorem wpF_of_wpMk {al : Makers} {Lq : Act → (Nat → Option Obj) → Prop} : ∀ (ml : MkL) (a : Act) (S : Nat → Option Obj), (∀ e ∈ ml, al e.1 = some e.2 ∧ (ops[e.1]?).isSome = true) → wpMk ops w Lq ml a S → wpF P ops w al Lq (ml.map (·.1)) a S
  | [], a, S, _, h => h
  | (k, obj, mk) :: l, a, S, hal, h => by
    obtain ⟨h1, h2⟩ := hal _ List.mem_cons_self
    obtain ⟨o, ho⟩ := Option.isSome_iff_exists.1 h2
    refine ⟨o, ho, ?_⟩
    rw [h1]
    intro b hb hs
    have := h b hb hs
    rw [ho] at this
    exact wpF_of_wpMk l _ _ (fun e he => hal e (List.mem_cons_of_mem _ he)) this
end
theorem opsAt_get {l : List Oper} : ∀ (is : List Nat), (∀ j : Nat, j < is.length → ((is[j]?).bind (fun k : Nat => l[k]?)).isSome = true) → (opsAt l is).length = is.length ∧ ∀ j : Nat, (opsAt l is)[j]? = (is[j]?).bind (fun k : Nat => l[k]?)
  | [], _ => ⟨rfl, fun j => by simp [opsAt]⟩
  | k :: is, h => by
    have h0 := h 0 (by simp)
    simp at h0
    obtain ⟨ih1, ih2⟩ := opsAt_get is (fun j hj => by simpa using h (j + 1) (by simpa using hj))
    have e : opsAt l (k :: is) = l[k] :: opsAt l is := by simp [opsAt, List.getElem?_eq_getElem h0]
    rw [e]
    refine ⟨by simp [ih1], fun j => ?_⟩
    cases j with
    | zero => simp [List.getElem?_eq_getElem h0]
    | succ j => simpa using ih2 j
theorem KS.one {b : Nat} {obj : Obj} {x : World} (h : KS (upd1 (fun _ => none) b obj) x) : x.heap[b]? = some obj := h b obj (by simp [upd1])
end Go.Proofs.YtmmpkkpmlaiapaaGreatDoor
