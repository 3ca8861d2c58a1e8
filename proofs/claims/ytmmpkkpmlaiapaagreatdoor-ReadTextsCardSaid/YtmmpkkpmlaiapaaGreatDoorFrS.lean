/- A region that draws its order: as FrN, and one store into a block that the region has made, which may be drawn beside the last of the reads and the makers. Over any program. No condition. -/
import Derived.Test.YtmmpkkpmlaiapaaGreatDoorFrN
import Derived.Test.YtmmpkkpmlaiapaaGreatDoorQa
namespace Go.Proofs.YtmmpkkpmlaiapaaGreatDoor
open Go.RowKit
set_option linter.unusedVariables false
section
variable {P : Program} {ops : Array Oper} {md : Region.Mode} {w : World}
structure SM (P : Program) (o : Oper) (a : Act) (b : Nat) (z y : Obj) : Prop where
  gd : o.guard = none
  dst : o.dst = none
  run : ∀ x : World, x.heap[b]? = some z → ∃ x' : World, (∀ (a' : Act) (K : Act → World → Prop) (Q : Exit → Act → World → Prop), K a' x' → o.upon P a' K Q ((execOp a.eval o).run P x)) ∧ x'.heap[b]? = some y ∧ (∀ B w0, B ≤ b → Below B w0 x → Below B w0 x') ∧ ∀ k, k ≠ b → x'.heap[k]? = x.heap[k]?
  det : ∃ ty p q zs cs T, o.op = .store ty p q ∧ a.eval p = .pointer (some ⟨b, 0, none⟩) ∧ a.eval q = .agg cs ∧ z = .cells zs T (0, 0) ∧ y = .cells cs T (0, 0)
theorem SM.mk' {o : Oper} {a : Act} {b : Nat} {zs cs : Array Value} {T : TypeId} (hgd : o.guard = none) (hd : o.dst = none) (ty : TypeId) (p q : Operand) (ho : o.op = .store ty p q)
    (hx : a.eval p = .pointer (some ⟨b, 0, none⟩)) (hy : a.eval q = .agg cs) (hsz : zs.size = cs.size) (hi : (P.info? ty).map (·.size) = some cs.size) (h1 : cs.all (·.oneCell') = true) : SM P o a b (.cells zs T (0, 0)) (.cells cs T (0, 0)) := by
  refine ⟨hgd, hd, fun x hg => ?_, ty, p, q, zs, cs, T, ho, hx, hy, rfl, rfl⟩
  have ht : x.there b 0 cs.size := fun j hj => by
    have hj' : j < zs.size := by omega
    rw [Nat.zero_add]
    exact ⟨by rw [blk_cell hg (Array.getElem?_eq_getElem hj')]; rfl, blk_free hg⟩
  have e := setCells_block b cs.toList [] zs.toList x T (0, 0) (by simpa using hg) (by simpa using hsz.symm)
  simp only [List.length_nil, List.nil_append] at e
  refine ⟨x.setCells b 0 cs.toList, fun a' K Q h => ?_, ?_⟩
  · unfold execOp
    simp only [ho, hx, hy, Instr.storeAt, Instr.sureAddr, Sem.run_bind, Sem.run_pure, Result.andThen_ok, run_storeVar_mid x b 0 ty cs ht hi h1]
    have : a'.put o.dst undef = a' := by rw [hd]; rfl
    rw [← this] at h
    exact h
  · rw [e]
    refine ⟨?_, fun B w0 hB hb => ?_, fun k hk => ?_⟩
    · show (x.heap.setIfInBounds b _)[b]? = _
      rw [Array.getElem?_setIfInBounds_self_of_lt (blk_lt hg)]
    · refine ⟨hb.os, hb.tape, hb.output, by simpa using hb.size, fun k hk => ?_⟩
      show (x.heap.setIfInBounds b _)[k]? = _
      rw [Array.getElem?_setIfInBounds_ne (by omega)]
      exact hb.block k hk
    · show (x.heap.setIfInBounds b _)[k]? = _
      rw [Array.getElem?_setIfInBounds_ne (fun e => hk e.symm)]
theorem SM.same {o : Oper} {a : Act} {b b' : Nat} {z z' y y' : Obj} (h : SM P o a b z y) (h' : SM P o a b' z' y') : b = b' ∧ (z = z' → y = y') := by
  obtain ⟨ty, p, q, zs, cs, T, h1, h2, h3, rfl, rfl⟩ := h.det
  obtain ⟨ty', p', q', zs', cs', T', k1, k2, k3, rfl, rfl⟩ := h'.det
  rw [h1] at k1
  cases k1
  rw [h2] at k2
  rw [h3] at k3
  cases k2
  cases k3
  exact ⟨rfl, fun e => by cases e; rfl⟩
theorem eval_store {o : Oper} {ty : TypeId} {p q : Operand} (ho : o.op = .store ty p q) {a : Act} {d : Option Tmp} {v : Value} (h : ∀ t, d = some t → t ∉ o.looksAt ops) : (a.put d v).eval p = a.eval p ∧ (a.put d v).eval q = a.eval q := by
  refine ⟨Act.eval_put fun t hd hxd => h t hd ?_, Act.eval_put fun t hd hxd => h t hd ?_⟩
  · subst hxd
    exact List.mem_append_left _ (List.mem_filterMap.2 ⟨.tmp t, by rw [ho]; simp [Op.operands], rfl⟩)
  · subst hxd
    exact List.mem_append_left _ (List.mem_filterMap.2 ⟨.tmp t, by rw [ho]; simp [Op.operands], rfl⟩)
theorem SM.of_put {oi oj : Oper} {b : Nat} {z y : Obj} {u : Value} {a : Act} (hap : oi.apart ops oj = true) (hsi : ∀ cs b, oi.op ≠ .select cs b) (h : SM P oi a b z y) : SM P oi (a.put oj.dst u) b z y := by
  obtain ⟨h1, h2, h3⟩ := Oper.apart_spec hap
  refine ⟨h.gd, h.dst, fun x hx => ?_, ?_⟩
  · rw [execOp_put oi hsi a oj.dst u h3]
    exact h.run x hx
  · obtain ⟨ty, p, q, zs, cs, T, k1, k2, k3, k4⟩ := h.det
    obtain ⟨e1, e2⟩ := eval_store (ops := ops) k1 (a := a) (v := u) h3
    exact ⟨ty, p, q, zs, cs, T, k1, e1.trans k2, e2.trans k3, k4⟩
theorem SM.put_of {oi oj : Oper} {b : Nat} {z y : Obj} {v : Value} {a : Act} (hap : oi.apart ops oj = true) (hsj : ∀ cs b, oj.op ≠ .select cs b) (h : SM P oj (a.put oi.dst v) b z y) : SM P oj a b z y := by
  obtain ⟨h1, h2, h3⟩ := Oper.apart_spec hap
  refine ⟨h.gd, h.dst, fun x hx => ?_, ?_⟩
  · rw [← execOp_put oj hsj a oi.dst v h1]
    exact h.run x hx
  · obtain ⟨ty, p, q, zs, cs, T, k1, k2, k3, k4⟩ := h.det
    obtain ⟨e1, e2⟩ := eval_store (ops := ops) k1 (a := a) (v := v) h1
    exact ⟨ty, p, q, zs, cs, T, k1, e1.symm.trans k2, e2.symm.trans k3, k4⟩
def Gs (P : Program) (md : Region.Mode) (ops : Array Oper) (w : World) (al : Makers) (s n : Nat) (L : Array Bool → Act → (Nat → Option Obj) → Prop) : Nat → Array Bool → Act → (Nat → Option Obj) → Prop
  | 0, listed, a, S => L listed a S
  | f + 1, listed, a, S => Region.ready md ops listed ≠ [] ∧ ∀ i ∈ Region.ready md ops listed, i < n ∧ ∃ o, ops[i]? = some o ∧
      if i = s then ∃ b z y, w.heap.size ≤ b ∧ S b = some z ∧ SM P o a b z y ∧ Gs P md ops w al s n L f (listed.setIfInBounds i true) a (upd1 S b y)
      else match al i with
      | some (obj, mk) => ∀ b, w.heap.size ≤ b → S b = none → Gs P md ops w al s n L f (listed.setIfInBounds i true) (a.put o.dst (mk b)) (upd1 S b obj)
      | none => ∃ v, YM P ops w o v a ∧ Gs P md ops w al s n L f (listed.setIfInBounds i true) (a.put o.dst v) S
theorem Gs.sound {al : Makers} (hal : Makes P ops al) {s n g : Nat} {L : Array Bool → Act → (Nat → Option Obj) → Prop} {Q' : Exit → Act → World → Prop}
    (hL : ∀ listed a S x, Below w.heap.size w x → KS S x → L listed a S → wpAny P md ops Q' g listed a x) :
    ∀ (f : Nat) (listed : Array Bool) (a : Act) (S : Nat → Option Obj) (x : World), Below w.heap.size w x → KS S x → Gs P md ops w al s n L f listed a S → wpAny P md ops Q' (f + g) listed a x
  | 0, listed, a, S, x, hx, hs, h => by rw [Nat.zero_add]; exact hL _ _ _ _ hx hs h
  | f + 1, listed, a, S, x, hx, hs, h => by
    rw [show f + 1 + g = (f + g) + 1 by omega]
    refine ⟨fun h0 => absurd h0 h.1, fun i hi => ?_⟩
    obtain ⟨_, o, ho, hm⟩ := h.2 i hi
    by_cases his : i = s
    · rw [if_pos his] at hm
      obtain ⟨b, z, y, hbw, hsb, hsm, hG⟩ := hm
      obtain ⟨x', hr, h1, h2, h3⟩ := hsm.run x (hs b z hsb)
      have hw : Region.wanted o (yielded ops a.tmps) = true := by simp [Region.wanted, hsm.gd]
      unfold wpOp
      rw [ho]
      simp only [hw, if_true]
      refine Or.inl ?_
      unfold Oper.wp
      refine hr a _ _ (Gs.sound hal hL f _ _ _ _ (h2 _ _ hbw hx) (fun c ob hc => ?_) hG)
      unfold upd1 at hc
      by_cases hcb : c = b
      · subst hcb; rw [if_pos rfl] at hc; rw [← hc]; exact h1
      · rw [if_neg hcb] at hc; rw [h3 c hcb]; exact hs c ob hc
    · rw [if_neg his] at hm
      cases hai : al i with
      | some p =>
        obtain ⟨obj, mk⟩ := p
        rw [hai] at hm
        obtain ⟨o', ho', hg, hrun⟩ := hal i obj mk hai
        have : o' = o := Option.some.inj (ho'.symm.trans ho)
        subst this
        have hw : Region.wanted o' (yielded ops a.tmps) = true := by simp [Region.wanted, hg]
        unfold wpOp
        rw [ho]
        simp only [hw, if_true]
        refine Or.inl ?_
        unfold Oper.wp
        rw [hrun a x]
        refine Gs.sound hal hL f _ _ _ _ (hx.alloc hx.size obj) ?_ (hm x.heap.size hx.size ?_)
        · intro b ob hb
          unfold upd1 at hb
          by_cases hbx : b = x.heap.size
          · subst hbx; rw [if_pos rfl] at hb; rw [← hb]; exact blk_new x obj
          · rw [if_neg hbx] at hb; exact blk_alloc (hs b ob hb) obj
        · cases hsx : S x.heap.size with
          | none => rfl
          | some ob => have := blk_lt (hs _ _ hsx); omega
      | none =>
        rw [hai] at hm
        obtain ⟨v, hy, hG⟩ := hm
        refine wpOp_of_qOp (C := Cls w (KS S)) (Cls.mk hx hs) (K := fun a' => Gs P md ops w al s n L f (listed.setIfInBounds i true) a' S) (fun a' w' hw' h' => ?_) ((hy (KS S) (KS.stable S)).qOp ho hG)
        obtain ⟨e, rfl⟩ := hw'
        exact Gs.sound hal hL f _ a' S e.x e.below e.t h'
theorem Gs.quiet_first {al : Makers} {s n i : Nat} {oi : Oper} {v : Value} {L : Array Bool → Act → (Nat → Option Obj) → Prop} (hi : ops[i]? = some oi) (his : i ≠ s) (hai : al i = none) (hsel : ∀ (j : Nat) (o : Oper) cs b, ops[j]? = some o → o.op ≠ .select cs b)
    (hs : Region.sinkB md ops n = true) (hc : Region.chainB md ops n = true) (hn : n < ops.size) (hin : i < n) (hdone : ∀ listed a S, L listed a S → ∀ j ∈ Region.ready md ops listed, n ≤ j) :
    ∀ (f : Nat) (listed : Array Bool) (a : Act) (S : Nat → Option Obj), HeadInv md ops n listed →
      (∀ j oj, ops[j]? = some oj → j ≠ i → listed.getD j true = false → (∀ e ∈ oj.after, Region.binds md e = true → e.on ≠ i) → oi.apart ops oj = true) →
      i ∈ Region.ready md ops listed → YM P ops w oi v a → Gs P md ops w al s n L f (listed.setIfInBounds i true) (a.put oi.dst v) S → Gs P md ops w al s n L (f + 1) listed a S := by
  intro f
  induction f with
  | zero =>
    intro listed a S inv _ hr hy H
    have hun := (mem_ready.1 hr).1
    refine ⟨fun h => (by rw [h] at hr; cases hr), fun j hj => ?_⟩
    have hjn : j < n := by
      rcases Nat.lt_or_ge j n with h | h
      · exact h
      · exact absurd hj (tail_waits hs hc hn inv _ i rfl hin hun j h)
    by_cases hji : j = i
    · subst hji; refine ⟨hjn, oi, hi, ?_⟩; rw [if_neg his, hai]; exact ⟨v, hy, H⟩
    · have := hdone _ _ _ H j (ready_mono hj hji); omega
  | succ f ih =>
    intro listed a S inv hfree hr hy H
    have hun := (mem_ready.1 hr).1
    refine ⟨fun h => (by rw [h] at hr; cases hr), fun j hj => ?_⟩
    have hjn : j < n := by
      rcases Nat.lt_or_ge j n with h | h
      · exact h
      · exact absurd hj (tail_waits hs hc hn inv _ i rfl hin hun j h)
    by_cases hji : j = i
    · subst hji; refine ⟨hjn, oi, hi, ?_⟩; rw [if_neg his, hai]; exact ⟨v, hy, H⟩
    · obtain ⟨_, oj', hoj', hm⟩ := H.2 j (ready_mono hj hji)
      obtain ⟨hjun, oj, hoj, hall⟩ := mem_ready.1 hj
      have : oj' = oj := Option.some.inj (hoj'.symm.trans hoj)
      subst this
      have hap := hfree j oj' hoj hji hjun (no_wait hr hall)
      obtain ⟨h1, h2, h3⟩ := Oper.apart_spec hap
      refine ⟨hjn, oj', hoj, ?_⟩
      by_cases hjs : j = s
      · rw [if_pos hjs] at hm ⊢
        obtain ⟨b, z, y, hbw, hsb, hsm, hG⟩ := hm
        refine ⟨b, z, y, hbw, hsb, hsm.put_of hap (fun cs b => hsel j oj' cs b hoj), ih (listed.setIfInBounds j true) _ _ (inv.set hj hjn) (listed_next hfree hjun) (ready_mono hr (Ne.symm hji)) hy ?_⟩
        rw [Array.setIfInBounds_comm _ _ hji]
        exact hG
      · rw [if_neg hjs] at hm ⊢
        cases haj : al j with
        | some p =>
          obtain ⟨obj, mk⟩ := p
          rw [haj] at hm
          intro b hb hsb
          refine ih (listed.setIfInBounds j true) _ _ (inv.set hj hjn) (listed_next hfree hjun) (ready_mono hr (Ne.symm hji)) (hy.of_put hap (fun cs b => hsel i oi cs b hi)) ?_
          have := hm b hb hsb
          rw [Array.setIfInBounds_comm _ _ hji, ← Act.put_comm a v (mk b) h2]
          exact this
        | none =>
          rw [haj] at hm
          obtain ⟨u, hu, hG⟩ := hm
          refine ⟨u, hu.put_of hap (fun cs b => hsel j oj' cs b hoj), ih (listed.setIfInBounds j true) _ _ (inv.set hj hjn) (listed_next hfree hjun) (ready_mono hr (Ne.symm hji)) (hy.of_put hap (fun cs b => hsel i oi cs b hi)) ?_⟩
          rw [Array.setIfInBounds_comm _ _ hji, ← Act.put_comm a v u h2]
          exact hG
theorem Gs.make_first {al : Makers} {s n i : Nat} {oi : Oper} {obj : Obj} {mk : Nat → Value} {L : Array Bool → Act → (Nat → Option Obj) → Prop} (hi : ops[i]? = some oi) (his : i ≠ s) (hai : al i = some (obj, mk)) (hsel : ∀ (j : Nat) (o : Oper) cs b, ops[j]? = some o → o.op ≠ .select cs b)
    (hs : Region.sinkB md ops n = true) (hc : Region.chainB md ops n = true) (hn : n < ops.size) (hin : i < n) (hdone : ∀ listed a S, L listed a S → ∀ j ∈ Region.ready md ops listed, n ≤ j) :
    ∀ (f : Nat) (listed : Array Bool) (a : Act) (S : Nat → Option Obj), HeadInv md ops n listed →
      (∀ j oj, ops[j]? = some oj → j ≠ i → listed.getD j true = false → (∀ e ∈ oj.after, Region.binds md e = true → e.on ≠ i) → oi.apart ops oj = true) →
      (∀ j oj, ops[j]? = some oj → j < n → j ≠ i → listed.getD j true = false → (∀ e ∈ oj.after, Region.binds md e = true → e.on ≠ i) → j = s ∨ (al j).isSome = true) →
      i ∈ Region.ready md ops listed → (∃ N, ∀ b, N ≤ b → S b = none) → (∀ b, w.heap.size ≤ b → S b = none → Gs P md ops w al s n L f (listed.setIfInBounds i true) (a.put oi.dst (mk b)) (upd1 S b obj)) → Gs P md ops w al s n L (f + 1) listed a S := by
  intro f
  induction f with
  | zero =>
    intro listed a S inv _ _ hr hS H
    have hun := (mem_ready.1 hr).1
    refine ⟨fun h => (by rw [h] at hr; cases hr), fun j hj => ?_⟩
    have hjn : j < n := by
      rcases Nat.lt_or_ge j n with h | h
      · exact h
      · exact absurd hj (tail_waits hs hc hn inv _ i rfl hin hun j h)
    by_cases hji : j = i
    · subst hji; refine ⟨hjn, oi, hi, ?_⟩; rw [if_neg his, hai]; exact H
    · obtain ⟨N, hN⟩ := hS
      have := hdone _ _ _ (H (max N w.heap.size) (Nat.le_max_right _ _) (hN _ (Nat.le_max_left _ _))) j (ready_mono hj hji)
      omega
  | succ f ih =>
    intro listed a S inv hfree hmk hr hS H
    have hun := (mem_ready.1 hr).1
    refine ⟨fun h => (by rw [h] at hr; cases hr), fun j hj => ?_⟩
    have hjn : j < n := by
      rcases Nat.lt_or_ge j n with h | h
      · exact h
      · exact absurd hj (tail_waits hs hc hn inv _ i rfl hin hun j h)
    by_cases hji : j = i
    · subst hji; refine ⟨hjn, oi, hi, ?_⟩; rw [if_neg his, hai]; exact H
    · obtain ⟨hjun, oj, hoj, hall⟩ := mem_ready.1 hj
      have hap := hfree j oj hoj hji hjun (no_wait hr hall)
      obtain ⟨h1, h2, h3⟩ := Oper.apart_spec hap
      refine ⟨hjn, oj, hoj, ?_⟩
      have hsm := hmk j oj hoj hjn hji hjun (no_wait hr hall)
      have hmk' : ∀ k ok, ops[k]? = some ok → k < n → k ≠ i → (listed.setIfInBounds j true).getD k true = false → (∀ e ∈ ok.after, Region.binds md e = true → e.on ≠ i) → k = s ∨ (al k).isSome = true := fun k ok hk hkn hki hun hno => by
        refine hmk k ok hk hkn hki ?_ hno
        by_cases hjk : j = k
        · subst hjk; exact hjun
        · rw [getD_set_ne true hjk] at hun; exact hun
      by_cases hjs : j = s
      · rw [if_pos hjs]
        have step : ∀ b, w.heap.size ≤ b → S b = none → ∃ c z y, w.heap.size ≤ c ∧ upd1 S b obj c = some z ∧ SM P oj a c z y ∧ Gs P md ops w al s n L f ((listed.setIfInBounds i true).setIfInBounds j true) (a.put oi.dst (mk b)) (upd1 (upd1 S b obj) c y) := fun b hb hsb => by
          obtain ⟨_, oj', hoj', hm⟩ := (H b hb hsb).2 j (ready_mono hj hji)
          have : oj' = oj := Option.some.inj (hoj'.symm.trans hoj)
          subst this
          rw [if_pos hjs] at hm
          obtain ⟨c, z, y, h1, h2, h3, h4⟩ := hm
          exact ⟨c, z, y, h1, h2, h3.put_of hap (fun cs b => hsel j oj' cs b hoj), h4⟩
        obtain ⟨N, hN⟩ := hS
        have hm1 := Nat.le_max_left N w.heap.size
        have hm2 := Nat.le_max_right N w.heap.size
        obtain ⟨c, z, y, c1, c2, c3, _⟩ := step (max N w.heap.size) hm2 (hN _ hm1)
        have hcz : S c = some z := by
          by_cases hcb : c = max N w.heap.size
          · obtain ⟨c', z', y', _, d2, d3, _⟩ := step (max N w.heap.size + 1) (by omega) (hN _ (by omega))
            obtain ⟨rfl, _⟩ := c3.same d3
            unfold upd1 at d2
            rw [if_neg (by omega), hN c (by omega)] at d2
            cases d2
          · unfold upd1 at c2
            rwa [if_neg hcb] at c2
        refine ⟨c, z, y, c1, hcz, c3, ih (listed.setIfInBounds j true) _ _ (inv.set hj hjn) (listed_next hfree hjun) hmk' (ready_mono hr (Ne.symm hji)) ⟨max N (c + 1), fun b hb => ?_⟩ (fun b hb hsb => ?_)⟩
        · unfold upd1
          rw [if_neg (by omega), hN b (by omega)]
        · have hne : b ≠ c := by rintro rfl; simp [upd1] at hsb
          have hsb2 : S b = none := by simpa [upd1, hne] using hsb
          obtain ⟨c', z', y', _, d2, d3, d4⟩ := step b hb hsb2
          obtain ⟨rfl, hy⟩ := c3.same d3
          unfold upd1 at d2
          rw [if_neg (Ne.symm hne), hcz] at d2
          obtain rfl := hy (Option.some.inj d2)
          rw [Array.setIfInBounds_comm _ _ hji, upd1_comm S (Ne.symm hne)]
          exact d4
      · rw [if_neg hjs]
        cases haj : al j with
        | none =>
          rw [haj] at hsm
          rcases hsm with hsm | hsm
          · exact absurd hsm hjs
          · cases hsm
        | some p =>
          obtain ⟨obj', mk'⟩ := p
          intro b' hb' hsb'
          refine ih (listed.setIfInBounds j true) _ _ (inv.set hj hjn) (listed_next hfree hjun) hmk' (ready_mono hr (Ne.symm hji)) ?_ (fun b hb hsb => ?_)
          · obtain ⟨N, hN⟩ := hS
            refine ⟨max N (b' + 1), fun b hb => ?_⟩
            unfold upd1
            rw [if_neg (by omega), hN b (by omega)]
          · have hne : b ≠ b' := by rintro rfl; simp [upd1] at hsb
            have hsb2 : S b = none := by simpa [upd1, hne] using hsb
            obtain ⟨_, oj', hoj', hm⟩ := (H b hb hsb2).2 j (ready_mono hj hji)
            have : oj' = oj := Option.some.inj (hoj'.symm.trans hoj)
            subst this
            rw [if_neg hjs, haj] at hm
            have := hm b' hb' (by simp [upd1, Ne.symm hne, hsb'])
            rw [Array.setIfInBounds_comm _ _ hji, ← Act.put_comm a (mk b) (mk' b') h2, upd1_comm S (Ne.symm hne)]
            exact this
/-! The order: first what reads; then what makes blocks; then the store; then the tail. -/
def freshHs (md : Region.Mode) (ops : Array Oper) (mks : List Nat) (s n g : Nat) : List Nat → Array Bool → Bool
  | [], listed => decide (s < n) && decide (Region.ready md ops listed = [s]) && Region.seqB md ops g n (listed.setIfInBounds s true)
  | k :: l, listed => decide (k < n) && decide (k ≠ s) && (Region.ready md ops listed).contains k && Region.free md ops listed k &&
      (if mks.contains k then (List.range n).all (fun j => j == k || listed.getD j true || Region.waitsFor md ops j k || mks.contains j || j == s) else true) && freshHs md ops mks s n g l (listed.setIfInBounds k true)
theorem Gs_of_wpF {al : Makers} {mks : List Nat} (hmks : ∀ k, mks.contains k = (al k).isSome) {s n g : Nat} {Lq : Act → (Nat → Option Obj) → Prop} (hsel : Region.noSelect ops = true) (hs : Region.sinkB md ops n = true) (hc : Region.chainB md ops n = true) (hn : n < ops.size) :
    ∀ (l : List Nat) (listed : Array Bool) (a : Act) (S : Nat → Option Obj), HeadInv md ops n listed → (∃ N, ∀ b, N ≤ b → S b = none) → freshHs md ops mks s n g l listed = true →
      wpF P ops w al (fun a' S' => ∃ o b z y, ops[s]? = some o ∧ w.heap.size ≤ b ∧ S' b = some z ∧ SM P o a' b z y ∧ Lq a' (upd1 S' b y)) l a S →
      Gs P md ops w al s n (fun listed' a' S' => Region.seqB md ops g n listed' = true ∧ Lq a' S') (l.length + 1) listed a S
  | [], listed, a, S, inv, _, hB, h => by
    simp only [freshHs, Bool.and_eq_true, decide_eq_true_eq] at hB
    obtain ⟨⟨hsn, hr⟩, hB'⟩ := hB
    obtain ⟨o, b, z, y, ho, h1, h2, h3, h4⟩ := h
    refine ⟨by rw [hr]; simp, fun i hi => ?_⟩
    rw [hr, List.mem_singleton] at hi
    subst hi
    refine ⟨hsn, o, ho, ?_⟩
    rw [if_pos rfl]
    exact ⟨b, z, y, h1, h2, h3, hB', h4⟩
  | k :: l, listed, a, S, inv, hS, hB, h => by
    simp only [freshHs, Bool.and_eq_true, decide_eq_true_eq] at hB
    obtain ⟨⟨⟨⟨⟨hkn, hks⟩, hr⟩, hf⟩, hm⟩, hB'⟩ := hB
    have hr' : k ∈ Region.ready md ops listed := by simpa using hr
    obtain ⟨o, ho, hh⟩ := h
    have hmk := hmks k
    cases hal : al k with
    | none =>
      rw [hal] at hh
      obtain ⟨v, hy, hw⟩ := hh
      exact Gs.quiet_first ho hks hal (Region.noSelect_spec hsel) hs hc hn hkn (fun listed' a' S' hL => seqB_ready hL.1) (l.length + 1) listed a S inv (Region.free_spec ho hf) hr' hy
        (Gs_of_wpF hmks hsel hs hc hn l _ _ _ (inv.set hr' hkn) hS hB' hw)
    | some p =>
      obtain ⟨obj, mk⟩ := p
      rw [hal] at hh hmk
      rw [hmk] at hm
      simp only [Option.isSome_some, if_true, List.all_eq_true, List.mem_range] at hm
      refine Gs.make_first ho hks hal (Region.noSelect_spec hsel) hs hc hn hkn (fun listed' a' S' hL => seqB_ready hL.1) (l.length + 1) listed a S inv (Region.free_spec ho hf) (fun j oj hj hjn hji hun hno => ?_) hr' hS (fun b hb hsb => ?_)
      · have h1 := hm j hjn
        simp only [Bool.or_eq_true] at h1
        rcases h1 with (((h1 | h1) | h1) | h1) | h1
        · exact absurd (by simpa using h1) hji
        · rw [hun] at h1; cases h1
        · obtain ⟨oj', hoj', e, he, hb, hon⟩ := Region.waitsFor_spec h1
          have : oj' = oj := Option.some.inj (hoj'.symm.trans hj)
          subst this
          exact absurd hon (hno e he hb)
        · rw [hmks j] at h1; exact Or.inr h1
        · exact Or.inl (by simpa using h1)
      · obtain ⟨N, hN⟩ := hS
        exact Gs_of_wpF hmks hsel hs hc hn l _ _ _ (inv.set hr' hkn) ⟨max N (b + 1), fun c hc => by unfold upd1; rw [if_neg (by omega), hN c (by omega)]⟩ hB' (hh b hb hsb)
end
def freshBs (md : Region.Mode) (ops : Array Oper) (m : Nat) (rd mks : List Nat) (s n : Nat) : Bool :=
  Region.noSelect ops && decide (n < ops.size) && Region.sinkB md ops n && Region.chainB md ops n && decide (rd.length + mks.length + 1 = n) && rd.all (fun k => !mks.contains k) &&
    goodDsts m (opsAt ops.toList rd) && (List.range rd.length).all (fun j => ((rd[j]?).bind (fun k => ops.toList[k]?)).isSome) && freshHs md ops mks s n (ops.size - n) (rd ++ mks) (Array.replicate ops.size false)
theorem wp_region_freshS {P : Program} {id : Nat} {Q : Exit → Act → World → Prop} {a : Act} {w : World} {l : List Oper} (s n : Nat) (rd : List Nat) (ml : MkL) (hm : P.follows .mixedOrders = true)
    (hal : Makes P l.toArray (mkAl ml)) (hB : freshBs .any l.toArray a.tmps.size rd (ml.map (·.1)) s n = true) (hB2 : nodupB (ml.map (·.1)) = true)
    (hq : ∃ A, (∀ T, Stable T → Nonempty (ExtF w T) → wpQuiet P l.toArray (fun x => ∃ e : ExtF w T, x = e.x) (fun a' => a' = A) (opsAt l rd) a) ∧
      wpMk l.toArray w (fun a' S => ∃ o b z y, l.toArray[s]? = some o ∧ w.heap.size ≤ b ∧ S b = some z ∧ SM P o a' b z y ∧ ∀ x, Below w.heap.size w x → KS (upd1 S b y) x → wpList P l.toArray Q (l.drop n) a' x) ml A (fun _ => none)) : (Code.region id l.toArray true).wp P Q a w := by
  simp only [freshBs, Bool.and_eq_true, decide_eq_true_eq] at hB
  obtain ⟨⟨⟨⟨⟨⟨⟨⟨hsel, hn⟩, hs⟩, hc⟩, hlen⟩, hdis⟩, hgd⟩, hin⟩, hh⟩ := hB
  have hn' : n < l.length := by simpa using hn
  have hdl : (l.drop n).length = l.toArray.size - n := by simp
  have inv0 : HeadInv .any l.toArray n (Array.replicate l.toArray.size false) :=
    ⟨by simp, fun j oj _ hl => (by rw [getD_replicate_false] at hl; cases hl), fun t _ ht => getD_in (by simpa using ht) (getD_replicate_false _ _)⟩
  obtain ⟨A, hq1, hq2⟩ := hq
  have hg := opsAt_get (l := l) rd (fun j hj => by
    have := List.all_eq_true.1 hin j (List.mem_range.2 hj)
    simpa using this)
  have hmk : ∀ e ∈ ml, mkAl ml e.1 = some e.2 ∧ (l.toArray[e.1]?).isSome = true := fun e he => by
    refine ⟨mkAl_at ml hB2 e he, ?_⟩
    obtain ⟨o, ho, _⟩ := hal e.1 e.2.1 e.2.2 (mkAl_at ml hB2 e he)
    rw [ho]; rfl
  have hrd : ∀ k ∈ rd, mkAl ml k = none := fun k hk => by
    have h1 := List.all_eq_true.1 hdis k hk
    rw [mkAl_isSome] at h1
    cases hh : mkAl ml k with
    | none => rfl
    | some _ => rw [hh] at h1; cases h1
  have H := wpF_of_chain (Lq := fun a' S => ∃ o b z y, l.toArray[s]? = some o ∧ w.heap.size ≤ b ∧ S b = some z ∧ SM P o a' b z y ∧ ∀ x, Below w.heap.size w x → KS (upd1 S b y) x → wpList P l.toArray Q (l.drop n) a' x) (ml.map (·.1)) rd (opsAt l rd) a (fun _ => none) (fun j => by rw [hg.2 j]; simp) hg.1 hrd
    (chain_M (opsAt l rd) a (by simpa using hgd) hq1) (wpF_of_wpMk ml A _ hmk hq2)
  have G := Gs_of_wpF (md := .any) (g := l.toArray.size - n) (Lq := fun a' S => ∀ x, Below w.heap.size w x → KS S x → wpList P l.toArray Q (l.drop n) a' x) (mkAl_isSome ml) hsel hs hc hn (rd ++ ml.map (·.1)) _ a (fun _ => none) inv0 ⟨0, fun _ _ => rfl⟩ hh H
  refine wp_region_any hm ?_
  have := Gs.sound hal (Q' := Q) (g := l.toArray.size - n) (fun listed a' S x hx hs hL => by
    have := wpAny_of_seq (md := .any) (Q' := Q) (l.drop n) n listed a' x (fun j => by simp [List.getElem?_drop]) (by rw [hdl]; exact hL.1) (hL.2 x hx hs)
    rwa [hdl] at this) _ _ _ _ { w with drawn := w.drawn + 1 } (Below.drew (Below.refl _ _)) (fun b obj hb => by cases hb) G
  rw [List.length_append, List.length_map, show rd.length + ml.length + 1 + (l.toArray.size - n) = l.toArray.size by rw [List.length_map] at hlen; omega] at this
  exact this
end Go.Proofs.YtmmpkkpmlaiapaaGreatDoor
