/- A machine to run closed calls: code, calls, and what a run shows. No condition. -/
import Derived.Test.YtednnkhomfabaaaVmA
import Derived.LoopN
import Derived.Scope
namespace Go.Proofs.Ytednnkhomfabaaa
open Go.RowKit
set_option linter.unusedVariables false
inductive VExit where
  | normal
  | exit (id : Nat)
  | ret
abbrev VOut := Option (VExit × Tr Value × VW)
def vloop (body : Tr Value → VW → VOut) : Nat → Tr Value → VW → VOut
  | 0, _, _ => none
  | n + 1, A, W =>
    match body A W with
    | some (.normal, A', W') => vloop body n A' W'
    | some (.exit id, A', W') => some (.exit id, A', W')
    | some (.ret, A', W') => some (.ret, A', W')
    | none => none
def vcode {P : Program} {D : Den} (sy : Sy P D) (call : VCall) (lim nt F : Nat) : Code → Tr Value → VW → VOut
  | .skip, A, W => some (.normal, A, W)
  | .label _, A, W => some (.normal, A, W)
  | .region _ ops draw, A, W =>
    (match bif draw then
        bif edgesOk 0 ops.toList && masksOk (masks ops.toList []) 0 ops.toList && Region.noSelect ops then vregion sy call lim nt ops.toList (masks ops.toList []) (fmask ops 0 ops.toList) ops.size 1000 0 A W else none
      else vops sy call lim nt ops.toList ops.toList A W with
    | some (A', W') => bif W.next.ble W'.next then some (.normal, A', W') else none
    | none => none)
  | .seq x y, A, W =>
    (match vcode sy call lim nt F x A W with
    | some (.normal, A', W') => vcode sy call lim nt F y A' W'
    | some (.exit id, A', W') => some (.exit id, A', W')
    | some (.ret, A', W') => some (.ret, A', W')
    | none => none)
  | .cond c x y, A, W =>
    (match ev sy A c with
    | some (.bool true) => vcode sy call lim nt F x A W
    | some (.bool false) => vcode sy call lim nt F y A W
    | _ => none)
  | .block id b, A, W =>
    (match vcode sy call lim nt F b A W with
    | some (.exit id', A', W') => bif id'.beq id then some (.normal, A', W') else some (.exit id', A', W')
    | some (.normal, A', W') => some (.normal, A', W')
    | some (.ret, A', W') => some (.ret, A', W')
    | none => none)
  | .loop b, A, W => vloop (vcode sy call lim nt F b) F A W
  | .exit id, A, W => some (.exit id, A, W)
  | .scope b, A, W => vcode sy call lim nt F b A W
  | .ret, A, W => some (.ret, A, W)
  | _, _, _ => none
def vresults (P : Program) (A : Tr Value) (W : VW) : List ResultVar → Option (List Value)
  | [] => some []
  | .tmp t :: l => (match A.at t, vresults P A W l with | some v, some vs => some (v :: vs) | _, _ => none)
  | .cell t T :: l =>
    (match A.at t with
    | some (.pointer (some p)) => (match vload P W T (.pointer (some p)), vresults P A W l with | some v, some vs => some (v :: vs) | _, _ => none)
    | _ => none)
def retOf : List Value → Value
  | [v] => v
  | vs => .tuple vs.toArray
def isInt : Value → Value → Bool
  | .int k a, .int k' b => decide (k = k') && decide (a = b)
  | _, _ => false
def romIs (t : Tr Value) (n : Nat) : Nat → List Value → Bool
  | _, [] => true
  | k, v :: l => k.blt n && (match t.at k with | some u => isInt u v | none => false) && romIs t n (k + 1) l
def romsOk (gl : Nat → Bool) (W : VW) (G : Globs) : Bool := G.all fun g => gl g.1 && (match W.heap.at g.1 with | some (.rom t n) => romIs t n 0 g.2 | _ => false)
theorem romIs_at {t : Tr Value} {n : Nat} : ∀ (l : List Value) (k : Nat), romIs t n k l = true → ∀ (i : Nat) v, l[i]? = some v → k + i < n ∧ ∃ kk a, v = .int kk a ∧ t.at (k + i) = some v
  | [], _, _, i, v, h => by simp at h
  | u :: l, k, hr, i, v, h => by
    simp only [romIs, Bool.and_eq_true, Nat.blt_eq] at hr
    cases i with
    | zero =>
      simp only [List.getElem?_cons_zero, Option.some.injEq] at h
      subst h
      refine ⟨hr.1.1, ?_⟩
      have h2 := hr.1.2
      split at h2
      · rename_i u' hu'
        cases u' <;> cases u <;> simp [isInt] at h2
        obtain ⟨rfl, rfl⟩ := h2
        exact ⟨_, _, rfl, hu'⟩
      · cases h2
    | succ i =>
      have := romIs_at l (k + 1) hr.2 i v (by simpa using h)
      rw [show k + (i + 1) = k + 1 + i by omega]
      exact this
theorem romsOk_need {P : Program} {D : Den} {sy : Sy P D} {β : Place} {W : VW} {w : World} {G : Globs} (hr : Rel P D β W w) (hg : GOk sy β) (h : romsOk sy.gl W G = true) : NeedOk G w := by
  intro g hgG k v hv
  unfold romsOk at h
  have h1 := (List.all_eq_true.1 h) g hgG
  simp only [Bool.and_eq_true] at h1
  obtain ⟨h1, h2⟩ := h1
  split at h2
  · rename_i t n hat
    obtain ⟨hk, kk, a, rfl, hta⟩ := romIs_at g.2 0 h2 k v hv
    obtain ⟨b, d, x, e1, e2⟩ := hr.live g.1 _ hat
    rcases hg g.1 h1 with e | ⟨x', e⟩
    · rw [e] at e1; cases e1
    · rw [e] at e1
      injection e1 with q1 q2 q3
      subst q1 q2 q3
      rw [Nat.zero_add] at hk hta
      obtain ⟨v', q4, q5⟩ := e2 k _ hk hta
      rw [Nat.zero_add] at q4
      rw [pf_eq rfl q5] at q4
      exact q4
  · cases h2
def vcall {P : Program} {D : Den} (sy : Sy P D) (F : Nat) : Nat → VCall
  | 0, _, _, _, _ => none
  | n + 1, lim, f, xs, W =>
    match sy.tab f xs with
    | some v => bif romsOk sy.gl W sy.need then some (v, W) else none
    | none =>
    match P.funcs[f]? with
    | some fn =>
      match fn.body with
      | some c =>
        (match vcode sy (vcall sy F n) lim (xs.length + (fn.ntmps - xs.length)) F c (trOf 0 xs .nil) W with
        | some (.exit _, _, _) => none
        | some (_, A', W') => (match vresults P A' W' fn.results.toList with | some vs => some (retOf vs, W') | none => none)
        | none => none)
      | none => none
    | none => none
section
variable {P : Program} {D : Den} {sy : Sy P D}
def VExit.to : VExit → Exit
  | .normal => .normal
  | .exit id => .exit id
  | .ret => .ret
/-- what a piece of code does, by the machine -/
def CodeOk {P : Program} {D : Den} (sy : Sy P D) (lim nt : Nat) (c : Code) (r : Tr Value → VW → VOut) : Prop :=
  ∀ A W x A' W', r A W = some (x, A', W') → ∀ β a w, Rel P D β W w → lim ≤ W.next → FR sy β nt A a → ∀ Q : Exit → Act → World → Prop,
    (∀ a' w' β', FR sy β' nt A' a' → Rel P D β' W' w' → Ext lim β β' w w' → W.next ≤ W'.next → Q x.to a' w') → c.wp P Q a w
theorem vloop_ok {lim nt : Nat} {c : Code} {r : Tr Value → VW → VOut} (hr : CodeOk sy lim nt c r) : ∀ (n : Nat) A W x A' W', vloop r n A W = some (x, A', W') → ∀ β a w, Rel P D β W w → lim ≤ W.next → FR sy β nt A a → ∀ Q : Exit → Act → World → Prop,
    (∀ a' w' β', FR sy β' nt A' a' → Rel P D β' W' w' → Ext lim β β' w w' → W.next ≤ W'.next → Q x.to a' w') → Code.rounds P c Q n a w
  | 0, _, _, _, _, _, h, _, _, _, _, _, _, _, _ => by cases h
  | n + 1, A, W, x, A', W', h, β, a, w, hrel, hl, hf, Q, hQ => by
    rw [rounds_succ]
    unfold vloop at h
    split at h
    · rename_i A1 W1 h1
      refine hr A W _ A1 W1 h1 β a w hrel hl hf _ (fun a1 w1 β1 g1 g2 g3 g4 => ?_)
      exact vloop_ok hr n A1 W1 x A' W' h β1 a1 w1 g2 (Nat.le_trans hl g4) g1 Q (fun a2 w2 β2 k1 k2 k3 k4 => hQ a2 w2 β2 k1 k2 (g3.trans k3) (Nat.le_trans g4 k4))
    · rename_i id A1 W1 h1
      simp only [Option.some.injEq, Prod.mk.injEq] at h
      obtain ⟨rfl, rfl, rfl⟩ := h
      exact hr A W _ _ _ h1 β a w hrel hl hf _ (fun a1 w1 β1 g1 g2 g3 g4 => hQ a1 w1 β1 g1 g2 g3 g4)
    · rename_i A1 W1 h1
      simp only [Option.some.injEq, Prod.mk.injEq] at h
      obtain ⟨rfl, rfl, rfl⟩ := h
      exact hr A W _ _ _ h1 β a w hrel hl hf _ (fun a1 w1 β1 g1 g2 g3 g4 => hQ a1 w1 β1 g1 g2 g3 g4)
    · cases h
theorem vcode_ok (hmix : P.follows .mixedOrders = true) {call : VCall} (hc : CallOk sy call) (lim nt F : Nat) : ∀ c : Code, CodeOk sy lim nt c (vcode sy call lim nt F c) := by
  intro c
  induction c with
  | skip =>
    intro A W x A' W' h β a w hrel hl hf Q hQ
    simp only [vcode, Option.some.injEq, Prod.mk.injEq] at h
    obtain ⟨rfl, rfl, rfl⟩ := h
    exact wp_skip (hQ a w β hf hrel (Ext.refl _ _ _) (Nat.le_refl _))
  | label l =>
    intro A W x A' W' h β a w hrel hl hf Q hQ
    simp only [vcode, Option.some.injEq, Prod.mk.injEq] at h
    obtain ⟨rfl, rfl, rfl⟩ := h
    exact wp_label (hQ a w β hf hrel (Ext.refl _ _ _) (Nat.le_refl _))
  | region id ops draw =>
    intro A W x A' W' h β a w hrel hl hf Q hQ
    unfold vcode at h
    split at h
    rotate_left
    · cases h
    rename_i A1 W1 h1
    cases hb : W.next.ble W1.next with
    | false => rw [hb] at h; cases h
    | true =>
      rw [hb] at h
      simp only [cond_true, Option.some.injEq, Prod.mk.injEq] at h
      obtain ⟨rfl, rfl, rfl⟩ := h
      cases draw with
      | false =>
        simp only [cond_false] at h1
        refine wp_region ?_
        rw [List.range_eq_range', ← Array.length_toList]
        exact vops_ok hc ops.toList 0 A A1 W W1 β a w (by simp) hrel hl hf h1 (fun a' w' β' g1 g2 g3 g4 => hQ a' w' β' g1 g2 g3 g4)
      | true =>
        simp only [cond_true] at h1
        cases hm : (edgesOk 0 ops.toList && masksOk (masks ops.toList []) 0 ops.toList && Region.noSelect ops) with
        | false => rw [hm] at h1; cases h1
        | true =>
          rw [hm] at h1
          simp only [cond_true] at h1
          simp only [Bool.and_eq_true] at hm
          exact vregion_ok hmix hc hm.1.1 hm.1.2 hm.2 hrel hl hf h1 (fun a' w' β' g1 g2 g3 g4 => hQ a' w' β' g1 g2 g3 g4)
  | seq c1 c2 ih1 ih2 =>
    intro A W x A' W' h β a w hrel hl hf Q hQ
    unfold vcode at h
    refine wp_seq ?_
    split at h
    · rename_i A1 W1 h1
      refine ih1 A W _ A1 W1 h1 β a w hrel hl hf _ (fun a1 w1 β1 g1 g2 g3 g4 => ?_)
      exact ih2 A1 W1 x A' W' h β1 a1 w1 g2 (Nat.le_trans hl g4) g1 Q (fun a2 w2 β2 k1 k2 k3 k4 => hQ a2 w2 β2 k1 k2 (g3.trans k3) (Nat.le_trans g4 k4))
    · rename_i id A1 W1 h1
      simp only [Option.some.injEq, Prod.mk.injEq] at h
      obtain ⟨rfl, rfl, rfl⟩ := h
      exact ih1 A W _ _ _ h1 β a w hrel hl hf _ (fun a1 w1 β1 g1 g2 g3 g4 => hQ a1 w1 β1 g1 g2 g3 g4)
    · rename_i A1 W1 h1
      simp only [Option.some.injEq, Prod.mk.injEq] at h
      obtain ⟨rfl, rfl, rfl⟩ := h
      exact ih1 A W _ _ _ h1 β a w hrel hl hf _ (fun a1 w1 β1 g1 g2 g3 g4 => hQ a1 w1 β1 g1 g2 g3 g4)
    · cases h
  | cond o c1 c2 ih1 ih2 =>
    intro A W x A' W' h β a w hrel hl hf Q hQ
    unfold vcode at h
    split at h
    · rename_i h1
      exact wp_cond_true (pf_eq rfl (ev_ok hf h1)) (ih1 A W x A' W' h β a w hrel hl hf Q hQ)
    · rename_i h1
      exact wp_cond_false (pf_eq rfl (ev_ok hf h1)) (ih2 A W x A' W' h β a w hrel hl hf Q hQ)
    · cases h
  | block id b ih =>
    intro A W x A' W' h β a w hrel hl hf Q hQ
    unfold vcode at h
    refine wp_block ?_
    split at h
    · rename_i id' A1 W1 h1
      refine ih A W _ A1 W1 h1 β a w hrel hl hf _ (fun a1 w1 β1 g1 g2 g3 g4 => ?_)
      show (if id' = id then Q .normal a1 w1 else Q (.exit id') a1 w1)
      cases hb : id'.beq id with
      | true =>
        rw [hb] at h
        simp only [cond_true, Option.some.injEq, Prod.mk.injEq] at h
        obtain ⟨rfl, rfl, rfl⟩ := h
        rw [if_pos (Nat.eq_of_beq_eq_true hb)]
        exact hQ a1 w1 β1 g1 g2 g3 g4
      | false =>
        rw [hb] at h
        simp only [cond_false, Option.some.injEq, Prod.mk.injEq] at h
        obtain ⟨rfl, rfl, rfl⟩ := h
        rw [if_neg (fun e => by rw [e, Nat.beq_refl] at hb; cases hb)]
        exact hQ a1 w1 β1 g1 g2 g3 g4
    · rename_i A1 W1 h1
      simp only [Option.some.injEq, Prod.mk.injEq] at h
      obtain ⟨rfl, rfl, rfl⟩ := h
      exact ih A W _ _ _ h1 β a w hrel hl hf _ (fun a1 w1 β1 g1 g2 g3 g4 => hQ a1 w1 β1 g1 g2 g3 g4)
    · rename_i A1 W1 h1
      simp only [Option.some.injEq, Prod.mk.injEq] at h
      obtain ⟨rfl, rfl, rfl⟩ := h
      exact ih A W _ _ _ h1 β a w hrel hl hf _ (fun a1 w1 β1 g1 g2 g3 g4 => hQ a1 w1 β1 g1 g2 g3 g4)
    · cases h
  | loop b ih =>
    intro A W x A' W' h β a w hrel hl hf Q hQ
    unfold vcode at h
    exact wp_loop_rounds F (vloop_ok ih F A W x A' W' h β a w hrel hl hf Q hQ)
  | exit id =>
    intro A W x A' W' h β a w hrel hl hf Q hQ
    simp only [vcode, Option.some.injEq, Prod.mk.injEq] at h
    obtain ⟨rfl, rfl, rfl⟩ := h
    exact wp_exit (hQ a w β hf hrel (Ext.refl _ _ _) (Nat.le_refl _))
  | scope b ih =>
    intro A W x A' W' h β a w hrel hl hf Q hQ
    unfold vcode at h
    refine wp_scope_straight (ih A W x A' W' h β a w hrel hl hf _ (fun a1 w1 β1 g1 g2 g3 g4 => ?_))
    have := hQ a1 w1 β1 g1 g2 g3 g4
    cases x <;> exact this
  | ret =>
    intro A W x A' W' h β a w hrel hl hf Q hQ
    simp only [vcode, Option.some.injEq, Prod.mk.injEq] at h
    obtain ⟨rfl, rfl, rfl⟩ := h
    exact wp_ret (hQ a w β hf hrel (Ext.refl _ _ _) (Nat.le_refl _))
  | goto l =>
    intro A W x A' W' h
    simp [vcode] at h
  | refuse s =>
    intro A W x A' W' h
    simp [vcode] at h
  | rangeFunc f ps c1 c2 =>
    intro A W x A' W' h
    simp [vcode] at h
def resOf (tmps : Array Value) : ResultVar → Sem Value
  | .tmp t => pure (tmps.getD t undef)
  | .cell x t => do loadVar t (← asAddr (tmps.getD x undef))
theorem vresults_ok {β : Place} {nt : Nat} {A : Tr Value} {a : Act} {W : VW} {w : World} (hrel : Rel P D β W w) (hf : FR sy β nt A a) : ∀ (l : List ResultVar) (vs : List Value), vresults P A W l = some vs →
    ∃ vs', (l.mapM (resOf a.tmps)).run P w = .ok vs' w ∧ LR D β vs vs'
  | [], vs, h => by
    simp only [vresults, Option.some.injEq] at h
    subst h
    exact ⟨[], by simp, LR.nil⟩
  | .tmp t :: l, vs, h => by
    unfold vresults at h
    split at h
    · rename_i v us h1 h2
      simp only [Option.some.injEq] at h
      subst h
      obtain ⟨us', g1, g2⟩ := vresults_ok hrel hf l us h2
      refine ⟨a.tmps.getD t undef :: us', ?_, LR.cons (hf.vals t v h1) g2⟩
      rw [List.mapM_cons]
      simp only [resOf, Sem.run_bind, Sem.run_pure, Result.andThen, g1]
    · cases h
  | .cell t T :: l, vs, h => by
    unfold vresults at h
    split at h
    · rename_i p h0
      split at h
      · rename_i v us h1 h2
        simp only [Option.some.injEq] at h
        subst h
        obtain ⟨us', g1, g2⟩ := vresults_ok hrel hf l us h2
        have hp := hf.vals t _ h0
        obtain ⟨v', k1, k2⟩ := vload_ok hrel hp h1
        generalize hq : a.tmps.getD t undef = q at hp k1
        cases hp with
        | sym _ _ e => cases e
        | ptr b o a1 hA =>
          refine ⟨v' :: us', ?_, LR.cons k2 g2⟩
          rw [List.mapM_cons]
          have k1' : (loadVar T a1).run P w = .ok v' w := by
            simpa [Instr.loadAt, Instr.sureAddr, Result.andThen] using k1
          simp only [resOf, Sem.run_bind, hq, asAddr, Sem.run_pure, Result.andThen, k1', g1]
      · cases h
    · cases h
theorem Rel.grow {β : Place} {W : VW} {w w' : World} (h : Rel P D β W w) (hb : Below w.heap.size w w') : Rel P D β W w' :=
  ⟨h.unborn, fun i o hi => let ⟨b, d, x, e1, e2⟩ := h.live i o hi; ⟨b, d, x, e1, e2.mono (LeS.refl _) (hb.block b (h.lt i b d x e1))⟩, h.inj, fun i b d x hi => Nat.lt_of_lt_of_le (h.lt i b d x hi) hb.size⟩
theorem vcall_ok (hmix : P.follows .mixedOrders = true) (F : Nat) : ∀ n, CallOk sy (vcall sy F n)
  | 0 => fun lim f xs W v W' h => by cases h
  | n + 1 => by
    intro lim f xs W v W' h β w xs' hrel hg hl hlim
    unfold vcall at h
    split at h
    · rename_i v0 ht
      cases hro : romsOk sy.gl W sy.need with
      | false => rw [hro] at h; cases h
      | true =>
      rw [hro] at h
      simp only [cond_true, Option.some.injEq, Prod.mk.injEq] at h
      obtain ⟨rfl, rfl⟩ := h
      obtain ⟨t1, t2⟩ := sy.tabOk f xs v0 ht
      refine (t2 β xs' w (romsOk_need hrel hg hro) hl).mono ?_
      rintro e w' ⟨rfl, hb⟩
      exact ⟨v0, β, rfl, pf_vr D β v0 t1, hrel.grow hb, LeS.refl _, fun _ _ => rfl, Only.of_below hb, fun _ _ h => h⟩
    split at h
    rotate_left
    · cases h
    rename_i fn hfn
    split at h
    rotate_left
    · cases h
    rename_i c hcb
    have hF0 : FR sy β (xs.length + (fn.ntmps - xs.length)) (trOf 0 xs .nil) { tmps := xs'.toArray ++ Array.replicate (fn.ntmps - xs'.toArray.size) undef, defers := [] } := by
      have hlen := hl.1
      refine ⟨hg, by simp [hlen], rfl, fun t u hu => ?_⟩
      rcases trOf_at xs 0 .nil t u hu with ⟨_, h1⟩ | ⟨_, h1⟩
      · have ht : t < xs'.length := by
          rw [← hlen]
          exact (List.getElem?_eq_some_iff.1 h1).1
        have : (xs'.toArray ++ Array.replicate (fn.ntmps - xs'.toArray.size) undef).getD t undef = xs'[t] := by
          simp [Array.getD_eq_getD_getElem?, Array.getElem?_append, ht]
        rw [this]
        exact hl.2 t u _ h1 (List.getElem?_eq_getElem ht)
      · rw [show (Tr.nil : Tr Value).at t = none from Tr.get_nil _ _] at h1; cases h1
    have hcode := vcode_ok (sy := sy) hmix (vcall_ok hmix F n) lim (xs.length + (fn.ntmps - xs.length)) F c
    have fin : ∀ (x : VExit) A1 W1, vcode sy (vcall sy F n) lim (xs.length + (fn.ntmps - xs.length)) F c (trOf 0 xs .nil) W = some (x, A1, W1) → (x = .normal ∨ x = .ret) → (match vresults P A1 W1 fn.results.toList with | some vs => some (retOf vs, W1) | none => none) = some (v, W') →
        Calls P f xs'.toArray w fun e w' => ∃ v' β', e = .returned v' ∧ VR D β' v v' ∧ Rel P D β' W' w' ∧ Ext lim β β' w w' := by
      intro x A1 W1 h1 hx h2
      split at h2
      rotate_left
      · cases h2
      rename_i vs hvs
      simp only [Option.some.injEq, Prod.mk.injEq] at h2
      obtain ⟨rfl, rfl⟩ := h2
      refine calls_of_wp hfn hcb (hcode _ _ x A1 W1 h1 β _ w hrel hlim hF0 _ (fun a1 w1 β1 g1 g2 g3 g4 => ?_))
      obtain ⟨vs', k1, k2⟩ := vresults_ok g2 g1 fn.results.toList vs hvs
      have hres : (results fn a1.tmps).run P w1 = .ok (if h : vs'.length = 1 then vs'[0] else .tuple vs'.toArray) w1 := by
        change (do let vs ← fn.results.mapM (resOf a1.tmps); pure (if h : vs.size = 1 then vs[0] else .tuple vs) : Sem Value).run P w1 = _
        rw [Array.mapM_eq_mapM_toList]
        simp only [Sem.run_bind, Sem.run_map, k1, Result.andThen, Sem.run_pure]
        simp
      have hpost : a1.defers = [] ∧ ∃ u, (results fn a1.tmps).run P w1 = .ok u w1 ∧ ∃ v' β', Ending.returned u = .returned v' ∧ VR D β' (retOf vs) v' ∧ Rel P D β' W1 w1 ∧ Ext lim β β' w w1 := by
        refine ⟨g1.defers, _, hres, _, β1, rfl, ?_, g2, g3⟩
        have hlen := k2.1
        split
        · rename_i h1
          obtain ⟨y, rfl⟩ : ∃ y, vs' = [y] := by
            match vs', h1 with
            | [y], _ => exact ⟨y, rfl⟩
          obtain ⟨z, rfl⟩ : ∃ z, vs = [z] := by
            match vs, hlen with
            | [z], _ => exact ⟨z, rfl⟩
          exact k2.2 0 z y rfl rfl
        · rename_i h1
          have : retOf vs = .tuple vs.toArray := by
            match vs, hlen with
            | [], _ => rfl
            | [z], hlen => exact absurd hlen.symm h1
            | _ :: _ :: _, _ => rfl
          rw [this]
          exact .tuple vs vs' k2.1 k2.2
      rcases hx with rfl | rfl
      · exact hpost
      · exact hpost
    split at h
    · cases h
    · rename_i x A1 W1 hx h1
      refine fin x A1 W1 h1 ?_ h
      cases x with
      | normal => exact Or.inl rfl
      | ret => exact Or.inr rfl
      | exit id => exact (hx id rfl).elim
    · cases h
end
/-- the machine's memory where a call begins: package-level variables, as they stand -/
def globHeap : Globs → Tr VObj
  | [] => .nil
  | g :: l => (globHeap l).put g.1 (.rom (trOf 0 g.2 .nil) g.2.length)
def globW (n : Nat) (G : Globs) : VW := ⟨globHeap G, n⟩
theorem globHeap_at : ∀ (G : Globs) (i : Nat) (o : VObj), (globHeap G).at i = some o → ∃ g ∈ G, g.1 = i ∧ o = .rom (trOf 0 g.2 .nil) g.2.length
  | [], i, o, h => by rw [show (globHeap []).at i = none from Tr.get_nil _ _] at h; cases h
  | g :: l, i, o, h => by
    rcases Tr.at_put h with ⟨rfl, rfl⟩ | ⟨_, h'⟩
    · exact ⟨g, List.mem_cons_self, rfl, rfl⟩
    · obtain ⟨g', h1, h2⟩ := globHeap_at l i o h'
      exact ⟨g', List.mem_cons_of_mem _ h1, h2⟩
def globP (n : Nat) (G : Globs) : Place := fun i => bif i.blt n then (bif G.any (fun g => g.1.beq i) then .live i 0 0 else .dead) else .unborn
/-- a call, run by the machine: what it returns -/
theorem vrunG {P : Program} {D : Den} (sy : Sy P D) (hmix : P.follows .mixedOrders = true) (F n f ng : Nat) (G : Globs) (xs xs' : List Value) (v : Value) (hgl : ∀ g, sy.gl g = true → g < ng) (w : World) (hn : ng ≤ w.heap.size)
    (hG : ∀ g ∈ G, g.1 < ng ∧ pfs g.2 = true) (hN : NeedOk G w) (hx : ∀ β, LR D β xs xs') (hv : pf v = true) (h : (vcall sy F n ng f xs (globW ng G)).map (·.1) = some v) :
    Calls P f xs'.toArray w fun e w' => e = .returned v ∧ Below w.heap.size w w' := by
  cases hc : vcall sy F n ng f xs (globW ng G) with
  | none => rw [hc] at h; cases h
  | some r =>
    obtain ⟨v1, W'⟩ := r
    rw [hc] at h
    simp only [Option.map_some, Option.some.injEq] at h
    subst h
    have hp : ∀ i, globP ng G i = .unborn ∨ globP ng G i = .dead ∨ globP ng G i = .live i 0 0 := by
      intro i
      unfold globP
      cases i.blt ng <;> cases G.any (fun g => g.1.beq i) <;> simp
    have hrel : Rel P D (globP ng G) (globW ng G) w := by
      refine ⟨fun i hi => ?_, fun i o hi => ?_, fun i j b d x d' x' hi hj => ?_, fun i b d x hi => ?_⟩
      · have hi' : ng ≤ i := hi
        have : i.blt ng = false := by
          cases hb : i.blt ng with
          | false => rfl
          | true => simp [Nat.blt_eq] at hb; omega
        unfold globP
        rw [this]; rfl
      · obtain ⟨g, h1, h2, rfl⟩ := globHeap_at G i o hi
        obtain ⟨k1, k2⟩ := hG g h1
        have k3 := hN g h1
        subst h2
        refine ⟨g.1, 0, 0, ?_, fun k v hk hv => ?_⟩
        · have e1 : g.1.blt ng = true := by simpa [Nat.blt_eq] using k1
          have e2 : G.any (fun g' => g'.1.beq g.1) = true := List.any_eq_true.2 ⟨g, h1, Nat.beq_refl _⟩
          unfold globP
          rw [e1, e2]; rfl
        · rcases trOf_at g.2 0 .nil k v hv with ⟨_, q⟩ | ⟨_, q⟩
          · refine ⟨v, by rw [Nat.zero_add]; exact k3 k v (by simpa using q), pf_vr D _ v (pfs_mem k2 v (List.mem_of_getElem? q))⟩
          · rw [show (Tr.nil : Tr Value).at k = none from Tr.get_nil _ _] at q; cases q
      · rcases hp i with e | e | e <;> rw [e] at hi <;> cases hi
        rcases hp j with e' | e' | e' <;> rw [e'] at hj <;> cases hj
        rfl
      · have hlt : i < ng := by
          rcases Nat.lt_or_ge i ng with hh | hh
          · exact hh
          · unfold globP at hi
            have : i.blt ng = false := by
              cases hb : i.blt ng with
              | false => rfl
              | true => simp [Nat.blt_eq] at hb; omega
            rw [this] at hi; cases hi
        rcases hp i with e | e | e <;> rw [e] at hi <;> cases hi
        omega
    have hgo : GOk sy (globP ng G) := by
      intro g hg
      have h1 := hgl g hg
      rcases hp g with e | e | e
      · unfold globP at e
        have : g.blt ng = true := by simpa [Nat.blt_eq] using h1
        rw [this] at e
        cases hb : G.any (fun g' => g'.1.beq g) <;> rw [hb] at e <;> cases e
      · exact Or.inl e
      · exact Or.inr ⟨0, e⟩
    refine (vcall_ok hmix F n ng f xs (globW ng G) v1 W' hc _ w xs' hrel hgo (hx _) (Nat.le_refl _)).mono ?_
    rintro e w' ⟨v', β', rfl, g1, g2, g3⟩
    refine ⟨by rw [pf_eq hv g1], g3.only.below (Nat.le_refl _) ?_⟩
    rintro k ⟨i, d, x, hi, hk⟩
    unfold globP at hk
    have : i.blt ng = false := by
      cases hb : i.blt ng with
      | false => rfl
      | true => simp [Nat.blt_eq] at hb; omega
    rw [this] at hk
    cases hk
/-- a call where no package-level variable is looked at -/
theorem vrunS {P : Program} {D : Den} (sy : Sy P D) (hgl : ∀ g, sy.gl g = false) (hmix : P.follows .mixedOrders = true) (F n f : Nat) (xs xs' : List Value) (v : Value) (hx : ∀ β, LR D β xs xs') (hv : pf v = true) (h : (vcall sy F n 0 f xs (globW 0 [])).map (·.1) = some v) (w : World) :
    Calls P f xs'.toArray w fun e w' => e = .returned v ∧ Below w.heap.size w w' :=
  vrunG sy hmix F n f 0 [] xs xs' v (fun g hg => by rw [hgl] at hg; cases hg) w (Nat.zero_le _) (fun g hg => by cases hg) (fun g hg => by cases hg) hx hv h
/-- .. of values that hold no places -/
theorem vrun {P : Program} (hmix : P.follows .mixedOrders = true) (F n f : Nat) (xs : List Value) (v : Value) (hx : pfs xs = true) (hv : pf v = true) (h : (vcall (Sy.none P (fun _ => none)) F n 0 f xs (globW 0 [])).map (·.1) = some v) (w : World) :
    Calls P f xs.toArray w fun e w' => e = .returned v ∧ Below w.heap.size w w' := vrunS _ (fun _ => rfl) hmix F n f xs xs v (fun _ => LR.of_pfs hx) hv h w
end Go.Proofs.Ytednnkhomfabaaa
