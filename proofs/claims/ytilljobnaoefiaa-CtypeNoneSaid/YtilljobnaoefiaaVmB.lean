/- A machine to run closed calls: code, calls, and what a run shows. No condition. -/
import Derived.Test.YtilljobnaoefiaaVmA
import Derived.LoopN
import Derived.Scope
namespace Go.Proofs.Ytilljobnaoefiaa
open Go.RowKit
set_option linter.unusedVariables false
inductive VExit where
  | normal
  | exit (id : Nat)
  | ret
abbrev VOut := Option (VExit × Tr Value × VW)
def vloop (body : Tr Value → VW → VOut) : Nat → Tr Value → VW → VOut
  | 0, _, _ => none
  | n + 1, A, W =>
    match body A W with
    | some (.normal, A', W') => vloop body n A' W'
    | some (.exit id, A', W') => some (.exit id, A', W')
    | some (.ret, A', W') => some (.ret, A', W')
    | none => none
def vcode {P : Program} {D : Den} (sy : Sy P D) (call : VCall) (lim nt F : Nat) : Code → Tr Value → VW → VOut
  | .skip, A, W => some (.normal, A, W)
  | .label _, A, W => some (.normal, A, W)
  | .region _ ops draw, A, W =>
    (match bif draw then
        bif edgesOk 0 ops.toList && masksOk (masks ops.toList []) 0 ops.toList && Region.noSelect ops then vregion sy call lim nt ops.toList (masks ops.toList []) (fmask ops 0 ops.toList) ops.size 1000 0 A W else none
      else vops sy call lim nt ops.toList ops.toList A W with
    | some (A', W') => bif W.next.ble W'.next then some (.normal, A', W') else none
    | none => none)
  | .seq x y, A, W =>
    (match vcode sy call lim nt F x A W with
    | some (.normal, A', W') => vcode sy call lim nt F y A' W'
    | some (.exit id, A', W') => some (.exit id, A', W')
    | some (.ret, A', W') => some (.ret, A', W')
    | none => none)
  | .cond c x y, A, W =>
    (match ev A c with
    | some (.bool true) => vcode sy call lim nt F x A W
    | some (.bool false) => vcode sy call lim nt F y A W
    | _ => none)
  | .block id b, A, W =>
    (match vcode sy call lim nt F b A W with
    | some (.exit id', A', W') => bif id'.beq id then some (.normal, A', W') else some (.exit id', A', W')
    | some (.normal, A', W') => some (.normal, A', W')
    | some (.ret, A', W') => some (.ret, A', W')
    | none => none)
  | .loop b, A, W => vloop (vcode sy call lim nt F b) F A W
  | .exit id, A, W => some (.exit id, A, W)
  | .scope b, A, W => vcode sy call lim nt F b A W
  | .ret, A, W => some (.ret, A, W)
  | _, _, _ => none
def vresults (P : Program) (A : Tr Value) (W : VW) : List ResultVar → Option (List Value)
  | [] => some []
  | .tmp t :: l => (match A.at t, vresults P A W l with | some v, some vs => some (v :: vs) | _, _ => none)
  | .cell t T :: l =>
    (match A.at t with
    | some (.pointer (some p)) => (match vload P W T (.pointer (some p)), vresults P A W l with | some v, some vs => some (v :: vs) | _, _ => none)
    | _ => none)
def retOf : List Value → Value
  | [v] => v
  | vs => .tuple vs.toArray
def vcall {P : Program} {D : Den} (sy : Sy P D) (F : Nat) : Nat → VCall
  | 0, _, _, _, _ => none
  | n + 1, lim, f, xs, W =>
    match sy.tab f xs with
    | some v => some (v, W)
    | none =>
    match P.funcs[f]? with
    | some fn =>
      match fn.body with
      | some c =>
        (match vcode sy (vcall sy F n) lim (xs.length + (fn.ntmps - xs.length)) F c (trOf 0 xs .nil) W with
        | some (.exit _, _, _) => none
        | some (_, A', W') => (match vresults P A' W' fn.results.toList with | some vs => some (retOf vs, W') | none => none)
        | none => none)
      | none => none
    | none => none
section
variable {P : Program} {D : Den} {sy : Sy P D}
def VExit.to : VExit → Exit
  | .normal => .normal
  | .exit id => .exit id
  | .ret => .ret
/-- what a piece of code does, by the machine -/
def CodeOk (P : Program) (D : Den) (lim nt : Nat) (c : Code) (r : Tr Value → VW → VOut) : Prop :=
  ∀ A W x A' W', r A W = some (x, A', W') → ∀ β a w, Rel P D β W w → lim ≤ W.next → FR D β nt A a → ∀ Q : Exit → Act → World → Prop,
    (∀ a' w' β', FR D β' nt A' a' → Rel P D β' W' w' → Ext lim β β' w w' → W.next ≤ W'.next → Q x.to a' w') → c.wp P Q a w
theorem vloop_ok {lim nt : Nat} {c : Code} {r : Tr Value → VW → VOut} (hr : CodeOk P D lim nt c r) : ∀ (n : Nat) A W x A' W', vloop r n A W = some (x, A', W') → ∀ β a w, Rel P D β W w → lim ≤ W.next → FR D β nt A a → ∀ Q : Exit → Act → World → Prop,
    (∀ a' w' β', FR D β' nt A' a' → Rel P D β' W' w' → Ext lim β β' w w' → W.next ≤ W'.next → Q x.to a' w') → Code.rounds P c Q n a w
  | 0, _, _, _, _, _, h, _, _, _, _, _, _, _, _ => by cases h
  | n + 1, A, W, x, A', W', h, β, a, w, hrel, hl, hf, Q, hQ => by
    rw [rounds_succ]
    unfold vloop at h
    split at h
    · rename_i A1 W1 h1
      refine hr A W _ A1 W1 h1 β a w hrel hl hf _ (fun a1 w1 β1 g1 g2 g3 g4 => ?_)
      exact vloop_ok hr n A1 W1 x A' W' h β1 a1 w1 g2 (Nat.le_trans hl g4) g1 Q (fun a2 w2 β2 k1 k2 k3 k4 => hQ a2 w2 β2 k1 k2 (g3.trans k3) (Nat.le_trans g4 k4))
    · rename_i id A1 W1 h1
      simp only [Option.some.injEq, Prod.mk.injEq] at h
      obtain ⟨rfl, rfl, rfl⟩ := h
      exact hr A W _ _ _ h1 β a w hrel hl hf _ (fun a1 w1 β1 g1 g2 g3 g4 => hQ a1 w1 β1 g1 g2 g3 g4)
    · rename_i A1 W1 h1
      simp only [Option.some.injEq, Prod.mk.injEq] at h
      obtain ⟨rfl, rfl, rfl⟩ := h
      exact hr A W _ _ _ h1 β a w hrel hl hf _ (fun a1 w1 β1 g1 g2 g3 g4 => hQ a1 w1 β1 g1 g2 g3 g4)
    · cases h
theorem vcode_ok (hmix : P.follows .mixedOrders = true) {call : VCall} (hc : CallOk P D call) (lim nt F : Nat) : ∀ c : Code, CodeOk P D lim nt c (vcode sy call lim nt F c) := by
  intro c
  induction c with
  | skip =>
    intro A W x A' W' h β a w hrel hl hf Q hQ
    simp only [vcode, Option.some.injEq, Prod.mk.injEq] at h
    obtain ⟨rfl, rfl, rfl⟩ := h
    exact wp_skip (hQ a w β hf hrel (Ext.refl _ _ _) (Nat.le_refl _))
  | label l =>
    intro A W x A' W' h β a w hrel hl hf Q hQ
    simp only [vcode, Option.some.injEq, Prod.mk.injEq] at h
    obtain ⟨rfl, rfl, rfl⟩ := h
    exact wp_label (hQ a w β hf hrel (Ext.refl _ _ _) (Nat.le_refl _))
  | region id ops draw =>
    intro A W x A' W' h β a w hrel hl hf Q hQ
    unfold vcode at h
    split at h
    rotate_left
    · cases h
    rename_i A1 W1 h1
    cases hb : W.next.ble W1.next with
    | false => rw [hb] at h; cases h
    | true =>
      rw [hb] at h
      simp only [cond_true, Option.some.injEq, Prod.mk.injEq] at h
      obtain ⟨rfl, rfl, rfl⟩ := h
      cases draw with
      | false =>
        simp only [cond_false] at h1
        refine wp_region ?_
        rw [List.range_eq_range', ← Array.length_toList]
        exact vops_ok hc ops.toList 0 A A1 W W1 β a w (by simp) hrel hl hf h1 (fun a' w' β' g1 g2 g3 g4 => hQ a' w' β' g1 g2 g3 g4)
      | true =>
        simp only [cond_true] at h1
        cases hm : (edgesOk 0 ops.toList && masksOk (masks ops.toList []) 0 ops.toList && Region.noSelect ops) with
        | false => rw [hm] at h1; cases h1
        | true =>
          rw [hm] at h1
          simp only [cond_true] at h1
          simp only [Bool.and_eq_true] at hm
          exact vregion_ok hmix hc hm.1.1 hm.1.2 hm.2 hrel hl hf h1 (fun a' w' β' g1 g2 g3 g4 => hQ a' w' β' g1 g2 g3 g4)
  | seq c1 c2 ih1 ih2 =>
    intro A W x A' W' h β a w hrel hl hf Q hQ
    unfold vcode at h
    refine wp_seq ?_
    split at h
    · rename_i A1 W1 h1
      refine ih1 A W _ A1 W1 h1 β a w hrel hl hf _ (fun a1 w1 β1 g1 g2 g3 g4 => ?_)
      exact ih2 A1 W1 x A' W' h β1 a1 w1 g2 (Nat.le_trans hl g4) g1 Q (fun a2 w2 β2 k1 k2 k3 k4 => hQ a2 w2 β2 k1 k2 (g3.trans k3) (Nat.le_trans g4 k4))
    · rename_i id A1 W1 h1
      simp only [Option.some.injEq, Prod.mk.injEq] at h
      obtain ⟨rfl, rfl, rfl⟩ := h
      exact ih1 A W _ _ _ h1 β a w hrel hl hf _ (fun a1 w1 β1 g1 g2 g3 g4 => hQ a1 w1 β1 g1 g2 g3 g4)
    · rename_i A1 W1 h1
      simp only [Option.some.injEq, Prod.mk.injEq] at h
      obtain ⟨rfl, rfl, rfl⟩ := h
      exact ih1 A W _ _ _ h1 β a w hrel hl hf _ (fun a1 w1 β1 g1 g2 g3 g4 => hQ a1 w1 β1 g1 g2 g3 g4)
    · cases h
  | cond o c1 c2 ih1 ih2 =>
    intro A W x A' W' h β a w hrel hl hf Q hQ
    unfold vcode at h
    split at h
    · rename_i h1
      exact wp_cond_true (pf_eq rfl (ev_ok hf h1)) (ih1 A W x A' W' h β a w hrel hl hf Q hQ)
    · rename_i h1
      exact wp_cond_false (pf_eq rfl (ev_ok hf h1)) (ih2 A W x A' W' h β a w hrel hl hf Q hQ)
    · cases h
  | block id b ih =>
    intro A W x A' W' h β a w hrel hl hf Q hQ
    unfold vcode at h
    refine wp_block ?_
    split at h
    · rename_i id' A1 W1 h1
      refine ih A W _ A1 W1 h1 β a w hrel hl hf _ (fun a1 w1 β1 g1 g2 g3 g4 => ?_)
      show (if id' = id then Q .normal a1 w1 else Q (.exit id') a1 w1)
      cases hb : id'.beq id with
      | true =>
        rw [hb] at h
        simp only [cond_true, Option.some.injEq, Prod.mk.injEq] at h
        obtain ⟨rfl, rfl, rfl⟩ := h
        rw [if_pos (Nat.eq_of_beq_eq_true hb)]
        exact hQ a1 w1 β1 g1 g2 g3 g4
      | false =>
        rw [hb] at h
        simp only [cond_false, Option.some.injEq, Prod.mk.injEq] at h
        obtain ⟨rfl, rfl, rfl⟩ := h
        rw [if_neg (fun e => by rw [e, Nat.beq_refl] at hb; cases hb)]
        exact hQ a1 w1 β1 g1 g2 g3 g4
    · rename_i A1 W1 h1
      simp only [Option.some.injEq, Prod.mk.injEq] at h
      obtain ⟨rfl, rfl, rfl⟩ := h
      exact ih A W _ _ _ h1 β a w hrel hl hf _ (fun a1 w1 β1 g1 g2 g3 g4 => hQ a1 w1 β1 g1 g2 g3 g4)
    · rename_i A1 W1 h1
      simp only [Option.some.injEq, Prod.mk.injEq] at h
      obtain ⟨rfl, rfl, rfl⟩ := h
      exact ih A W _ _ _ h1 β a w hrel hl hf _ (fun a1 w1 β1 g1 g2 g3 g4 => hQ a1 w1 β1 g1 g2 g3 g4)
    · cases h
  | loop b ih =>
    intro A W x A' W' h β a w hrel hl hf Q hQ
    unfold vcode at h
    exact wp_loop_rounds F (vloop_ok ih F A W x A' W' h β a w hrel hl hf Q hQ)
  | exit id =>
    intro A W x A' W' h β a w hrel hl hf Q hQ
    simp only [vcode, Option.some.injEq, Prod.mk.injEq] at h
    obtain ⟨rfl, rfl, rfl⟩ := h
    exact wp_exit (hQ a w β hf hrel (Ext.refl _ _ _) (Nat.le_refl _))
  | scope b ih =>
    intro A W x A' W' h β a w hrel hl hf Q hQ
    unfold vcode at h
    refine wp_scope_straight (ih A W x A' W' h β a w hrel hl hf _ (fun a1 w1 β1 g1 g2 g3 g4 => ?_))
    have := hQ a1 w1 β1 g1 g2 g3 g4
    cases x <;> exact this
  | ret =>
    intro A W x A' W' h β a w hrel hl hf Q hQ
    simp only [vcode, Option.some.injEq, Prod.mk.injEq] at h
    obtain ⟨rfl, rfl, rfl⟩ := h
    exact wp_ret (hQ a w β hf hrel (Ext.refl _ _ _) (Nat.le_refl _))
  | goto l =>
    intro A W x A' W' h
    simp [vcode] at h
  | refuse s =>
    intro A W x A' W' h
    simp [vcode] at h
  | rangeFunc f ps c1 c2 =>
    intro A W x A' W' h
    simp [vcode] at h
def resOf (tmps : Array Value) : ResultVar → Sem Value
  | .tmp t => pure (tmps.getD t undef)
  | .cell x t => do loadVar t (← asAddr (tmps.getD x undef))
theorem vresults_ok {β : Place} {nt : Nat} {A : Tr Value} {a : Act} {W : VW} {w : World} (hrel : Rel P D β W w) (hf : FR D β nt A a) : ∀ (l : List ResultVar) (vs : List Value), vresults P A W l = some vs →
    ∃ vs', (l.mapM (resOf a.tmps)).run P w = .ok vs' w ∧ LR D β vs vs'
  | [], vs, h => by
    simp only [vresults, Option.some.injEq] at h
    subst h
    exact ⟨[], by simp, LR.nil⟩
  | .tmp t :: l, vs, h => by
    unfold vresults at h
    split at h
    · rename_i v us h1 h2
      simp only [Option.some.injEq] at h
      subst h
      obtain ⟨us', g1, g2⟩ := vresults_ok hrel hf l us h2
      refine ⟨a.tmps.getD t undef :: us', ?_, LR.cons (hf.vals t v h1) g2⟩
      rw [List.mapM_cons]
      simp only [resOf, Sem.run_bind, Sem.run_pure, Result.andThen, g1]
    · cases h
  | .cell t T :: l, vs, h => by
    unfold vresults at h
    split at h
    · rename_i p h0
      split at h
      · rename_i v us h1 h2
        simp only [Option.some.injEq] at h
        subst h
        obtain ⟨us', g1, g2⟩ := vresults_ok hrel hf l us h2
        have hp := hf.vals t _ h0
        obtain ⟨v', k1, k2⟩ := vload_ok hrel hp h1
        generalize hq : a.tmps.getD t undef = q at hp k1
        cases hp with
        | sym _ _ e => cases e
        | ptr b o a1 hA =>
          refine ⟨v' :: us', ?_, LR.cons k2 g2⟩
          rw [List.mapM_cons]
          have k1' : (loadVar T a1).run P w = .ok v' w := by
            simpa [Instr.loadAt, Instr.sureAddr, Result.andThen] using k1
          simp only [resOf, Sem.run_bind, hq, asAddr, Sem.run_pure, Result.andThen, k1', g1]
      · cases h
    · cases h
theorem Rel.grow {β : Place} {W : VW} {w w' : World} (h : Rel P D β W w) (hb : Below w.heap.size w w') : Rel P D β W w' :=
  ⟨h.unborn, fun i o hi => let ⟨b, d, x, e1, e2⟩ := h.live i o hi; ⟨b, d, x, e1, e2.mono (LeS.refl _) (hb.block b (h.lt i b d x e1))⟩, h.inj, fun i b d x hi => Nat.lt_of_lt_of_le (h.lt i b d x hi) hb.size⟩
theorem vcall_ok (hmix : P.follows .mixedOrders = true) (F : Nat) : ∀ n, CallOk P D (vcall sy F n)
  | 0 => fun lim f xs W v W' h => by cases h
  | n + 1 => by
    intro lim f xs W v W' h β w xs' hrel hl hlim
    unfold vcall at h
    split at h
    · rename_i v0 ht
      simp only [Option.some.injEq, Prod.mk.injEq] at h
      obtain ⟨rfl, rfl⟩ := h
      obtain ⟨t1, t2⟩ := sy.tabOk f xs v0 ht
      refine (t2 β xs' w hl).mono ?_
      rintro e w' ⟨rfl, hb⟩
      exact ⟨v0, β, rfl, pf_vr D β v0 t1, hrel.grow hb, LeS.refl _, fun _ _ => rfl, Only.of_below hb, fun _ _ h => h⟩
    split at h
    rotate_left
    · cases h
    rename_i fn hfn
    split at h
    rotate_left
    · cases h
    rename_i c hcb
    have hF0 : FR D β (xs.length + (fn.ntmps - xs.length)) (trOf 0 xs .nil) { tmps := xs'.toArray ++ Array.replicate (fn.ntmps - xs'.toArray.size) undef, defers := [] } := by
      have hlen := hl.1
      refine ⟨by simp [hlen], rfl, fun t u hu => ?_⟩
      rcases trOf_at xs 0 .nil t u hu with ⟨_, h1⟩ | ⟨_, h1⟩
      · have ht : t < xs'.length := by
          rw [← hlen]
          exact (List.getElem?_eq_some_iff.1 h1).1
        have : (xs'.toArray ++ Array.replicate (fn.ntmps - xs'.toArray.size) undef).getD t undef = xs'[t] := by
          simp [Array.getD_eq_getD_getElem?, Array.getElem?_append, ht]
        rw [this]
        exact hl.2 t u _ h1 (List.getElem?_eq_getElem ht)
      · rw [show (Tr.nil : Tr Value).at t = none from Tr.get_nil _ _] at h1; cases h1
    have hcode := vcode_ok (sy := sy) hmix (vcall_ok hmix F n) lim (xs.length + (fn.ntmps - xs.length)) F c
    have fin : ∀ (x : VExit) A1 W1, vcode sy (vcall sy F n) lim (xs.length + (fn.ntmps - xs.length)) F c (trOf 0 xs .nil) W = some (x, A1, W1) → (x = .normal ∨ x = .ret) → (match vresults P A1 W1 fn.results.toList with | some vs => some (retOf vs, W1) | none => none) = some (v, W') →
        Calls P f xs'.toArray w fun e w' => ∃ v' β', e = .returned v' ∧ VR D β' v v' ∧ Rel P D β' W' w' ∧ Ext lim β β' w w' := by
      intro x A1 W1 h1 hx h2
      split at h2
      rotate_left
      · cases h2
      rename_i vs hvs
      simp only [Option.some.injEq, Prod.mk.injEq] at h2
      obtain ⟨rfl, rfl⟩ := h2
      refine calls_of_wp hfn hcb (hcode _ _ x A1 W1 h1 β _ w hrel hlim hF0 _ (fun a1 w1 β1 g1 g2 g3 g4 => ?_))
      obtain ⟨vs', k1, k2⟩ := vresults_ok g2 g1 fn.results.toList vs hvs
      have hres : (results fn a1.tmps).run P w1 = .ok (if h : vs'.length = 1 then vs'[0] else .tuple vs'.toArray) w1 := by
        change (do let vs ← fn.results.mapM (resOf a1.tmps); pure (if h : vs.size = 1 then vs[0] else .tuple vs) : Sem Value).run P w1 = _
        rw [Array.mapM_eq_mapM_toList]
        simp only [Sem.run_bind, Sem.run_map, k1, Result.andThen, Sem.run_pure]
        simp
      have hpost : a1.defers = [] ∧ ∃ u, (results fn a1.tmps).run P w1 = .ok u w1 ∧ ∃ v' β', Ending.returned u = .returned v' ∧ VR D β' (retOf vs) v' ∧ Rel P D β' W1 w1 ∧ Ext lim β β' w w1 := by
        refine ⟨g1.defers, _, hres, _, β1, rfl, ?_, g2, g3⟩
        have hlen := k2.1
        split
        · rename_i h1
          obtain ⟨y, rfl⟩ : ∃ y, vs' = [y] := by
            match vs', h1 with
            | [y], _ => exact ⟨y, rfl⟩
          obtain ⟨z, rfl⟩ : ∃ z, vs = [z] := by
            match vs, hlen with
            | [z], _ => exact ⟨z, rfl⟩
          exact k2.2 0 z y rfl rfl
        · rename_i h1
          have : retOf vs = .tuple vs.toArray := by
            match vs, hlen with
            | [], _ => rfl
            | [z], hlen => exact absurd hlen.symm h1
            | _ :: _ :: _, _ => rfl
          rw [this]
          exact .tuple vs vs' k2.1 k2.2
      rcases hx with rfl | rfl
      · exact hpost
      · exact hpost
    split at h
    · cases h
    · rename_i x A1 W1 hx h1
      refine fin x A1 W1 h1 ?_ h
      cases x with
      | normal => exact Or.inl rfl
      | ret => exact Or.inr rfl
      | exit id => exact (hx id rfl).elim
    · cases h
end
/-- a call with values that hold no places, run by the machine: what it returns -/
theorem vrunS {P : Program} {D : Den} (sy : Sy P D) (hmix : P.follows .mixedOrders = true) (F n f : Nat) (xs xs' : List Value) (v : Value) (hx : ∀ β, LR D β xs xs') (hv : pf v = true) (h : (vcall sy F n 0 f xs VW.empty).map (·.1) = some v) (w : World) :
    Calls P f xs'.toArray w fun e w' => e = .returned v ∧ Below w.heap.size w w' := by
  cases hc : vcall sy F n 0 f xs VW.empty with
  | none => rw [hc] at h; cases h
  | some r =>
    obtain ⟨v1, W'⟩ := r
    rw [hc] at h
    simp only [Option.map_some, Option.some.injEq] at h
    subst h
    have hrel : Rel P D (fun _ => .unborn) VW.empty w := ⟨fun _ _ => rfl, fun i o hi => (by
      rw [show VW.empty.heap.at i = none from Tr.get_nil _ _] at hi; cases hi), fun i j b d x d' x' hi => (by cases hi), fun i b d x hi => (by cases hi)⟩
    refine (vcall_ok hmix F n 0 f xs VW.empty v1 W' hc _ w xs' hrel (hx _) (Nat.zero_le _)).mono ?_
    rintro e w' ⟨v', β', rfl, g1, g2, g3⟩
    refine ⟨by rw [pf_eq hv g1], g3.only.below (Nat.le_refl _) ?_⟩
    rintro k ⟨i, d, x, _, hk⟩
    cases hk
theorem vrun {P : Program} (hmix : P.follows .mixedOrders = true) (F n f : Nat) (xs : List Value) (v : Value) (hx : pfs xs = true) (hv : pf v = true) (h : (vcall (Sy.none P (fun _ => none)) F n 0 f xs VW.empty).map (·.1) = some v) (w : World) :
    Calls P f xs.toArray w fun e w' => e = .returned v ∧ Below w.heap.size w w' := vrunS _ hmix F n f xs xs v (fun _ => LR.of_pfs hx) hv h w
end Go.Proofs.Ytilljobnaoefiaa
