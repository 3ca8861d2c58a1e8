/- A machine to run closed calls: operations one behind the other, calls. No condition. -/
import Derived.Test.YtednnkhomfabaaaVm6
namespace Go.Proofs.Ytednnkhomfabaaa
open Go.RowKit
set_option linter.unusedVariables false
abbrev VCall := Nat → FuncId → List Value → VW → Option (Value × VW)
/-- is an operation taken? (none: not known) -/
def vwanted (ops : List Oper) (A : Tr Value) (o : Oper) : Option Bool :=
  match o.guard with
  | none => some true
  | some (j, want) =>
    match ops[j]? with
    | some oj =>
      match oj.dst with
      | some d =>
        match A.at d with
        | some (.bool b) => some (b == want)
        | some (.tuple ⟨[]⟩) => some false
        | _ => none
      | none => none
    | none => none
def vregGen {P : Program} {D : Den} (sy : Sy P D) (A : Tr Value) (o : Oper) : Option Value :=
  match evL sy A o.op.operands.toList with
  | some vs =>
    bif pfs vs && notSel o.op then
      (match pureRun P (execOp (fun x => (ev sy A x).getD undef) o) with
      | some (.value v) => bif pf v then some v else none
      | _ => none)
    else none
  | none => none
def orElse' (r q : Option Value) : Option Value :=
  match r with
  | some v => some v
  | none => q
/-- an operation that looks at its operands alone -/
def vreg {P : Program} {D : Den} (sy : Sy P D) (A : Tr Value) (o : Oper) : Option Value :=
  match o.op with
  | .move x => ev sy A x
  | .assign x => ev sy A x
  | .extract x k => (match ev sy A x with | some (.tuple vs) => vs.toList[k]? | _ => none)
  | .pick c a b => (match ev sy A c with | some (.bool t) => ev sy A (bif t then a else b) | _ => none)
  | .build T parts => (match evP sy A parts.toList with | some ps => vbuild P T ps | none => none)
  | .field T x f => (match ev sy A x with | some v => vfield P T v f | none => none)
  | .fieldAddr T x f => (match ev sy A x with | some v => vfieldAt P T v f | none => none)
  | .indexAddr T x i => (match ev sy A x, ev sy A i with | some a, some b => vindexAt P T a b | _, _ => none)
  | .index T x i => (match ev sy A x, ev sy A i with | some a, some b => orElse' (vindex P T a b) (vregGen sy A o) | _, _ => none)
  | .binOp op T x y _ => (match ev sy A x, ev sy A y with | some a, some b => orElse' (vbin P op T a b) (orElse' (sy.bin op a b) (vregGen sy A o)) | _, _ => none)
  | .unOp op _ x => (match ev sy A x with | some v => orElse' (sy.un op v) (vregGen sy A o) | none => none)
  | _ => vregGen sy A o
def vregW {P : Program} {D : Den} (sy : Sy P D) (ops : List Oper) (A : Tr Value) (o : Oper) : Option Value :=
  match vwanted ops A o with
  | some true => vreg sy A o
  | some false => some undef
  | none => none
def regKind : Op → Bool
  | .move _ | .assign _ | .extract _ _ | .pick _ _ _ | .binOp .. | .unOp .. | .field .. | .fieldAddr .. | .indexAddr .. | .index .. | .build .. => true
  | _ => false
def vexec1 {P : Program} {D : Den} (sy : Sy P D) (call : VCall) (lim : Nat) (ops : List Oper) (A : Tr Value) (W : VW) (o : Oper) : Option (Value × VW) :=
  match bif regKind o.op then vregW sy ops A o else none with
  | some v => some (v, W)
  | none =>
  match vwanted ops A o with
  | some true =>
    match vop sy lim A W o with
    | some (.val v, W') => bif W.next.ble W'.next then some (v, W') else none
    | some (.skip, W') => bif W.next.ble W'.next then some (undef, W') else none
    | some (.call f xs, W') =>
      match call lim f xs W' with
      | some (v, W'') => bif W.next.ble W''.next then some (v, W'') else none
      | none => none
    | none => none
  | some false => some (undef, W)
  | none => none
section
variable {P : Program} {D : Den} (sy : Sy P D)
/-- what calls do is what the machine says -/
def CallOk (call : VCall) : Prop := ∀ lim f xs W v W', call lim f xs W = some (v, W') → ∀ β w xs', Rel P D β W w → GOk sy β → LR D β xs xs' → lim ≤ W.next →
  Calls P f xs'.toArray w fun e w' => ∃ v' β', e = .returned v' ∧ VR D β' v v' ∧ Rel P D β' W' w' ∧ Ext lim β β' w w'
end
section
variable {P : Program} {D : Den} {sy : Sy P D}
theorem vwanted_ok {β : Place} {nt : Nat} {A : Tr Value} {a : Act} (h : FR sy β nt A a) {ops : Array Oper} {o : Oper} {b : Bool} (hv : vwanted ops.toList A o = some b) : Region.wanted o (yielded ops a.tmps) = b := by
  unfold vwanted at hv
  unfold Region.wanted
  split at hv
  · rename_i hg
    simp only [Option.some.injEq] at hv
    subst hv
    rw [hg]
  · rename_i j want hg
    rw [hg]
    split at hv
    rotate_left
    · cases hv
    rename_i oj hoj
    split at hv
    rotate_left
    · cases hv
    rename_i d hd
    have hoj' : ops[j]? = some oj := by simpa using hoj
    split at hv
    · rename_i b0 hA
      simp only [Option.some.injEq] at hv
      subst hv
      have := h.vals d _ hA
      have e : a.tmps.getD d undef = .bool b0 := pf_eq rfl this
      have hlt : d < a.tmps.size := by
        rcases Nat.lt_or_ge d a.tmps.size with hh | hh
        · exact hh
        · rw [Array.getD_eq_getD_getElem?, Array.getElem?_eq_none hh] at e; cases e
      have e2 : a.tmps[d]? = some (.bool b0) := by
        rw [Array.getD_eq_getD_getElem?, Array.getElem?_eq_getElem hlt] at e
        rw [Array.getElem?_eq_getElem hlt]
        simpa using e
      have : yielded ops a.tmps j = some b0 := by simp [yielded, hoj', hd, e2]
      simp only [this]
      cases b0 <;> cases want <;> rfl
    · rename_i hA
      simp only [Option.some.injEq] at hv
      subst hv
      have := h.vals d _ hA
      have e : a.tmps.getD d undef = .tuple #[] := pf_eq rfl this
      have : yielded ops a.tmps j = none := by
        simp only [yielded, hoj', hd, Option.bind_some]
        rcases Nat.lt_or_ge d a.tmps.size with hlt | hh
        · rw [Array.getD_eq_getD_getElem?, Array.getElem?_eq_getElem hlt] at e
          rw [Array.getElem?_eq_getElem hlt]
          simp only [Option.getD_some] at e
          rw [e]
        · rw [Array.getElem?_eq_none hh]
      simp only [this]
      rfl
    · cases hv
theorem AOk.op {β : Place} {s : Sem Value} {v : Value} (h : AOk P D β s v) : ∃ v', VR D β v v' ∧ ∀ w, (do pure (.value (← s)) : Sem Next).run P w = .ok (.value v') w :=
  let ⟨v', h1, h2⟩ := h; ⟨v', h1, fun w => by simp [h2 w, Result.andThen]⟩
theorem vregGen_ok {β : Place} {nt : Nat} {A : Tr Value} {a : Act} (hf : FR sy β nt A a) {o : Oper} {v : Value} (hv : vregGen sy A o = some v) : ∃ v', VR D β v v' ∧ ∀ w, (execOp a.eval o).run P w = .ok (.value v') w := by
  unfold vregGen at hv
  split at hv
  rotate_left
  · cases hv
  rename_i vs hvs
  cases hc : (pfs vs && notSel o.op) with
  | false => rw [hc] at hv; cases hv
  | true =>
    rw [hc] at hv
    simp only [cond_true] at hv
    simp only [Bool.and_eq_true] at hc
    have heq := pfs_LR_eq hc.1 (evL_ok hf hvs)
    have hag := evL_agree hvs heq
    have hsel : ∀ cs b, o.op ≠ .select cs b := fun cs b e => (by
      have := hc.2
      rw [e] at this
      cases this)
    have hex : execOp a.eval o = execOp (fun x => (ev sy A x).getD undef) o := execOp_congr o hsel (fun x hx => hag x (by simpa using hx))
    rw [hex]
    split at hv
    · rename_i u hp
      cases hpv : pf u with
      | false => rw [hpv] at hv; cases hv
      | true =>
        rw [hpv] at hv
        simp only [cond_true, Option.some.injEq] at hv
        subst hv
        exact ⟨u, pf_vr D β u hpv, fun w => pureRun_ok hp w⟩
    · cases hv
theorem orElse'_cases {r q : Option Value} {v : Value} (h : orElse' r q = some v) : r = some v ∨ q = some v := by
  unfold orElse' at h
  split at h
  · exact Or.inl h
  · exact Or.inr h
theorem vreg_ok {β : Place} {nt : Nat} {A : Tr Value} {a : Act} (hf : FR sy β nt A a) {o : Oper} {v : Value} (hv : vreg sy A o = some v) : ∃ v', VR D β v v' ∧ ∀ w, (execOp a.eval o).run P w = .ok (.value v') w := by
  unfold vreg at hv
  split at hv
  · rename_i x ho
    refine ⟨_, ev_ok hf hv, fun w => ?_⟩
    unfold execOp; simp only [ho]; rfl
  · rename_i x ho
    refine ⟨_, ev_ok hf hv, fun w => ?_⟩
    unfold execOp; simp only [ho]; rfl
  · rename_i x k ho
    split at hv
    · rename_i vs hx
      have hx' := ev_ok hf hx
      generalize hq : a.eval x = q at hx'
      cases hx' with
      | sym _ _ h1 => cases h1
      | tuple xs ys e1 e2 =>
        have hlt : k < xs.length := (List.getElem?_eq_some_iff.1 hv).1
        have hlt' : k < ys.length := by rw [← e1]; exact hlt
        refine ⟨ys[k], e2 k v _ hv (List.getElem?_eq_getElem hlt'), fun w => ?_⟩
        unfold execOp; simp only [ho]
        simp [Instr.extract, hq, hlt']
    · cases hv
  · rename_i c x y ho
    split at hv
    · rename_i t hc
      have e : a.eval c = .bool t := pf_eq rfl (ev_ok hf hc)
      refine ⟨_, ev_ok hf hv, fun w => ?_⟩
      unfold execOp; simp only [ho, e]
      cases t <;> rfl
    · cases hv
  · rename_i T parts ho
    unfold execOp; simp only [ho]
    split at hv
    · rename_i ps hps
      have e : (List.map (fun x : Nat × Operand => (x.1, a.eval x.2)) parts.toList).toArray = parts.map fun x => (x.1, a.eval x.2) := by
        apply Array.ext'; simp
      have := (vbuild_all (evP_ok hf hps) hv).op
      rw [← e]
      exact this
    · cases hv
  · rename_i T x f ho
    unfold execOp; simp only [ho]
    split at hv
    · rename_i u hx
      exact (vfield_all (ev_ok hf hx) hv).op
    · cases hv
  · rename_i T x f ho
    unfold execOp; simp only [ho]
    split at hv
    · rename_i u hx
      exact (vfieldAt_all (ev_ok hf hx) hv).op
    · cases hv
  · rename_i T x i ho
    unfold execOp; simp only [ho]
    split at hv
    · rename_i u q hx hq
      exact (vindexAt_all (ev_ok hf hx) (ev_ok hf hq) hv).op
    · cases hv
  · rename_i T x i ho
    split at hv
    · rename_i u q hx hq
      rcases orElse'_cases hv with hv1 | hv1
      · unfold execOp; simp only [ho]
        exact (vindex_all (ev_ok hf hx) (ev_ok hf hq) hv1).op
      · exact vregGen_ok hf hv1
    · cases hv
  · rename_i op T x y yT ho
    split at hv
    · rename_i u q hx hq
      rcases orElse'_cases hv with hv1 | hv1
      · unfold execOp; simp only [ho]
        exact (vbin_all (ev_ok hf hx) (ev_ok hf hq) hv1).op
      · rcases orElse'_cases hv1 with hv2 | hv2
        · unfold execOp; simp only [ho]
          obtain ⟨v', g1, g2⟩ := sy.binOk op u q v hv2 β _ _ (ev_ok hf hx) (ev_ok hf hq) T
          exact AOk.op ⟨v', g1, fun w => g2 x y w⟩
        · exact vregGen_ok hf hv2
    · cases hv
  · rename_i op T x ho
    split at hv
    · rename_i u hx
      rcases orElse'_cases hv with hv1 | hv1
      · unfold execOp; simp only [ho]
        exact AOk.op (sy.unOk op u v hv1 β _ (ev_ok hf hx))
      · exact vregGen_ok hf hv1
    · cases hv
  · exact vregGen_ok hf hv
theorem vregW_ok {β : Place} {nt : Nat} {A : Tr Value} {a : Act} (hf : FR sy β nt A a) {ops : Array Oper} {o : Oper} {v : Value} (hv : vregW sy ops.toList A o = some v) : ∃ v', VR D β v v' ∧ Yields P ops o v' a := by
  unfold vregW at hv
  split at hv
  · rename_i hw
    obtain ⟨v', h1, h2⟩ := vreg_ok hf hv
    exact ⟨v', h1, .inl ⟨vwanted_ok hf hw, h2⟩⟩
  · rename_i hw
    simp only [Option.some.injEq] at hv
    subst hv
    exact ⟨undef, pf_vr D β undef rfl, .inr ⟨vwanted_ok hf hw, rfl⟩⟩
  · cases hv
theorem vexec1_ok {call : VCall} (hc : CallOk sy call) {β : Place} {W W' : VW} {w : World} (h : Rel P D β W w) {lim nt i : Nat} (hlim : lim ≤ W.next) {A : Tr Value} {a : Act} (hf : FR sy β nt A a) {ops : Array Oper} {o : Oper} {v : Value}
    (ho : ops[i]? = some o) (hv : vexec1 sy call lim ops.toList A W o = some (v, W')) {Q : Exit → Act → World → Prop} {K : Act → World → Prop}
    (hK : ∀ v' w' β', VR D β' v v' → Rel P D β' W' w' → Ext lim β β' w w' → W.next ≤ W'.next → K (a.put o.dst v') w') : wpOp P ops Q i K a w := by
  unfold vexec1 at hv
  split at hv
  · rename_i v1 hreg
    simp only [Option.some.injEq, Prod.mk.injEq] at hv
    obtain ⟨rfl, rfl⟩ := hv
    have hreg' : vregW sy ops.toList A o = some v1 := by
      cases hk : regKind o.op with
      | false => rw [hk] at hreg; cases hreg
      | true => rw [hk] at hreg; exact hreg
    obtain ⟨v', h1, h2⟩ := vregW_ok hf hreg'
    exact h2.wpOp ho (hK v' w β h1 h (Ext.refl _ _ _) (Nat.le_refl _))
  unfold wpOp
  rw [ho]
  simp only []
  split at hv
  · rename_i hw
    rw [if_pos (vwanted_ok hf hw)]
    refine Or.inl ?_
    split at hv
    · rename_i u W1 hop
      cases hb : W.next.ble W1.next with
      | false => rw [hb] at hv; cases hv
      | true =>
        rw [hb] at hv
        simp only [cond_true, Option.some.injEq, Prod.mk.injEq] at hv
        obtain ⟨rfl, rfl⟩ := hv
        obtain ⟨v', w', β', g1, g2, g3, g4⟩ := vop_ok h hlim hf hop
        unfold Oper.wp
        rw [g1]
        exact hK v' w' β' g2 g3 g4 (Nat.le_of_ble_eq_true hb)
    · rename_i W1 hop
      cases hb : W.next.ble W1.next with
      | false => rw [hb] at hv; cases hv
      | true =>
        rw [hb] at hv
        simp only [cond_true, Option.some.injEq, Prod.mk.injEq] at hv
        obtain ⟨rfl, rfl⟩ := hv
        obtain ⟨w', β', g1, g3, g4⟩ := vop_ok h hlim hf hop
        unfold Oper.wp
        rw [g1]
        exact hK undef w' β' (pf_vr D β' undef rfl) g3 g4 (Nat.le_of_ble_eq_true hb)
    · rename_i f xs W1 hop
      split at hv
      · rename_i u W2 hcall
        cases hb : W.next.ble W2.next with
        | false => rw [hb] at hv; cases hv
        | true =>
          rw [hb] at hv
          simp only [cond_true, Option.some.injEq, Prod.mk.injEq] at hv
          obtain ⟨rfl, rfl⟩ := hv
          obtain ⟨rfl, xs', g1, g2⟩ := vop_ok h hlim hf hop
          unfold Oper.wp
          rw [g1]
          refine (hc lim f xs _ _ _ hcall β w xs' h hf.glob g2 hlim).mono ?_
          rintro e w' ⟨v', β', rfl, q1, q2, q3⟩
          exact hK v' w' β' q1 q2 q3 (Nat.le_of_ble_eq_true hb)
      · cases hv
    · cases hv
  · rename_i hw
    rw [if_neg (by rw [vwanted_ok hf hw]; decide)]
    simp only [Option.some.injEq, Prod.mk.injEq] at hv
    obtain ⟨rfl, rfl⟩ := hv
    exact hK undef w β (pf_vr D β undef rfl) h (Ext.refl _ _ _) (Nat.le_refl _)
  · cases hv
/-- where the value goes -/
def putD (nt : Nat) (A : Tr Value) (d : Option Tmp) (v : Value) : Option (Tr Value) :=
  match d with
  | none => some A
  | some t => bif t.blt nt then some (A.put t v) else none
theorem putD_ok {β : Place} {nt : Nat} {A A' : Tr Value} {a : Act} (h : FR sy β nt A a) {d : Option Tmp} {v v' : Value} (hv : VR D β v v') (hp : putD nt A d v = some A') : FR sy β nt A' (a.put d v') := by
  unfold putD at hp
  split at hp
  · simp only [Option.some.injEq] at hp; subst hp; exact h
  · rename_i t
    cases hb : t.blt nt with
    | false => rw [hb] at hp; cases hp
    | true =>
      rw [hb] at hp
      simp only [cond_true, Option.some.injEq] at hp
      subst hp
      exact h.put (by simpa [Nat.blt_eq] using hb) hv
def vops {P : Program} {D : Den} (sy : Sy P D) (call : VCall) (lim nt : Nat) (ops : List Oper) : List Oper → Tr Value → VW → Option (Tr Value × VW)
  | [], A, W => some (A, W)
  | o :: l, A, W =>
    match vexec1 sy call lim ops A W o with
    | some (v, W') => (match putD nt A o.dst v with | some A' => vops sy call lim nt ops l A' W' | none => none)
    | none => none
theorem vops_ok {call : VCall} (hc : CallOk sy call) {lim nt : Nat} {ops : Array Oper} {Q : Exit → Act → World → Prop} : ∀ (l : List Oper) (k : Nat) (A A' : Tr Value) (W W' : VW) (β : Place) (a : Act) (w : World), (∀ j, l[j]? = ops[k + j]?) → Rel P D β W w → lim ≤ W.next → FR sy β nt A a →
    vops sy call lim nt ops.toList l A W = some (A', W') → (∀ a' w' β', FR sy β' nt A' a' → Rel P D β' W' w' → Ext lim β β' w w' → W.next ≤ W'.next → Q .normal a' w') → wpOps P ops Q (List.range' k l.length) a w
  | [], k, A, A', W, W', β, a, w, _, h, _, hf, hv, hQ => by
    simp only [vops, Option.some.injEq, Prod.mk.injEq] at hv
    obtain ⟨rfl, rfl⟩ := hv
    exact hQ a w β hf h (Ext.refl _ _ _) (Nat.le_refl _)
  | o :: l, k, A, A', W, W', β, a, w, hl, h, hlim, hf, hv, hQ => by
    unfold vops at hv
    have h0 : ops[k]? = some o := by simpa using (hl 0).symm
    split at hv
    · rename_i v W1 he
      split at hv
      · rename_i A1 hp
        rw [List.length_cons, List.range'_succ, wpOps_cons]
        refine vexec1_ok hc h hlim hf h0 he (fun v' w' β' q1 q2 q3 q4 => ?_)
        refine vops_ok hc l (k + 1) A1 A' W1 W' β' _ w' (fun j => by have := hl (j + 1); simpa [Nat.add_assoc, Nat.add_comm 1 j] using this) q2 (Nat.le_trans hlim q4) (putD_ok (hf.mono q3.le) q1 hp) hv ?_
        intro a'' w'' β'' r1 r2 r3 r4
        exact hQ a'' w'' β'' r1 r2 (q3.trans r3) (Nat.le_trans q4 r4)
      · cases hv
    · cases hv
end
end Go.Proofs.Ytednnkhomfabaaa
