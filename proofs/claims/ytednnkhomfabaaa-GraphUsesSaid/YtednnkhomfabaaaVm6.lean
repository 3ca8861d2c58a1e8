/- A machine to run closed calls: one operation. No condition. -/
import Derived.Test.YtednnkhomfabaaaVm5
namespace Go.Proofs.Ytednnkhomfabaaa
open Go.RowKit
set_option linter.unusedVariables false
/-- package-level tables of numbers, as they stand -/
abbrev Globs := List (Nat × List Value)
def NeedOk (G : Globs) (w : World) : Prop := ∀ g ∈ G, ∀ (k : Nat) v, g.2[k]? = some v → w.cell? ⟨g.1, k, none⟩ = some v
/-- what is known beside: numbers that are not known, by their marks; calls that are known -/
structure Sy (P : Program) (D : Den) where
  bin : BinOp → Value → Value → Option Value
  binOk : ∀ op x y v, bin op x y = some v → ∀ β x' y', VR D β x x' → VR D β y y' → ∀ T, ∃ v', VR D β v v' ∧ ∀ (ox oy : Operand) w, (do eqGuard op T ox oy x' y'; binOp op T x' y').run P w = .ok v' w
  un : UnOp → Value → Option Value
  unOk : ∀ op x v, un op x = some v → ∀ β x', VR D β x x' → ∃ v', VR D β v v' ∧ ∀ w, (Op.unary op x').run P w = .ok v' w
  conv : IntKind → Value → Option Value
  convOk : ∀ k x v, conv k x = some v → ∀ β x', VR D β x x' → ∀ src dst, P.underlying dst = some (.int k) → (∃ j, P.underlying src = some (.int j)) → ∃ v', VR D β v v' ∧ ∀ w, (convert src dst x').run P w = .ok v' w
  gl : Nat → Bool
  tab : FuncId → List Value → Option Value
  need : Globs
  tabOk : ∀ f xs v, tab f xs = some v → pf v = true ∧ ∀ β xs' w, NeedOk need w → LR D β xs xs' → Calls P f xs'.toArray w fun e w' => e = .returned v ∧ Below w.heap.size w w'
def Sy.none (P : Program) (D : Den) (ng : Nat := 0) : Sy P D where
  bin := fun _ _ _ => Option.none
  binOk := fun _ _ _ _ h => by cases h
  un := fun _ _ => Option.none
  unOk := fun _ _ _ h => by cases h
  conv := fun _ _ => Option.none
  convOk := fun _ _ _ h => by cases h
  gl := fun g => g.blt ng
  tab := fun _ _ => Option.none
  need := []
  tabOk := fun _ _ _ h => by cases h
def ev {P : Program} {D : Den} (sy : Sy P D) (A : Tr Value) : Operand → Option Value
  | .tmp t => A.at t
  | .const v => bif pf v then some v else none
  | .func f => some (.func (.func f) #[] #[])
  | .global g => bif sy.gl g then some (.pointer (some ⟨g, 0, none⟩)) else none
def evL {P : Program} {D : Den} (sy : Sy P D) (A : Tr Value) : List Operand → Option (List Value)
  | [] => some []
  | x :: xs => match ev sy A x, evL sy A xs with
    | some v, some vs => some (v :: vs)
    | _, _ => none
def evP {P : Program} {D : Den} (sy : Sy P D) (A : Tr Value) : List (Nat × Operand) → Option (List (Nat × Value))
  | [] => some []
  | (i, x) :: xs => match ev sy A x, evP sy A xs with
    | some v, some vs => some ((i, v) :: vs)
    | _, _ => none
def evO {P : Program} {D : Den} (sy : Sy P D) (A : Tr Value) : Option Operand → Option (Option Value)
  | none => some none
  | some x => match ev sy A x with
    | some v => some (some v)
    | none => none
def notSel : Op → Bool
  | .select _ _ => false
  | _ => true
def vgen {P : Program} {D : Den} (sy : Sy P D) (A : Tr Value) (W : VW) (o : Oper) : Option (VN × VW) :=
  match evL sy A o.op.operands.toList with
  | some vs =>
    bif pfs vs && notSel o.op then
      (match pureRun P (execOp (fun x => (ev sy A x).getD undef) o) with
      | some (.value v) => bif pf v then some (.val v, W) else none
      | some .skip => some (.skip, W)
      | _ => none)
    else none
  | none => none
def vVal (W : VW) (r : Option Value) : Option (VN × VW) :=
  match r with
  | some v => some (.val v, W)
  | none => none
def vValW (r : Option (Value × VW)) : Option (VN × VW) :=
  match r with
  | some (v, W) => some (.val v, W)
  | none => none
def vElse (r q : Option (VN × VW)) : Option (VN × VW) :=
  match r with
  | some x => some x
  | none => q
def vcallB (P : Program) (lim : Nat) (W : VW) (b : Builtin) (ts : List TypeId) (args : List Value) : Option (VN × VW) :=
  match b, ts, args with
  | .append, [T, tx], [s, x] => vValW (vappend P lim W T tx s x)
  | .len, [T], [x] => vVal W (vlenOp P T x)
  | .copy, [T, _], [d, s] => vValW (vcopy P lim W T d s)
  | .clear, [T], [x] => (match vclear P lim W T x with | some W' => some (.val (.tuple #[]), W') | none => none)
  | _, _, _ => none
def vconv {P : Program} {D : Den} (sy : Sy P D) (src dst : TypeId) (v : Value) : Option Value :=
  match P.underlying dst, P.underlying src with
  | some (.int k), some (.int _) => sy.conv k v
  | _, _ => none
def vop {P : Program} {D : Den} (sy : Sy P D) (lim : Nat) (A : Tr Value) (W : VW) (o : Oper) : Option (VN × VW) :=
  match o.op with
  | .move x => vVal W (ev sy A x)
  | .assign x => vVal W (ev sy A x)
  | .pick c a b => (match ev sy A c with | some (.bool t) => vVal W (ev sy A (bif t then a else b)) | _ => none)
  | .alloc T => vValW (valloc P W T)
  | .box T x => (match ev sy A x with | some v => vValW (some (vnew W T v.cells.toList)) | none => none)
  | .build T parts => (match evP sy A parts.toList with | some ps => vVal W (vbuild P T ps) | none => none)
  | .buildSlice T len parts => (match evP sy A parts.toList with | some ps => vValW (vbuildSlice P W T len ps) | none => none)
  | .load T a => (match ev sy A a with | some v => vVal W (vload P W T v) | none => none)
  | .store T a x => (match ev sy A a, ev sy A x with | some p, some v => (match vstore P lim W T p v with | some W' => some (.skip, W') | none => none) | _, _ => none)
  | .nilCheck x => (match ev sy A x with | some (.pointer (some p)) => some (.val (.pointer (some p)), W) | _ => none)
  | .binOp op T x y _ => (match ev sy A x, ev sy A y with | some a, some b => vElse (vVal W (vbin P op T a b)) (vElse (vVal W (sy.bin op a b)) (vgen sy A W o)) | _, _ => none)
  | .unOp op _ x => (match ev sy A x with | some v => vElse (vVal W (sy.un op v)) (vgen sy A W o) | none => none)
  | .convert src dst x => (match ev sy A x with | some v => vElse (vVal W (vconv sy src dst v)) (vgen sy A W o) | none => none)
  | .field T x f => (match ev sy A x with | some v => vVal W (vfield P T v f) | none => none)
  | .fieldAddr T x f => (match ev sy A x with | some v => vVal W (vfieldAt P T v f) | none => none)
  | .indexAddr T x i => (match ev sy A x, ev sy A i with | some a, some b => vVal W (vindexAt P T a b) | _, _ => none)
  | .index T x i => (match ev sy A x, ev sy A i with | some a, some b => vElse (vVal W (vindex P T a b)) (vgen sy A W o) | _, _ => none)
  | .slice T x lo hi none => (match ev sy A x, evO sy A lo, evO sy A hi with | some a, some l, some h => vElse (vVal W (vslice P W T a l h)) (vgen sy A W o) | _, _, _ => none)
  | .makeSlice T l c => (match ev sy A l, ev sy A c with | some a, some b => vValW (vmake P W T a b) | _, _ => none)
  | .extract x k => (match ev sy A x with | some (.tuple vs) => vVal W (vs.toList[k]?) | _ => none)
  | .call c =>
    (match c.callee with
    | .value f =>
      (match ev sy A f, evL sy A c.args.toList with
      | some (.func (.func fid) ⟨[]⟩ ⟨caps⟩), some args =>
        (match P.funcs[fid]? with
        | some fn => bif fn.name == "runtime.NumGoroutine" || fn.body.isNone then none else some (.call fid (args ++ caps), W)
        | none => none)
      | _, _ => none)
    | .builtin b => (match evL sy A c.args.toList with | some args => vElse (vcallB P lim W b c.argTypes.toList args) (vgen sy A W o) | none => none)
    | .invoke _ _ => none)
  | _ => vgen sy A W o
section
variable {P : Program} {D : Den} {sy : Sy P D}
/-- a frame of the machine, and the one that stands -/
def GOk {P : Program} {D : Den} (sy : Sy P D) (β : Place) : Prop := ∀ g, sy.gl g = true → β g = .dead ∨ ∃ x, β g = .live g 0 x
structure FR {P : Program} {D : Den} (sy : Sy P D) (β : Place) (nt : Nat) (A : Tr Value) (a : Act) : Prop where
  glob : GOk sy β
  size : a.tmps.size = nt
  defers : a.defers = []
  vals : ∀ t v, A.at t = some v → VR D β v (a.tmps.getD t undef)
theorem GOk.mono {β β' : Place} (h : GOk sy β) (hl : LeS β β') : GOk sy β' := fun g hg => by
  rcases hl g with e | e | ⟨_, e⟩
  · rcases h g hg with e1 | ⟨x, e1⟩ <;> rw [e1] at e <;> cases e
  · rw [e]; exact h g hg
  · exact Or.inl e
theorem FR.mono {β β' : Place} {nt : Nat} {A : Tr Value} {a : Act} (h : FR sy β nt A a) (hl : LeS β β') : FR sy β' nt A a := ⟨h.glob.mono hl, h.size, h.defers, fun t v hv => (h.vals t v hv).mono hl⟩
theorem FR.put {β : Place} {nt : Nat} {A : Tr Value} {a : Act} (h : FR sy β nt A a) {t : Nat} (ht : t < nt) {v v' : Value} (hv : VR D β v v') : FR sy β nt (A.put t v) (a.put (some t) v') := by
  refine ⟨h.glob, by simpa [Act.put] using h.size, h.defers, fun s u hu => ?_⟩
  have hts : t < a.tmps.size := by rw [h.size]; exact ht
  rcases Tr.at_put hu with ⟨rfl, rfl⟩ | ⟨hne, hu'⟩
  · simpa [Act.put, hts] using hv
  · have := h.vals s u hu'
    simpa [Act.put, Array.getElem?_setIfInBounds_ne (Ne.symm hne)] using this
theorem ev_ok {β : Place} {nt : Nat} {A : Tr Value} {a : Act} (h : FR sy β nt A a) {x : Operand} {v : Value} (hv : ev sy A x = some v) : VR D β v (a.eval x) := by
  cases x with
  | tmp t => exact h.vals t v hv
  | const u =>
    simp only [ev] at hv
    cases hp : pf u with
    | false => rw [hp] at hv; cases hv
    | true =>
      rw [hp] at hv
      simp only [cond_true, Option.some.injEq] at hv
      subst hv
      exact pf_vr D β u hp
  | func f =>
    simp only [ev, Option.some.injEq] at hv
    subst hv
    exact pf_vr D β (.func (.func f) #[] #[]) rfl
  | global g =>
    simp only [ev] at hv
    cases hg : sy.gl g with
    | false => rw [hg] at hv; cases hv
    | true =>
      rw [hg] at hv
      simp only [cond_true, Option.some.injEq] at hv
      subst hv
      refine .ptr _ _ _ ?_
      unfold AR
      rcases h.glob g hg with e | ⟨x, e⟩ <;> rw [e]
      exact trivial
theorem evL_ok {β : Place} {nt : Nat} {A : Tr Value} {a : Act} (h : FR sy β nt A a) : ∀ {xs : List Operand} {vs : List Value}, evL sy A xs = some vs → LR D β vs (xs.map a.eval)
  | [], vs, hv => by
    simp only [evL, Option.some.injEq] at hv
    subst hv
    exact LR.nil
  | x :: xs, vs, hv => by
    unfold evL at hv
    split at hv
    · rename_i v us h1 h2
      simp only [Option.some.injEq] at hv
      subst hv
      exact LR.cons (ev_ok h h1) (evL_ok h h2)
    · cases hv
theorem evP_ok {β : Place} {nt : Nat} {A : Tr Value} {a : Act} (h : FR sy β nt A a) : ∀ {xs : List (Nat × Operand)} {vs : List (Nat × Value)}, evP sy A xs = some vs → PR D β vs (xs.map fun (i, x) => (i, a.eval x))
  | [], vs, hv => by
    simp only [evP, Option.some.injEq] at hv
    subst hv
    exact ⟨rfl, LR.nil⟩
  | (i, x) :: xs, vs, hv => by
    unfold evP at hv
    split at hv
    · rename_i v us h1 h2
      simp only [Option.some.injEq] at hv
      subst hv
      have := evP_ok h h2
      exact ⟨by simp [this.1], LR.cons (ev_ok h h1) this.2⟩
    · cases hv
theorem evO_ok {β : Place} {nt : Nat} {A : Tr Value} {a : Act} (h : FR sy β nt A a) {x : Option Operand} {v : Option Value} (hv : evO sy A x = some v) : OR D β v (x.map a.eval) := by
  unfold evO at hv
  split at hv
  · simp only [Option.some.injEq] at hv; subst hv; trivial
  · split at hv
    · rename_i h1
      simp only [Option.some.injEq] at hv; subst hv; exact ev_ok h h1
    · cases hv
theorem pfs_LR_eq {β : Place} {l l' : List Value} (hp : pfs l = true) (h : LR D β l l') : l' = l := pfs_eq l l' hp h.1 h.2
theorem evL_agree {A : Tr Value} {ρ : Operand → Value} : ∀ {xs : List Operand} {vs : List Value}, evL sy A xs = some vs → xs.map ρ = vs → ∀ x ∈ xs, ρ x = (ev sy A x).getD undef
  | [], _, _, _, x, hx => by cases hx
  | y :: xs, vs, hv, he, x, hx => by
    unfold evL at hv
    split at hv
    · rename_i v us h1 h2
      simp only [Option.some.injEq] at hv
      subst hv
      simp only [List.map_cons, List.cons.injEq] at he
      rcases List.mem_cons.1 hx with rfl | hx'
      · rw [h1]; exact he.1
      · exact evL_agree h2 he.2 x hx'
    · cases hv
theorem vgen_ok {β : Place} {W W' : VW} {w : World} (h : Rel P D β W w) {lim nt : Nat} {A : Tr Value} {a : Act} (hf : FR sy β nt A a) {o : Oper} {vn : VN} (hv : vgen sy A W o = some (vn, W')) : NOk P D lim β w (execOp a.eval o) W vn W' := by
  unfold vgen at hv
  split at hv
  rotate_left
  · cases hv
  rename_i vs hvs
  cases hc : (pfs vs && notSel o.op) with
  | false => rw [hc] at hv; cases hv
  | true =>
    rw [hc] at hv
    simp only [cond_true] at hv
    simp only [Bool.and_eq_true] at hc
    have hl := evL_ok hf hvs
    have heq := pfs_LR_eq hc.1 hl
    have hag := evL_agree hvs heq
    have hsel : ∀ cs b, o.op ≠ .select cs b := fun cs b e => by
      have := hc.2
      rw [e] at this
      cases this
    have hex : execOp a.eval o = execOp (fun x => (ev sy A x).getD undef) o := execOp_congr o hsel (fun x hx => hag x (by simpa using hx))
    rw [hex]
    split at hv
    · rename_i v hp
      cases hpv : pf v with
      | false => rw [hpv] at hv; cases hv
      | true =>
        rw [hpv] at hv
        simp only [cond_true, Option.some.injEq, Prod.mk.injEq] at hv
        obtain ⟨rfl, rfl⟩ := hv
        exact ⟨v, w, β, pureRun_ok hp w, pf_vr D β v hpv, h, Ext.refl _ _ _⟩
    · rename_i hp
      simp only [Option.some.injEq, Prod.mk.injEq] at hv
      obtain ⟨rfl, rfl⟩ := hv
      exact ⟨w, β, pureRun_ok hp w, h, Ext.refl _ _ _⟩
    · cases hv
theorem NOk.of_same {β : Place} {W W' : VW} {w : World} (h : Rel P D β W w) {lim : Nat} {s : Sem Next} {r : Option Value} {vn : VN} (hv : vVal W r = some (vn, W')) (hs : ∀ u, r = some u → ∃ u', s.run P w = .ok (.value u') w ∧ VR D β u u') : NOk P D lim β w s W vn W' := by
  unfold vVal at hv
  split at hv
  · rename_i u
    simp only [Option.some.injEq, Prod.mk.injEq] at hv
    obtain ⟨rfl, rfl⟩ := hv
    obtain ⟨u', h1, h2⟩ := hs u rfl
    exact ⟨u', w, β, h1, h2, h, Ext.refl _ _ _⟩
  · cases hv
theorem NOk.of_vok {β : Place} {W W' : VW} {w : World} {lim : Nat} {s : Sem Value} {r : Option Value} {vn : VN} (hv : vVal W r = some (vn, W')) (hs : ∀ u, r = some u → VOk P D lim β w s u W) : NOk P D lim β w (do pure (.value (← s))) W vn W' := by
  unfold vVal at hv
  split at hv
  · rename_i u
    simp only [Option.some.injEq, Prod.mk.injEq] at hv
    obtain ⟨rfl, rfl⟩ := hv
    exact (hs u rfl).next
  · cases hv
theorem NOk.of_vokW {β : Place} {W W' : VW} {w : World} {lim : Nat} {s : Sem Value} {r : Option (Value × VW)} {vn : VN} (hv : vValW r = some (vn, W')) (hs : ∀ u W1, r = some (u, W1) → VOk P D lim β w s u W1) : NOk P D lim β w (do pure (.value (← s))) W vn W' := by
  unfold vValW at hv
  split at hv
  · rename_i u W1
    simp only [Option.some.injEq, Prod.mk.injEq] at hv
    obtain ⟨rfl, rfl⟩ := hv
    exact (hs u _ rfl).next
  · cases hv
theorem NOk.skip {β : Place} {W W' : VW} {w w' : World} {lim : Nat} {s : Sem Unit} (hs : s.run P w = .ok () w') (hr : Rel P D β W' w') (he : Ext lim β β w w') : NOk P D lim β w (do s; pure .skip) W .skip W' :=
  ⟨w', β, by simp [hs, Result.andThen], hr, he⟩
theorem vElse_cases {r q : Option (VN × VW)} {x : VN × VW} (h : vElse r q = some x) : r = some x ∨ q = some x := by
  unfold vElse at h
  split at h
  · exact Or.inl h
  · exact Or.inr h
theorem vconv_ok {β : Place} {src dst : TypeId} {x x' v : Value} (hx : VR D β x x') (hv : vconv sy src dst x = some v) : AOk P D β (convert src dst x') v := by
  unfold vconv at hv
  split at hv
  · rename_i k j h1 h2
    exact sy.convOk k x v hv β x' hx src dst h1 ⟨j, h2⟩
  · cases hv
theorem vop_ok {β : Place} {W W' : VW} {w : World} (h : Rel P D β W w) {lim nt : Nat} (hlim : lim ≤ W.next) {A : Tr Value} {a : Act} (hf : FR sy β nt A a) {o : Oper} {vn : VN} (hv : vop sy lim A W o = some (vn, W')) : NOk P D lim β w (execOp a.eval o) W vn W' := by
  unfold vop at hv
  split at hv
  · rename_i x ho
    unfold execOp; simp only [ho]
    exact NOk.of_same h hv (fun u hu => ⟨_, rfl, ev_ok hf hu⟩)
  · rename_i x ho
    unfold execOp; simp only [ho]
    exact NOk.of_same h hv (fun u hu => ⟨_, rfl, ev_ok hf hu⟩)
  · rename_i c x y ho
    unfold execOp; simp only [ho]
    split at hv
    · rename_i t hc
      have hc' := ev_ok hf hc
      have e : a.eval c = .bool t := pf_eq rfl hc'
      refine NOk.of_same h hv (fun u hu => ⟨a.eval (bif t then x else y), ?_, ev_ok hf hu⟩)
      rw [e]
      cases t <;> rfl
    · cases hv
  · rename_i T ho
    unfold execOp; simp only [ho]
    exact NOk.of_vokW hv (fun u W1 hu => valloc_ok h hlim hu)
  · rename_i T x ho
    unfold execOp; simp only [ho]
    split at hv
    · rename_i v hx
      exact NOk.of_vokW hv (fun u W1 hu => by
        simp only [Option.some.injEq] at hu
        have := vbox_ok h hlim (T := T) (ev_ok hf hx)
        rw [hu] at this
        exact this)
    · cases hv
  · rename_i T parts ho
    unfold execOp; simp only [ho]
    split at hv
    · rename_i ps hps
      refine NOk.of_vok hv (fun u hu => ?_)
      have := vbuild_ok h (lim := lim) (evP_ok hf hps) hu
      have e : (List.map (fun x : Nat × Operand => (x.1, a.eval x.2)) parts.toList).toArray = parts.map fun x => (x.1, a.eval x.2) := by
        apply Array.ext'; simp
      rw [← e]
      exact this
    · cases hv
  · rename_i T len parts ho
    unfold execOp; simp only [ho]
    split at hv
    · rename_i ps hps
      refine NOk.of_vokW hv (fun u W1 hu => ?_)
      have := vbuildSlice_ok h hlim (evP_ok hf hps) hu
      have e : (List.map (fun x : Nat × Operand => (x.1, a.eval x.2)) parts.toList).toArray = parts.map fun x => (x.1, a.eval x.2) := by
        apply Array.ext'; simp
      rw [← e]
      exact this
    · cases hv
  · rename_i T x ho
    unfold execOp; simp only [ho]
    split at hv
    · rename_i v hx
      refine NOk.of_vok hv (fun u hu => ?_)
      obtain ⟨u', g1, g2⟩ := vload_ok h (ev_ok hf hx) hu
      exact VOk.same h g1 g2
    · cases hv
  · rename_i T x y ho
    unfold execOp; simp only [ho]
    split at hv
    · rename_i p v hp hx
      split at hv
      · rename_i W1 hst
        simp only [Option.some.injEq, Prod.mk.injEq] at hv
        obtain ⟨rfl, rfl⟩ := hv
        obtain ⟨w', g1, g2, g3⟩ := vstore_ok h (ev_ok hf hp) (ev_ok hf hx) hst
        exact NOk.skip g1 g2 g3
      · cases hv
    · cases hv
  · rename_i x ho
    unfold execOp; simp only [ho]
    split at hv
    · rename_i p hp
      simp only [Option.some.injEq, Prod.mk.injEq] at hv
      obtain ⟨rfl, rfl⟩ := hv
      have hp' := ev_ok hf hp
      generalize a.eval x = q at hp'
      cases hp' with
      | sym _ _ h1 => cases h1
      | ptr b o' a1 hA => exact ⟨_, w, β, rfl, .ptr _ _ _ hA, h, Ext.refl _ _ _⟩
    · cases hv
  · rename_i op T x y yT ho
    split at hv
    · rename_i p q hp hq
      replace hv := vElse_cases hv
      rcases hv with hv | hv
      · unfold execOp; simp only [ho]
        exact NOk.of_vok hv (fun u hu => vbin_ok h (ev_ok hf hp) (ev_ok hf hq) hu)
      · replace hv := vElse_cases hv
        rcases hv with hv | hv
        · unfold execOp; simp only [ho]
          exact NOk.of_vok hv (fun u hu => (let ⟨v', g1, g2⟩ := sy.binOk op p q u hu β _ _ (ev_ok hf hp) (ev_ok hf hq) T; VOk.same h (g2 x y w) g1))
        · exact vgen_ok h hf hv
    · cases hv
  · rename_i op T x ho
    split at hv
    · rename_i u hx
      replace hv := vElse_cases hv
      rcases hv with hv | hv
      · unfold execOp; simp only [ho]
        exact NOk.of_vok hv (fun u hu => (let ⟨v', g1, g2⟩ := sy.unOk op _ u hu β _ (ev_ok hf hx); VOk.same h (g2 w) g1))
      · exact vgen_ok h hf hv
    · cases hv
  · rename_i src dst x ho
    split at hv
    · rename_i u hx
      replace hv := vElse_cases hv
      rcases hv with hv | hv
      · unfold execOp; simp only [ho]
        exact NOk.of_vok hv (fun u hu => (vconv_ok (ev_ok hf hx) hu).ok h)
      · exact vgen_ok h hf hv
    · cases hv
  · rename_i T x f ho
    unfold execOp; simp only [ho]
    split at hv
    · rename_i v hx
      exact NOk.of_vok hv (fun u hu => vfield_ok h (ev_ok hf hx) hu)
    · cases hv
  · rename_i T x f ho
    unfold execOp; simp only [ho]
    split at hv
    · rename_i v hx
      exact NOk.of_vok hv (fun u hu => vfieldAt_ok h (ev_ok hf hx) hu)
    · cases hv
  · rename_i T x i ho
    unfold execOp; simp only [ho]
    split at hv
    · rename_i v q hx hq
      exact NOk.of_vok hv (fun u hu => vindexAt_ok h (ev_ok hf hx) (ev_ok hf hq) hu)
    · cases hv
  · rename_i T x i ho
    split at hv
    · rename_i v q hx hq
      replace hv := vElse_cases hv
      rcases hv with hv | hv
      · unfold execOp; simp only [ho]
        exact NOk.of_vok hv (fun u hu => vindex_ok h (ev_ok hf hx) (ev_ok hf hq) hu)
      · exact vgen_ok h hf hv
    · cases hv
  · rename_i T x lo hi ho
    split at hv
    · rename_i v l r hx hl hr
      replace hv := vElse_cases hv
      rcases hv with hv | hv
      · unfold execOp; simp only [ho]
        exact NOk.of_vok hv (fun u hu => vslice_ok h (ev_ok hf hx) (evO_ok hf hl) (evO_ok hf hr) hu)
      · exact vgen_ok h hf hv
    · cases hv
  · rename_i T x y ho
    unfold execOp; simp only [ho]
    split at hv
    · rename_i p q hp hq
      exact NOk.of_vokW hv (fun u W1 hu => vmake_ok h hlim (ev_ok hf hp) (ev_ok hf hq) hu)
    · cases hv
  · rename_i x k ho
    unfold execOp; simp only [ho]
    split at hv
    · rename_i vs hx
      have hx' := ev_ok hf hx
      generalize a.eval x = q at hx'
      cases hx' with
      | sym _ _ h1 => cases h1
      | tuple xs ys e1 e2 =>
        refine NOk.of_vok hv (fun u hu => ?_)
        have hlt : k < xs.length := (List.getElem?_eq_some_iff.1 hu).1
        have hlt' : k < ys.length := by rw [← e1]; exact hlt
        refine VOk.same h (v' := ys[k]) ?_ (e2 k u _ hu (List.getElem?_eq_getElem hlt'))
        simp [Instr.extract, hlt']
    · cases hv
  · rename_i c ho
    split at hv
    · rename_i f hcal
      split at hv
      · rename_i fid caps args hfv hargs
        split at hv
        · rename_i fn hfn
          cases hc : (fn.name == "runtime.NumGoroutine" || fn.body.isNone) with
          | true => rw [hc] at hv; cases hv
          | false =>
            rw [hc] at hv
            simp only [cond_false, Option.some.injEq, Prod.mk.injEq] at hv
            obtain ⟨rfl, rfl⟩ := hv
            simp only [Bool.or_eq_false_iff] at hc
            have hfv' := ev_ok hf hfv
            have hl := evL_ok hf hargs
            unfold execOp; simp only [ho]
            generalize hq : a.eval f = q at hfv'
            cases hfv' with
            | sym _ _ h1 => cases h1
            | func _ xs ys e1 e2 =>
              refine ⟨rfl, c.args.toList.map a.eval ++ ys, ?_, hl.append ⟨e1, e2⟩⟩
              have e3 : fn.body.isNone = false := hc.2
              have e4 : (fn.name == "runtime.NumGoroutine") = false := hc.1
              simp only [resolve, hcal, hq, Deferred.ofValue, Sem.run_bind, Sem.run_pure, Result.andThen, invoke, callFunc, program, Sem.run]
              rw [hfn]
              simp only [e4, e3]
              simp [Sem.run_pure]
        · cases hv
      · cases hv
    · rename_i b hcal
      split at hv
      · rename_i args hargs
        have hl := evL_ok hf hargs
        replace hv := vElse_cases hv
        rcases hv with hv | hv
        · unfold vcallB at hv
          split at hv
          · rename_i T tx s x hts
            unfold execOp; simp only [ho]
            have e1 : c.argTypes = #[T, tx] := Array.ext' hts
            have e2 : c.args.map a.eval = (c.args.toList.map a.eval).toArray := by apply Array.ext'; simp
            have hs := hl
            obtain ⟨s', x', e3⟩ : ∃ s' x', c.args.toList.map a.eval = [s', x'] := by
              have := hl.1
              match hm : c.args.toList.map a.eval, this with
              | [s', x'], _ => exact ⟨s', x', rfl⟩
            rw [e3] at hl e2
            have := NOk.of_vokW (P := P) (D := D) (β := β) (W := W) (lim := lim) (w := w) (s := Builtin.append_ #[T, tx] o.type #[s', x']) hv (fun u W1 hu => vappend_ok h hlim (hl.2 0 s s' rfl rfl) (hl.2 1 x x' rfl rfl) hu)
            simp only [resolve, hcal, e1, e2, pure_bind, invoke, builtin]
            exact this
          · rename_i T x hts
            unfold execOp; simp only [ho]
            have e1 : c.argTypes = #[T] := Array.ext' hts
            have e2 : c.args.map a.eval = (c.args.toList.map a.eval).toArray := by apply Array.ext'; simp
            obtain ⟨x', e3⟩ : ∃ x', c.args.toList.map a.eval = [x'] := by
              have := hl.1
              match hm : c.args.toList.map a.eval, this with
              | [x'], _ => exact ⟨x', rfl⟩
            rw [e3] at hl e2
            have := NOk.of_vok (P := P) (D := D) (β := β) (W := W) (lim := lim) (w := w) (s := Builtin.len_ #[T] o.type #[x']) hv (fun u hu => vlenOp_ok h (hl.2 0 x x' rfl rfl) hu)
            simp only [resolve, hcal, e1, e2, pure_bind, invoke, builtin]
            exact this
          · rename_i T sT d s hts
            unfold execOp; simp only [ho]
            have e1 : c.argTypes = #[T, sT] := Array.ext' hts
            have e2 : c.args.map a.eval = (c.args.toList.map a.eval).toArray := by apply Array.ext'; simp
            obtain ⟨s', x', e3⟩ : ∃ s' x', c.args.toList.map a.eval = [s', x'] := by
              have := hl.1
              match hm : c.args.toList.map a.eval, this with
              | [s', x'], _ => exact ⟨s', x', rfl⟩
            rw [e3] at hl e2
            have := NOk.of_vokW (P := P) (D := D) (β := β) (W := W) (lim := lim) (w := w) (s := Builtin.copy_ #[T, sT] o.type #[s', x']) hv (fun u W1 hu => vcopy_ok h (hl.2 0 d s' rfl rfl) (hl.2 1 s x' rfl rfl) hu)
            simp only [resolve, hcal, e1, e2, pure_bind, invoke, builtin]
            exact this
          · rename_i T x hts
            unfold execOp; simp only [ho]
            have e1 : c.argTypes = #[T] := Array.ext' hts
            have e2 : c.args.map a.eval = (c.args.toList.map a.eval).toArray := by apply Array.ext'; simp
            obtain ⟨x', e3⟩ : ∃ x', c.args.toList.map a.eval = [x'] := by
              have := hl.1
              match hm : c.args.toList.map a.eval, this with
              | [x'], _ => exact ⟨x', rfl⟩
            rw [e3] at hl e2
            split at hv
            · rename_i W1 hcl
              simp only [Option.some.injEq, Prod.mk.injEq] at hv
              obtain ⟨rfl, rfl⟩ := hv
              have := (vclear_ok (ty := o.type) h (lim := lim) (hl.2 0 x x' rfl rfl) hcl).next (W := W)
              simp only [resolve, hcal, e1, e2, pure_bind, invoke, builtin]
              exact this
            · cases hv
          · cases hv
        · exact vgen_ok h hf hv
      · cases hv
    · cases hv
  · exact vgen_ok h hf hv
end
end Go.Proofs.Ytednnkhomfabaaa
