/- A machine to run closed calls: one operation. A machine to run closed calls: operations one behind the other, calls. A machine to run closed calls: operations in any order. A machine to run closed calls: any order leads to what the machine says. A machine to run closed calls: whole regions. A machine to run closed calls: code, calls, and what a run shows. No condition. -/
import Derived.Test.YtmmpkkpmlaiapaaGreatDoorVm6
import Derived.LoopN
import Derived.Scope
namespace Go.Proofs.YtmmpkkpmlaiapaaGreatDoor
open Go.RowKit
set_option linter.unusedVariables false
abbrev Globs := List (Nat × List Value)
def NeedOk (G : Globs) (w : World) : Prop := ∀ g ∈ G, ∀ (k : Nat) v, g.2[k]? = some v → w.cell? ⟨g.1, k, none⟩ = some v
def NeedI (G : List Nat) (w : World) : Prop := ∀ g ∈ G, ∃ a, w.cell? ⟨g, 0, none⟩ = some (.int .i64 a)
structure Sy (P : Program) (D : Den) where
  bin : BinOp → TypeId → Value → Value → Option Value
  binOk : ∀ op T x y v, bin op T x y = some v → ∀ β x' y', VR D β x x' → VR D β y y' → ∃ v', VR D β v v' ∧ ∀ (ox oy : Operand) w, (do eqGuard op T ox oy x' y'; binOp op T x' y').run P w = .ok v' w
  un : UnOp → Value → Option Value
  unOk : ∀ op x v, un op x = some v → ∀ β x', VR D β x x' → ∃ v', VR D β v v' ∧ ∀ w, (Op.unary op x').run P w = .ok v' w
  conv : IntKind → Value → Option Value
  convOk : ∀ k x v, conv k x = some v → ∀ β x', VR D β x x' → ∀ src dst, P.underlying dst = some (.int k) → (∃ j, P.underlying src = some (.int j)) → ∃ v', VR D β v v' ∧ ∀ w, (convert src dst x').run P w = .ok v' w
  gl : Nat → Bool
  tab : FuncId → List Value → Option Value
  need : Globs
  needI : List Nat := []
  isI : Value → Bool := fun _ => false
  isIOk : ∀ v, isI v = true → ∀ β v', VR D β v v' → ∃ a, v' = .int .i64 a := by intro v h; cases h
  tabOk : ∀ f xs v, tab f xs = some v → pf v = true ∧ ∀ β xs' w, NeedOk need w ∧ NeedI needI w → LR D β xs xs' → Calls P f xs'.toArray w fun e w' => e = .returned v ∧ Below w.heap.size w w'
def Sy.none (P : Program) (D : Den) (ng : Nat := 0) : Sy P D where
  bin := fun _ _ _ _ => Option.none
  binOk := fun _ _ _ _ _ h => by cases h
  un := fun _ _ => Option.none
  unOk := fun _ _ _ h => by cases h
  conv := fun _ _ => Option.none
  convOk := fun _ _ _ h => by cases h
  gl := fun g => g.blt ng
  tab := fun _ _ => Option.none
  need := []
  tabOk := fun _ _ _ h => by cases h
def ev {P : Program} {D : Den} (sy : Sy P D) (A : Tr Value) : Operand → Option Value
  | .tmp t => A.at t
  | .const v => bif pf v then some v else none
  | .func f => some (.func (.func f) #[] #[])
  | .global g => bif sy.gl g then some (.pointer (some ⟨g, 0, none⟩)) else none
def evL {P : Program} {D : Den} (sy : Sy P D) (A : Tr Value) : List Operand → Option (List Value)
  | [] => some []
  | x :: xs => match ev sy A x, evL sy A xs with
    | some v, some vs => some (v :: vs)
    | _, _ => none
def evP {P : Program} {D : Den} (sy : Sy P D) (A : Tr Value) : List (Nat × Operand) → Option (List (Nat × Value))
  | [] => some []
  | (i, x) :: xs => match ev sy A x, evP sy A xs with
    | some v, some vs => some ((i, v) :: vs)
    | _, _ => none
def evO {P : Program} {D : Den} (sy : Sy P D) (A : Tr Value) : Option Operand → Option (Option Value)
  | none => some none
  | some x => match ev sy A x with
    | some v => some (some v)
    | none => none
def notSel : Op → Bool
  | .select _ _ => false
  | _ => true
def vgen {P : Program} {D : Den} (sy : Sy P D) (A : Tr Value) (W : VW) (o : Oper) : Option (VN × VW) :=
  match evL sy A o.op.operands.toList with
  | some vs =>
    bif pfs vs && notSel o.op then
      (match pureRun P (execOp (fun x => (ev sy A x).getD undef) o) with
      | some (.value v) => bif pf v then some (.val v, W) else none
      | some .skip => some (.skip, W)
      | _ => none)
    else none
  | none => none
def vVal (W : VW) (r : Option Value) : Option (VN × VW) :=
  match r with
  | some v => some (.val v, W)
  | none => none
def vValW (r : Option (Value × VW)) : Option (VN × VW) :=
  match r with
  | some (v, W) => some (.val v, W)
  | none => none
def vElse (r q : Option (VN × VW)) : Option (VN × VW) :=
  match r with
  | some x => some x
  | none => q
def vcallB (P : Program) (lim : Nat) (W : VW) (b : Builtin) (ts : List TypeId) (args : List Value) : Option (VN × VW) :=
  match b, ts, args with
  | .append, [T, tx], [s, x] => vValW (vappend P lim W T tx s x)
  | .len, [T], [x] => vVal W (vlenOp P T x)
  | .copy, [T, _], [d, s] => vValW (vcopy P lim W T d s)
  | .clear, [T], [x] => (match vclear P lim W T x with | some W' => some (.val (.tuple #[]), W') | none => none)
  | _, _, _ => none
def vconv {P : Program} {D : Den} (sy : Sy P D) (src dst : TypeId) (v : Value) : Option Value :=
  match P.underlying dst, P.underlying src with
  | some (.int k), some (.int _) => sy.conv k v
  | _, _ => none
def vop {P : Program} {D : Den} (sy : Sy P D) (lim : Nat) (A : Tr Value) (W : VW) (o : Oper) : Option (VN × VW) :=
  match o.op with
  | .move x => vVal W (ev sy A x)
  | .assign x => vVal W (ev sy A x)
  | .pick c a b => (match ev sy A c with | some (.bool t) => vVal W (ev sy A (bif t then a else b)) | _ => none)
  | .alloc T => vValW (valloc P W T)
  | .box T x => (match ev sy A x with | some v => vValW (some (vnew W T v.cells.toList)) | none => none)
  | .build T parts => (match evP sy A parts.toList with | some ps => vVal W (vbuild P T ps) | none => none)
  | .buildSlice T len parts => (match evP sy A parts.toList with | some ps => vValW (vbuildSlice P W T len ps) | none => none)
  | .load T a => (match ev sy A a with | some v => vVal W (vload P W T v) | none => none)
  | .store T a x => (match ev sy A a, ev sy A x with | some p, some v => (match vstore P lim W T p v with | some W' => some (.skip, W') | none => none) | _, _ => none)
  | .nilCheck x => (match ev sy A x with | some (.pointer (some p)) => some (.val (.pointer (some p)), W) | _ => none)
  | .binOp op T x y _ => (match ev sy A x, ev sy A y with | some a, some b => vElse (vVal W (vbin P op T a b)) (vElse (vVal W (sy.bin op T a b)) (vgen sy A W o)) | _, _ => none)
  | .unOp op _ x => (match ev sy A x with | some v => vElse (vVal W (sy.un op v)) (vgen sy A W o) | none => none)
  | .convert src dst x => (match ev sy A x with | some v => vElse (vVal W (vconv sy src dst v)) (vElse (vVal W (vbstr P W src dst v)) (vgen sy A W o)) | none => none)
  | .field T x f => (match ev sy A x with | some v => vVal W (vfield P T v f) | none => none)
  | .fieldAddr T x f => (match ev sy A x with | some v => vVal W (vfieldAt P T v f) | none => none)
  | .indexAddr T x i => (match ev sy A x, ev sy A i with | some a, some b => vVal W (vindexAt P T a b) | _, _ => none)
  | .index T x i => (match ev sy A x, ev sy A i with | some a, some b => vElse (vVal W (vindex P T a b)) (vgen sy A W o) | _, _ => none)
  | .slice T x lo hi none => (match ev sy A x, evO sy A lo, evO sy A hi with | some a, some l, some h => vElse (vVal W (vslice P W T a l h)) (vgen sy A W o) | _, _, _ => none)
  | .makeSlice T l c => (match ev sy A l, ev sy A c with | some a, some b => vValW (vmake P W T a b) | _, _ => none)
  | .extract x k => (match ev sy A x with | some (.tuple vs) => vVal W (vs.toList[k]?) | _ => none)
  | .makeMap T none => vValW (some (vmakeMap W))
  | .insert T m k x => (match ev sy A m, ev sy A k, ev sy A x with | some a, some b, some v => (match vupdate P lim W T a b v with | some W' => some (.skip, W') | none => none) | _, _, _ => none)
  | .mapUpdate T m k x => (match ev sy A m, ev sy A k, ev sy A x with | some a, some b, some v => (match vupdate P lim W T a b v with | some W' => some (.skip, W') | none => none) | _, _, _ => none)
  | .lookup T m k ok => (match ev sy A m, ev sy A k with | some a, some b => vVal W (vlookup P W T a b ok) | _, _ => none)
  | .range T x => (match ev sy A x with | some v => vValW (vrange P W T v) | none => none)
  | .next it str => (match ev sy A it with | some v => vValW (vnext lim W v str) | none => none)
  | .makeFunc (.func f) ⟨[]⟩ caps => (match evL sy A caps.toList with | some l => some (.val (.func (.func f) #[] l.toArray), W) | none => none)
  | .call c =>
    (match c.callee with
    | .value f =>
      (match ev sy A f, evL sy A c.args.toList with
      | some (.func (.func fid) ⟨[]⟩ ⟨caps⟩), some args =>
        (match P.funcs[fid]? with
        | some fn => bif fn.name == "runtime.NumGoroutine" || fn.body.isNone then none else some (.call fid (args ++ caps), W)
        | none => none)
      | _, _ => none)
    | .builtin b => (match evL sy A c.args.toList with | some args => vElse (vcallB P lim W b c.argTypes.toList args) (vgen sy A W o) | none => none)
    | .invoke _ _ => none)
  | _ => vgen sy A W o
section
variable {P : Program} {D : Den} {sy : Sy P D}
def GOk {P : Program} {D : Den} (sy : Sy P D) (β : Place) : Prop := ∀ g, sy.gl g = true → β g = .dead ∨ ∃ x, β g = .live g 0 x
structure FR {P : Program} {D : Den} (sy : Sy P D) (β : Place) (nt : Nat) (A : Tr Value) (a : Act) : Prop where
  glob : GOk sy β
  size : a.tmps.size = nt
  defers : a.defers = []
  vals : ∀ t v, A.at t = some v → VR D β v (a.tmps.getD t undef)
theorem GOk.mono {β β' : Place} (h : GOk sy β) (hl : LeS β β') : GOk sy β' := fun g hg => by
  rcases hl g with e | e | ⟨_, e⟩
  · rcases h g hg with e1 | ⟨x, e1⟩ <;> rw [e1] at e <;> cases e
  · rw [e]; exact h g hg
  · exact Or.inl e
theorem FR.mono {β β' : Place} {nt : Nat} {A : Tr Value} {a : Act} (h : FR sy β nt A a) (hl : LeS β β') : FR sy β' nt A a := ⟨h.glob.mono hl, h.size, h.defers, fun t v hv => (h.vals t v hv).mono hl⟩
theorem FR.put {β : Place} {nt : Nat} {A : Tr Value} {a : Act} (h : FR sy β nt A a) {t : Nat} (ht : t < nt) {v v' : Value} (hv : VR D β v v') : FR sy β nt (A.put t v) (a.put (some t) v') := by
  refine ⟨h.glob, by simpa [Act.put] using h.size, h.defers, fun s u hu => ?_⟩
  have hts : t < a.tmps.size := by rw [h.size]; exact ht
  rcases Tr.at_put hu with ⟨rfl, rfl⟩ | ⟨hne, hu'⟩
  · simpa [Act.put, hts] using hv
  · have := h.vals s u hu'
    simpa [Act.put, Array.getElem?_setIfInBounds_ne (Ne.symm hne)] using this
theorem ev_ok {β : Place} {nt : Nat} {A : Tr Value} {a : Act} (h : FR sy β nt A a) {x : Operand} {v : Value} (hv : ev sy A x = some v) : VR D β v (a.eval x) := by
  cases x with
  | tmp t => exact h.vals t v hv
  | const u =>
    simp only [ev] at hv
    cases hp : pf u with
    | false => rw [hp] at hv; cases hv
    | true =>
      rw [hp] at hv
      simp only [cond_true, Option.some.injEq] at hv
      subst hv
      exact pf_vr D β u hp
  | func f =>
    simp only [ev, Option.some.injEq] at hv
    subst hv
    exact pf_vr D β (.func (.func f) #[] #[]) rfl
  | global g =>
    simp only [ev] at hv
    cases hg : sy.gl g with
    | false => rw [hg] at hv; cases hv
    | true =>
      rw [hg] at hv
      simp only [cond_true, Option.some.injEq] at hv
      subst hv
      refine .ptr _ _ _ ?_
      unfold AR
      rcases h.glob g hg with e | ⟨x, e⟩ <;> rw [e]
      exact trivial
theorem evL_ok {β : Place} {nt : Nat} {A : Tr Value} {a : Act} (h : FR sy β nt A a) : ∀ {xs : List Operand} {vs : List Value}, evL sy A xs = some vs → LR D β vs (xs.map a.eval)
  | [], vs, hv => by
    simp only [evL, Option.some.injEq] at hv
    subst hv
    exact LR.nil
  | x :: xs, vs, hv => by
    unfold evL at hv
    split at hv
    · rename_i v us h1 h2
      simp only [Option.some.injEq] at hv
      subst hv
      exact LR.cons (ev_ok h h1) (evL_ok h h2)
    · cases hv
theorem evP_ok {β : Place} {nt : Nat} {A : Tr Value} {a : Act} (h : FR sy β nt A a) : ∀ {xs : List (Nat × Operand)} {vs : List (Nat × Value)}, evP sy A xs = some vs → PR D β vs (xs.map fun (i, x) => (i, a.eval x))
  | [], vs, hv => by
    simp only [evP, Option.some.injEq] at hv
    subst hv
    exact ⟨rfl, LR.nil⟩
  | (i, x) :: xs, vs, hv => by
    unfold evP at hv
    split at hv
    · rename_i v us h1 h2
      simp only [Option.some.injEq] at hv
      subst hv
      have := evP_ok h h2
      exact ⟨by simp [this.1], LR.cons (ev_ok h h1) this.2⟩
    · cases hv
theorem evO_ok {β : Place} {nt : Nat} {A : Tr Value} {a : Act} (h : FR sy β nt A a) {x : Option Operand} {v : Option Value} (hv : evO sy A x = some v) : OR D β v (x.map a.eval) := by
  unfold evO at hv
  split at hv
  · simp only [Option.some.injEq] at hv; subst hv; trivial
  · split at hv
    · rename_i h1
      simp only [Option.some.injEq] at hv; subst hv; exact ev_ok h h1
    · cases hv
theorem pfs_LR_eq {β : Place} {l l' : List Value} (hp : pfs l = true) (h : LR D β l l') : l' = l := pfs_eq l l' hp h.1 h.2
theorem evL_agree {A : Tr Value} {ρ : Operand → Value} : ∀ {xs : List Operand} {vs : List Value}, evL sy A xs = some vs → xs.map ρ = vs → ∀ x ∈ xs, ρ x = (ev sy A x).getD undef
  | [], _, _, _, x, hx => by cases hx
  | y :: xs, vs, hv, he, x, hx => by
    unfold evL at hv
    split at hv
    · rename_i v us h1 h2
      simp only [Option.some.injEq] at hv
      subst hv
      simp only [List.map_cons, List.cons.injEq] at he
      rcases List.mem_cons.1 hx with rfl | hx'
      · rw [h1]; exact he.1
      · exact evL_agree h2 he.2 x hx'
    · cases hv
theorem vgen_ok {β : Place} {W W' : VW} {w : World} (h : Rel P D β W w) {lim nt : Nat} {A : Tr Value} {a : Act} (hf : FR sy β nt A a) {o : Oper} {vn : VN} (hv : vgen sy A W o = some (vn, W')) : NOk P D lim β w (execOp a.eval o) W vn W' := by
  unfold vgen at hv
  split at hv
  rotate_left
  · cases hv
  rename_i vs hvs
  cases hc : (pfs vs && notSel o.op) with
  | false => rw [hc] at hv; cases hv
  | true =>
    rw [hc] at hv
    simp only [cond_true] at hv
    simp only [Bool.and_eq_true] at hc
    have hl := evL_ok hf hvs
    have heq := pfs_LR_eq hc.1 hl
    have hag := evL_agree hvs heq
    have hsel : ∀ cs b, o.op ≠ .select cs b := fun cs b e => by
      have := hc.2
      rw [e] at this
      cases this
    have hex : execOp a.eval o = execOp (fun x => (ev sy A x).getD undef) o := execOp_congr o hsel (fun x hx => hag x (by simpa using hx))
    rw [hex]
    split at hv
    · rename_i v hp
      cases hpv : pf v with
      | false => rw [hpv] at hv; cases hv
      | true =>
        rw [hpv] at hv
        simp only [cond_true, Option.some.injEq, Prod.mk.injEq] at hv
        obtain ⟨rfl, rfl⟩ := hv
        exact ⟨v, w, β, pureRun_ok hp w, pf_vr D β v hpv, h, Ext.refl _ _ _⟩
    · rename_i hp
      simp only [Option.some.injEq, Prod.mk.injEq] at hv
      obtain ⟨rfl, rfl⟩ := hv
      exact ⟨w, β, pureRun_ok hp w, h, Ext.refl _ _ _⟩
    · cases hv
theorem NOk.of_same {β : Place} {W W' : VW} {w : World} (h : Rel P D β W w) {lim : Nat} {s : Sem Next} {r : Option Value} {vn : VN} (hv : vVal W r = some (vn, W')) (hs : ∀ u, r = some u → ∃ u', s.run P w = .ok (.value u') w ∧ VR D β u u') : NOk P D lim β w s W vn W' := by
  unfold vVal at hv
  split at hv
  · rename_i u
    simp only [Option.some.injEq, Prod.mk.injEq] at hv
    obtain ⟨rfl, rfl⟩ := hv
    obtain ⟨u', h1, h2⟩ := hs u rfl
    exact ⟨u', w, β, h1, h2, h, Ext.refl _ _ _⟩
  · cases hv
theorem NOk.of_vok {β : Place} {W W' : VW} {w : World} {lim : Nat} {s : Sem Value} {r : Option Value} {vn : VN} (hv : vVal W r = some (vn, W')) (hs : ∀ u, r = some u → VOk P D lim β w s u W) : NOk P D lim β w (do pure (.value (← s))) W vn W' := by
  unfold vVal at hv
  split at hv
  · rename_i u
    simp only [Option.some.injEq, Prod.mk.injEq] at hv
    obtain ⟨rfl, rfl⟩ := hv
    exact (hs u rfl).next
  · cases hv
theorem NOk.of_vokW {β : Place} {W W' : VW} {w : World} {lim : Nat} {s : Sem Value} {r : Option (Value × VW)} {vn : VN} (hv : vValW r = some (vn, W')) (hs : ∀ u W1, r = some (u, W1) → VOk P D lim β w s u W1) : NOk P D lim β w (do pure (.value (← s))) W vn W' := by
  unfold vValW at hv
  split at hv
  · rename_i u W1
    simp only [Option.some.injEq, Prod.mk.injEq] at hv
    obtain ⟨rfl, rfl⟩ := hv
    exact (hs u _ rfl).next
  · cases hv
theorem NOk.skip {β : Place} {W W' : VW} {w w' : World} {lim : Nat} {s : Sem Unit} (hs : s.run P w = .ok () w') (hr : Rel P D β W' w') (he : Ext lim β β w w') : NOk P D lim β w (do s; pure .skip) W .skip W' :=
  ⟨w', β, by simp [hs, Result.andThen], hr, he⟩
theorem vElse_cases {r q : Option (VN × VW)} {x : VN × VW} (h : vElse r q = some x) : r = some x ∨ q = some x := by
  unfold vElse at h
  split at h
  · exact Or.inl h
  · exact Or.inr h
theorem vconv_ok {β : Place} {src dst : TypeId} {x x' v : Value} (hx : VR D β x x') (hv : vconv sy src dst x = some v) : AOk P D β (convert src dst x') v := by
  unfold vconv at hv
  split at hv
  · rename_i k j h1 h2
    exact sy.convOk k x v hv β x' hx src dst h1 ⟨j, h2⟩
  · cases hv
theorem vop_ok {β : Place} {W W' : VW} {w : World} (h : Rel P D β W w) {lim nt : Nat} (hlim : lim ≤ W.next) {A : Tr Value} {a : Act} (hf : FR sy β nt A a) {o : Oper} {vn : VN} (hv : vop sy lim A W o = some (vn, W')) : NOk P D lim β w (execOp a.eval o) W vn W' := by
  unfold vop at hv
  split at hv
  · rename_i x ho
    unfold execOp; simp only [ho]
    exact NOk.of_same h hv (fun u hu => ⟨_, rfl, ev_ok hf hu⟩)
  · rename_i x ho
    unfold execOp; simp only [ho]
    exact NOk.of_same h hv (fun u hu => ⟨_, rfl, ev_ok hf hu⟩)
  · rename_i c x y ho
    unfold execOp; simp only [ho]
    split at hv
    · rename_i t hc
      have hc' := ev_ok hf hc
      have e : a.eval c = .bool t := pf_eq rfl hc'
      refine NOk.of_same h hv (fun u hu => ⟨a.eval (bif t then x else y), ?_, ev_ok hf hu⟩)
      rw [e]
      cases t <;> rfl
    · cases hv
  · rename_i T ho
    unfold execOp; simp only [ho]
    exact NOk.of_vokW hv (fun u W1 hu => valloc_ok h hlim hu)
  · rename_i T x ho
    unfold execOp; simp only [ho]
    split at hv
    · rename_i v hx
      exact NOk.of_vokW hv (fun u W1 hu => by
        simp only [Option.some.injEq] at hu
        have := vbox_ok h hlim (T := T) (ev_ok hf hx)
        rw [hu] at this
        exact this)
    · cases hv
  · rename_i T parts ho
    unfold execOp; simp only [ho]
    split at hv
    · rename_i ps hps
      refine NOk.of_vok hv (fun u hu => ?_)
      have := vbuild_ok h (lim := lim) (evP_ok hf hps) hu
      have e : (List.map (fun x : Nat × Operand => (x.1, a.eval x.2)) parts.toList).toArray = parts.map fun x => (x.1, a.eval x.2) := by
        apply Array.ext'; simp
      rw [← e]
      exact this
    · cases hv
  · rename_i T len parts ho
    unfold execOp; simp only [ho]
    split at hv
    · rename_i ps hps
      refine NOk.of_vokW hv (fun u W1 hu => ?_)
      have := vbuildSlice_ok h hlim (evP_ok hf hps) hu
      have e : (List.map (fun x : Nat × Operand => (x.1, a.eval x.2)) parts.toList).toArray = parts.map fun x => (x.1, a.eval x.2) := by
        apply Array.ext'; simp
      rw [← e]
      exact this
    · cases hv
  · rename_i T x ho
    unfold execOp; simp only [ho]
    split at hv
    · rename_i v hx
      refine NOk.of_vok hv (fun u hu => ?_)
      obtain ⟨u', g1, g2⟩ := vload_ok h (ev_ok hf hx) hu
      exact VOk.same h g1 g2
    · cases hv
  · rename_i T x y ho
    unfold execOp; simp only [ho]
    split at hv
    · rename_i p v hp hx
      split at hv
      · rename_i W1 hst
        simp only [Option.some.injEq, Prod.mk.injEq] at hv
        obtain ⟨rfl, rfl⟩ := hv
        obtain ⟨w', g1, g2, g3⟩ := vstore_ok h (ev_ok hf hp) (ev_ok hf hx) hst
        exact NOk.skip g1 g2 g3
      · cases hv
    · cases hv
  · rename_i x ho
    unfold execOp; simp only [ho]
    split at hv
    · rename_i p hp
      simp only [Option.some.injEq, Prod.mk.injEq] at hv
      obtain ⟨rfl, rfl⟩ := hv
      have hp' := ev_ok hf hp
      generalize a.eval x = q at hp'
      cases hp' with
      | sym _ _ h1 => cases h1
      | ptr b o' a1 hA => exact ⟨_, w, β, rfl, .ptr _ _ _ hA, h, Ext.refl _ _ _⟩
    · cases hv
  · rename_i op T x y yT ho
    split at hv
    · rename_i p q hp hq
      replace hv := vElse_cases hv
      rcases hv with hv | hv
      · unfold execOp; simp only [ho]
        exact NOk.of_vok hv (fun u hu => vbin_ok h (ev_ok hf hp) (ev_ok hf hq) hu)
      · replace hv := vElse_cases hv
        rcases hv with hv | hv
        · unfold execOp; simp only [ho]
          exact NOk.of_vok hv (fun u hu => (let ⟨v', g1, g2⟩ := sy.binOk op T p q u hu β _ _ (ev_ok hf hp) (ev_ok hf hq); VOk.same h (g2 x y w) g1))
        · exact vgen_ok h hf hv
    · cases hv
  · rename_i op T x ho
    split at hv
    · rename_i u hx
      replace hv := vElse_cases hv
      rcases hv with hv | hv
      · unfold execOp; simp only [ho]
        exact NOk.of_vok hv (fun u hu => (let ⟨v', g1, g2⟩ := sy.unOk op _ u hu β _ (ev_ok hf hx); VOk.same h (g2 w) g1))
      · exact vgen_ok h hf hv
    · cases hv
  · rename_i src dst x ho
    split at hv
    · rename_i u hx
      replace hv := vElse_cases hv
      rcases hv with hv | hv
      · unfold execOp; simp only [ho]
        exact NOk.of_vok hv (fun u hu => (vconv_ok (ev_ok hf hx) hu).ok h)
      · replace hv := vElse_cases hv
        rcases hv with hv | hv
        · unfold execOp; simp only [ho]
          exact NOk.of_vok hv (fun u hu => vbstr_ok h (ev_ok hf hx) hu)
        · exact vgen_ok h hf hv
    · cases hv
  · rename_i T x f ho
    unfold execOp; simp only [ho]
    split at hv
    · rename_i v hx
      exact NOk.of_vok hv (fun u hu => vfield_ok h (ev_ok hf hx) hu)
    · cases hv
  · rename_i T x f ho
    unfold execOp; simp only [ho]
    split at hv
    · rename_i v hx
      exact NOk.of_vok hv (fun u hu => vfieldAt_ok h (ev_ok hf hx) hu)
    · cases hv
  · rename_i T x i ho
    unfold execOp; simp only [ho]
    split at hv
    · rename_i v q hx hq
      exact NOk.of_vok hv (fun u hu => vindexAt_ok h (ev_ok hf hx) (ev_ok hf hq) hu)
    · cases hv
  · rename_i T x i ho
    split at hv
    · rename_i v q hx hq
      replace hv := vElse_cases hv
      rcases hv with hv | hv
      · unfold execOp; simp only [ho]
        exact NOk.of_vok hv (fun u hu => vindex_ok h (ev_ok hf hx) (ev_ok hf hq) hu)
      · exact vgen_ok h hf hv
    · cases hv
  · rename_i T x lo hi ho
    split at hv
    · rename_i v l r hx hl hr
      replace hv := vElse_cases hv
      rcases hv with hv | hv
      · unfold execOp; simp only [ho]
        exact NOk.of_vok hv (fun u hu => vslice_ok h (ev_ok hf hx) (evO_ok hf hl) (evO_ok hf hr) hu)
      · exact vgen_ok h hf hv
    · cases hv
  · rename_i T x y ho
    unfold execOp; simp only [ho]
    split at hv
    · rename_i p q hp hq
      exact NOk.of_vokW hv (fun u W1 hu => vmake_ok h hlim (ev_ok hf hp) (ev_ok hf hq) hu)
    · cases hv
  · rename_i x k ho
    unfold execOp; simp only [ho]
    split at hv
    · rename_i vs hx
      have hx' := ev_ok hf hx
      generalize a.eval x = q at hx'
      cases hx' with
      | sym _ _ h1 => cases h1
      | tuple xs ys e1 e2 =>
        refine NOk.of_vok hv (fun u hu => ?_)
        have hlt : k < xs.length := (List.getElem?_eq_some_iff.1 hu).1
        have hlt' : k < ys.length := by rw [← e1]; exact hlt
        refine VOk.same h (v' := ys[k]) ?_ (e2 k u _ hu (List.getElem?_eq_getElem hlt'))
        simp [Instr.extract, hlt']
    · cases hv
  · rename_i T ho
    unfold execOp; simp only [ho]
    exact NOk.of_vokW hv (fun u W1 hu => by
      simp only [Option.some.injEq] at hu
      have := vmakeMap_ok h hlim T
      rw [hu] at this
      exact this)
  · rename_i T m k x ho
    unfold execOp; simp only [ho]
    split at hv
    · rename_i a' b' v' ha hb hc
      split at hv
      · rename_i W1 hst
        simp only [Option.some.injEq, Prod.mk.injEq] at hv
        obtain ⟨rfl, rfl⟩ := hv
        obtain ⟨w', g1, g2, g3⟩ := vupdate_ok h (ev_ok hf ha) (ev_ok hf hb) (ev_ok hf hc) hst
        exact NOk.skip g1 g2 g3
      · cases hv
    · cases hv
  · rename_i T m k x ho
    unfold execOp; simp only [ho]
    split at hv
    · rename_i a' b' v' ha hb hc
      split at hv
      · rename_i W1 hst
        simp only [Option.some.injEq, Prod.mk.injEq] at hv
        obtain ⟨rfl, rfl⟩ := hv
        obtain ⟨w', g1, g2, g3⟩ := vupdate_ok h (ev_ok hf ha) (ev_ok hf hb) (ev_ok hf hc) hst
        exact NOk.skip g1 g2 g3
      · cases hv
    · cases hv
  · rename_i T m k ok ho
    unfold execOp; simp only [ho]
    split at hv
    · rename_i a' b' ha hb
      exact NOk.of_vok hv (fun u hu => vlookup_ok h (ev_ok hf ha) (ev_ok hf hb) hu)
    · cases hv
  · rename_i T x ho
    unfold execOp; simp only [ho]
    split at hv
    · rename_i v hx
      exact NOk.of_vokW hv (fun u W1 hu => vrange_ok h hlim (ev_ok hf hx) hu)
    · cases hv
  · rename_i it str ho
    unfold execOp; simp only [ho]
    split at hv
    · rename_i v hx
      exact NOk.of_vokW hv (fun u W1 hu => vnext_ok h (ev_ok hf hx) hu)
    · cases hv
  · rename_i f caps ho
    unfold execOp; simp only [ho]
    split at hv
    · rename_i l hl
      simp only [Option.some.injEq, Prod.mk.injEq] at hv
      obtain ⟨rfl, rfl⟩ := hv
      have h1 := evL_ok hf hl
      have e : caps.map a.eval = (caps.toList.map a.eval).toArray := by apply Array.ext'; simp
      refine ⟨.func (.func f) #[] (caps.toList.map a.eval).toArray, w, β, ?_, .func f l (caps.toList.map a.eval) h1.1 h1.2, h, Ext.refl _ _ _⟩
      rw [e]
      simp [Instr.makeFunc, Sem.run_pure, Result.andThen]
    · cases hv
  · rename_i c ho
    split at hv
    · rename_i f hcal
      split at hv
      · rename_i fid caps args hfv hargs
        split at hv
        · rename_i fn hfn
          cases hc : (fn.name == "runtime.NumGoroutine" || fn.body.isNone) with
          | true => rw [hc] at hv; cases hv
          | false =>
            rw [hc] at hv
            simp only [cond_false, Option.some.injEq, Prod.mk.injEq] at hv
            obtain ⟨rfl, rfl⟩ := hv
            simp only [Bool.or_eq_false_iff] at hc
            have hfv' := ev_ok hf hfv
            have hl := evL_ok hf hargs
            unfold execOp; simp only [ho]
            generalize hq : a.eval f = q at hfv'
            cases hfv' with
            | sym _ _ h1 => cases h1
            | func _ xs ys e1 e2 =>
              refine ⟨rfl, c.args.toList.map a.eval ++ ys, ?_, hl.append ⟨e1, e2⟩⟩
              have e3 : fn.body.isNone = false := hc.2
              have e4 : (fn.name == "runtime.NumGoroutine") = false := hc.1
              simp only [resolve, hcal, hq, Deferred.ofValue, Sem.run_bind, Sem.run_pure, Result.andThen, invoke, callFunc, program, Sem.run]
              rw [hfn]
              simp only [e4, e3]
              simp [Sem.run_pure]
        · cases hv
      · cases hv
    · rename_i b hcal
      split at hv
      · rename_i args hargs
        have hl := evL_ok hf hargs
        replace hv := vElse_cases hv
        rcases hv with hv | hv
        · unfold vcallB at hv
          split at hv
          · rename_i T tx s x hts
            unfold execOp; simp only [ho]
            have e1 : c.argTypes = #[T, tx] := Array.ext' hts
            have e2 : c.args.map a.eval = (c.args.toList.map a.eval).toArray := by apply Array.ext'; simp
            have hs := hl
            obtain ⟨s', x', e3⟩ : ∃ s' x', c.args.toList.map a.eval = [s', x'] := by
              have := hl.1
              match hm : c.args.toList.map a.eval, this with
              | [s', x'], _ => exact ⟨s', x', rfl⟩
            rw [e3] at hl e2
            have := NOk.of_vokW (P := P) (D := D) (β := β) (W := W) (lim := lim) (w := w) (s := Builtin.append_ #[T, tx] o.type #[s', x']) hv (fun u W1 hu => vappend_ok h hlim (hl.2 0 s s' rfl rfl) (hl.2 1 x x' rfl rfl) hu)
            simp only [resolve, hcal, e1, e2, pure_bind, invoke, builtin]
            exact this
          · rename_i T x hts
            unfold execOp; simp only [ho]
            have e1 : c.argTypes = #[T] := Array.ext' hts
            have e2 : c.args.map a.eval = (c.args.toList.map a.eval).toArray := by apply Array.ext'; simp
            obtain ⟨x', e3⟩ : ∃ x', c.args.toList.map a.eval = [x'] := by
              have := hl.1
              match hm : c.args.toList.map a.eval, this with
              | [x'], _ => exact ⟨x', rfl⟩
            rw [e3] at hl e2
            have := NOk.of_vok (P := P) (D := D) (β := β) (W := W) (lim := lim) (w := w) (s := Builtin.len_ #[T] o.type #[x']) hv (fun u hu => vlenOp_ok h (hl.2 0 x x' rfl rfl) hu)
            simp only [resolve, hcal, e1, e2, pure_bind, invoke, builtin]
            exact this
          · rename_i T sT d s hts
            unfold execOp; simp only [ho]
            have e1 : c.argTypes = #[T, sT] := Array.ext' hts
            have e2 : c.args.map a.eval = (c.args.toList.map a.eval).toArray := by apply Array.ext'; simp
            obtain ⟨s', x', e3⟩ : ∃ s' x', c.args.toList.map a.eval = [s', x'] := by
              have := hl.1
              match hm : c.args.toList.map a.eval, this with
              | [s', x'], _ => exact ⟨s', x', rfl⟩
            rw [e3] at hl e2
            have := NOk.of_vokW (P := P) (D := D) (β := β) (W := W) (lim := lim) (w := w) (s := Builtin.copy_ #[T, sT] o.type #[s', x']) hv (fun u W1 hu => vcopy_ok h (hl.2 0 d s' rfl rfl) (hl.2 1 s x' rfl rfl) hu)
            simp only [resolve, hcal, e1, e2, pure_bind, invoke, builtin]
            exact this
          · rename_i T x hts
            unfold execOp; simp only [ho]
            have e1 : c.argTypes = #[T] := Array.ext' hts
            have e2 : c.args.map a.eval = (c.args.toList.map a.eval).toArray := by apply Array.ext'; simp
            obtain ⟨x', e3⟩ : ∃ x', c.args.toList.map a.eval = [x'] := by
              have := hl.1
              match hm : c.args.toList.map a.eval, this with
              | [x'], _ => exact ⟨x', rfl⟩
            rw [e3] at hl e2
            split at hv
            · rename_i W1 hcl
              simp only [Option.some.injEq, Prod.mk.injEq] at hv
              obtain ⟨rfl, rfl⟩ := hv
              have := (vclear_ok (ty := o.type) h (lim := lim) (hl.2 0 x x' rfl rfl) hcl).next (W := W)
              simp only [resolve, hcal, e1, e2, pure_bind, invoke, builtin]
              exact this
            · cases hv
          · cases hv
        · exact vgen_ok h hf hv
      · cases hv
    · cases hv
  · exact vgen_ok h hf hv
end
end Go.Proofs.YtmmpkkpmlaiapaaGreatDoor
namespace Go.Proofs.YtmmpkkpmlaiapaaGreatDoor
open Go.RowKit
set_option linter.unusedVariables false
abbrev VCall := Nat → FuncId → List Value → VW → Option (Value × VW)
def vwanted (ops : List Oper) (A : Tr Value) (o : Oper) : Option Bool :=
  match o.guard with
  | none => some true
  | some (j, want) =>
    match ops[j]? with
    | some oj =>
      match oj.dst with
      | some d =>
        match A.at d with
        | some (.bool b) => some (b == want)
        | some (.tuple ⟨[]⟩) => some false
        | _ => none
      | none => none
    | none => none
def vregGen {P : Program} {D : Den} (sy : Sy P D) (A : Tr Value) (o : Oper) : Option Value :=
  match evL sy A o.op.operands.toList with
  | some vs =>
    bif pfs vs && notSel o.op then
      (match pureRun P (execOp (fun x => (ev sy A x).getD undef) o) with
      | some (.value v) => bif pf v then some v else none
      | _ => none)
    else none
  | none => none
def orElse' (r q : Option Value) : Option Value :=
  match r with
  | some v => some v
  | none => q
def vreg {P : Program} {D : Den} (sy : Sy P D) (A : Tr Value) (o : Oper) : Option Value :=
  match o.op with
  | .move x => ev sy A x
  | .assign x => ev sy A x
  | .extract x k => (match ev sy A x with | some (.tuple vs) => vs.toList[k]? | _ => none)
  | .pick c a b => (match ev sy A c with | some (.bool t) => ev sy A (bif t then a else b) | _ => none)
  | .build T parts => (match evP sy A parts.toList with | some ps => vbuild P T ps | none => none)
  | .field T x f => (match ev sy A x with | some v => vfield P T v f | none => none)
  | .fieldAddr T x f => (match ev sy A x with | some v => vfieldAt P T v f | none => none)
  | .indexAddr T x i => (match ev sy A x, ev sy A i with | some a, some b => vindexAt P T a b | _, _ => none)
  | .index T x i => (match ev sy A x, ev sy A i with | some a, some b => orElse' (vindex P T a b) (vregGen sy A o) | _, _ => none)
  | .binOp op T x y _ => (match ev sy A x, ev sy A y with | some a, some b => orElse' (vbin P op T a b) (orElse' (sy.bin op T a b) (vregGen sy A o)) | _, _ => none)
  | .unOp op _ x => (match ev sy A x with | some v => orElse' (sy.un op v) (vregGen sy A o) | none => none)
  | .nilCheck x => (match ev sy A x with | some (.pointer (some p)) => some (.pointer (some p)) | _ => none)
  | _ => vregGen sy A o
def vregW {P : Program} {D : Den} (sy : Sy P D) (ops : List Oper) (A : Tr Value) (o : Oper) : Option Value :=
  match vwanted ops A o with
  | some true => vreg sy A o
  | some false => some undef
  | none => none
def regKind : Op → Bool
  | .move _ | .assign _ | .extract _ _ | .pick _ _ _ | .binOp .. | .unOp .. | .field .. | .fieldAddr .. | .indexAddr .. | .index .. | .build .. | .nilCheck _ => true
  | _ => false
def vexec1 {P : Program} {D : Den} (sy : Sy P D) (call : VCall) (lim : Nat) (ops : List Oper) (A : Tr Value) (W : VW) (o : Oper) : Option (Value × VW) :=
  match bif regKind o.op then vregW sy ops A o else none with
  | some v => some (v, W)
  | none =>
  match vwanted ops A o with
  | some true =>
    match vop sy lim A W o with
    | some (.val v, W') => bif W.next.ble W'.next then some (v, W') else none
    | some (.skip, W') => bif W.next.ble W'.next then some (undef, W') else none
    | some (.call f xs, W') =>
      match call lim f xs W' with
      | some (v, W'') => bif W.next.ble W''.next then some (v, W'') else none
      | none => none
    | none => none
  | some false => some (undef, W)
  | none => none
section
variable {P : Program} {D : Den} (sy : Sy P D)
def CallOk (call : VCall) : Prop := ∀ lim f xs W v W', call lim f xs W = some (v, W') → ∀ β w xs', Rel P D β W w → GOk sy β → LR D β xs xs' → lim ≤ W.next →
  Calls P f xs'.toArray w fun e w' => ∃ v' β', e = .returned v' ∧ VR D β' v v' ∧ Rel P D β' W' w' ∧ Ext lim β β' w w'
end
section
variable {P : Program} {D : Den} {sy : Sy P D}
theorem vwanted_ok {β : Place} {nt : Nat} {A : Tr Value} {a : Act} (h : FR sy β nt A a) {ops : Array Oper} {o : Oper} {b : Bool} (hv : vwanted ops.toList A o = some b) : Region.wanted o (yielded ops a.tmps) = b := by
  unfold vwanted at hv
  unfold Region.wanted
  split at hv
  · rename_i hg
    simp only [Option.some.injEq] at hv
    subst hv
    rw [hg]
  · rename_i j want hg
    rw [hg]
    split at hv
    rotate_left
    · cases hv
    rename_i oj hoj
    split at hv
    rotate_left
    · cases hv
    rename_i d hd
    have hoj' : ops[j]? = some oj := by simpa using hoj
    split at hv
    · rename_i b0 hA
      simp only [Option.some.injEq] at hv
      subst hv
      have := h.vals d _ hA
      have e : a.tmps.getD d undef = .bool b0 := pf_eq rfl this
      have hlt : d < a.tmps.size := by
        rcases Nat.lt_or_ge d a.tmps.size with hh | hh
        · exact hh
        · rw [Array.getD_eq_getD_getElem?, Array.getElem?_eq_none hh] at e; cases e
      have e2 : a.tmps[d]? = some (.bool b0) := by
        rw [Array.getD_eq_getD_getElem?, Array.getElem?_eq_getElem hlt] at e
        rw [Array.getElem?_eq_getElem hlt]
        simpa using e
      have : yielded ops a.tmps j = some b0 := by simp [yielded, hoj', hd, e2]
      simp only [this]
      cases b0 <;> cases want <;> rfl
    · rename_i hA
      simp only [Option.some.injEq] at hv
      subst hv
      have := h.vals d _ hA
      have e : a.tmps.getD d undef = .tuple #[] := pf_eq rfl this
      have : yielded ops a.tmps j = none := by
        simp only [yielded, hoj', hd, Option.bind_some]
        rcases Nat.lt_or_ge d a.tmps.size with hlt | hh
        · rw [Array.getD_eq_getD_getElem?, Array.getElem?_eq_getElem hlt] at e
          rw [Array.getElem?_eq_getElem hlt]
          simp only [Option.getD_some] at e
          rw [e]
        · rw [Array.getElem?_eq_none hh]
      simp only [this]
      rfl
    · cases hv
theorem AOk.op {β : Place} {s : Sem Value} {v : Value} (h : AOk P D β s v) : ∃ v', VR D β v v' ∧ ∀ w, (do pure (.value (← s)) : Sem Next).run P w = .ok (.value v') w :=
  let ⟨v', h1, h2⟩ := h; ⟨v', h1, fun w => by simp [h2 w, Result.andThen]⟩
theorem vregGen_ok {β : Place} {nt : Nat} {A : Tr Value} {a : Act} (hf : FR sy β nt A a) {o : Oper} {v : Value} (hv : vregGen sy A o = some v) : ∃ v', VR D β v v' ∧ ∀ w, (execOp a.eval o).run P w = .ok (.value v') w := by
  unfold vregGen at hv
  split at hv
  rotate_left
  · cases hv
  rename_i vs hvs
  cases hc : (pfs vs && notSel o.op) with
  | false => rw [hc] at hv; cases hv
  | true =>
    rw [hc] at hv
    simp only [cond_true] at hv
    simp only [Bool.and_eq_true] at hc
    have heq := pfs_LR_eq hc.1 (evL_ok hf hvs)
    have hag := evL_agree hvs heq
    have hsel : ∀ cs b, o.op ≠ .select cs b := fun cs b e => (by
      have := hc.2
      rw [e] at this
      cases this)
    have hex : execOp a.eval o = execOp (fun x => (ev sy A x).getD undef) o := execOp_congr o hsel (fun x hx => hag x (by simpa using hx))
    rw [hex]
    split at hv
    · rename_i u hp
      cases hpv : pf u with
      | false => rw [hpv] at hv; cases hv
      | true =>
        rw [hpv] at hv
        simp only [cond_true, Option.some.injEq] at hv
        subst hv
        exact ⟨u, pf_vr D β u hpv, fun w => pureRun_ok hp w⟩
    · cases hv
theorem orElse'_cases {r q : Option Value} {v : Value} (h : orElse' r q = some v) : r = some v ∨ q = some v := by
  unfold orElse' at h
  split at h
  · exact Or.inl h
  · exact Or.inr h
theorem vreg_ok {β : Place} {nt : Nat} {A : Tr Value} {a : Act} (hf : FR sy β nt A a) {o : Oper} {v : Value} (hv : vreg sy A o = some v) : ∃ v', VR D β v v' ∧ ∀ w, (execOp a.eval o).run P w = .ok (.value v') w := by
  unfold vreg at hv
  split at hv
  · rename_i x ho
    refine ⟨_, ev_ok hf hv, fun w => ?_⟩
    unfold execOp; simp only [ho]; rfl
  · rename_i x ho
    refine ⟨_, ev_ok hf hv, fun w => ?_⟩
    unfold execOp; simp only [ho]; rfl
  · rename_i x k ho
    split at hv
    · rename_i vs hx
      have hx' := ev_ok hf hx
      generalize hq : a.eval x = q at hx'
      cases hx' with
      | sym _ _ h1 => cases h1
      | tuple xs ys e1 e2 =>
        have hlt : k < xs.length := (List.getElem?_eq_some_iff.1 hv).1
        have hlt' : k < ys.length := by rw [← e1]; exact hlt
        refine ⟨ys[k], e2 k v _ hv (List.getElem?_eq_getElem hlt'), fun w => ?_⟩
        unfold execOp; simp only [ho]
        simp [Instr.extract, hq, hlt']
    · cases hv
  · rename_i c x y ho
    split at hv
    · rename_i t hc
      have e : a.eval c = .bool t := pf_eq rfl (ev_ok hf hc)
      refine ⟨_, ev_ok hf hv, fun w => ?_⟩
      unfold execOp; simp only [ho, e]
      cases t <;> rfl
    · cases hv
  · rename_i T parts ho
    unfold execOp; simp only [ho]
    split at hv
    · rename_i ps hps
      have e : (List.map (fun x : Nat × Operand => (x.1, a.eval x.2)) parts.toList).toArray = parts.map fun x => (x.1, a.eval x.2) := by
        apply Array.ext'; simp
      have := (vbuild_all (evP_ok hf hps) hv).op
      rw [← e]
      exact this
    · cases hv
  · rename_i T x f ho
    unfold execOp; simp only [ho]
    split at hv
    · rename_i u hx
      exact (vfield_all (ev_ok hf hx) hv).op
    · cases hv
  · rename_i T x f ho
    unfold execOp; simp only [ho]
    split at hv
    · rename_i u hx
      exact (vfieldAt_all (ev_ok hf hx) hv).op
    · cases hv
  · rename_i T x i ho
    unfold execOp; simp only [ho]
    split at hv
    · rename_i u q hx hq
      exact (vindexAt_all (ev_ok hf hx) (ev_ok hf hq) hv).op
    · cases hv
  · rename_i T x i ho
    split at hv
    · rename_i u q hx hq
      rcases orElse'_cases hv with hv1 | hv1
      · unfold execOp; simp only [ho]
        exact (vindex_all (ev_ok hf hx) (ev_ok hf hq) hv1).op
      · exact vregGen_ok hf hv1
    · cases hv
  · rename_i op T x y yT ho
    split at hv
    · rename_i u q hx hq
      rcases orElse'_cases hv with hv1 | hv1
      · unfold execOp; simp only [ho]
        exact (vbin_all (ev_ok hf hx) (ev_ok hf hq) hv1).op
      · rcases orElse'_cases hv1 with hv2 | hv2
        · unfold execOp; simp only [ho]
          obtain ⟨v', g1, g2⟩ := sy.binOk op T u q v hv2 β _ _ (ev_ok hf hx) (ev_ok hf hq)
          exact AOk.op ⟨v', g1, fun w => g2 x y w⟩
        · exact vregGen_ok hf hv2
    · cases hv
  · rename_i op T x ho
    split at hv
    · rename_i u hx
      rcases orElse'_cases hv with hv1 | hv1
      · unfold execOp; simp only [ho]
        exact AOk.op (sy.unOk op u v hv1 β _ (ev_ok hf hx))
      · exact vregGen_ok hf hv1
    · cases hv
  · rename_i x ho
    split at hv
    · rename_i p hx
      simp only [Option.some.injEq] at hv
      subst hv
      have hx' := ev_ok hf hx
      generalize hq : a.eval x = q at hx'
      cases hx' with
      | sym _ _ h1 => cases h1
      | ptr b o' a1 hA =>
        refine ⟨_, .ptr _ _ _ hA, fun w => ?_⟩
        unfold execOp; simp only [ho, hq]; rfl
    · cases hv
  · exact vregGen_ok hf hv
theorem vregW_ok {β : Place} {nt : Nat} {A : Tr Value} {a : Act} (hf : FR sy β nt A a) {ops : Array Oper} {o : Oper} {v : Value} (hv : vregW sy ops.toList A o = some v) : ∃ v', VR D β v v' ∧ Yields P ops o v' a := by
  unfold vregW at hv
  split at hv
  · rename_i hw
    obtain ⟨v', h1, h2⟩ := vreg_ok hf hv
    exact ⟨v', h1, .inl ⟨vwanted_ok hf hw, h2⟩⟩
  · rename_i hw
    simp only [Option.some.injEq] at hv
    subst hv
    exact ⟨undef, pf_vr D β undef rfl, .inr ⟨vwanted_ok hf hw, rfl⟩⟩
  · cases hv
theorem vexec1_ok {call : VCall} (hc : CallOk sy call) {β : Place} {W W' : VW} {w : World} (h : Rel P D β W w) {lim nt i : Nat} (hlim : lim ≤ W.next) {A : Tr Value} {a : Act} (hf : FR sy β nt A a) {ops : Array Oper} {o : Oper} {v : Value}
    (ho : ops[i]? = some o) (hv : vexec1 sy call lim ops.toList A W o = some (v, W')) {Q : Exit → Act → World → Prop} {K : Act → World → Prop}
    (hK : ∀ v' w' β', VR D β' v v' → Rel P D β' W' w' → Ext lim β β' w w' → W.next ≤ W'.next → K (a.put o.dst v') w') : wpOp P ops Q i K a w := by
  unfold vexec1 at hv
  split at hv
  · rename_i v1 hreg
    simp only [Option.some.injEq, Prod.mk.injEq] at hv
    obtain ⟨rfl, rfl⟩ := hv
    have hreg' : vregW sy ops.toList A o = some v1 := by
      cases hk : regKind o.op with
      | false => rw [hk] at hreg; cases hreg
      | true => rw [hk] at hreg; exact hreg
    obtain ⟨v', h1, h2⟩ := vregW_ok hf hreg'
    exact h2.wpOp ho (hK v' w β h1 h (Ext.refl _ _ _) (Nat.le_refl _))
  unfold wpOp
  rw [ho]
  simp only []
  split at hv
  · rename_i hw
    rw [if_pos (vwanted_ok hf hw)]
    refine Or.inl ?_
    split at hv
    · rename_i u W1 hop
      cases hb : W.next.ble W1.next with
      | false => rw [hb] at hv; cases hv
      | true =>
        rw [hb] at hv
        simp only [cond_true, Option.some.injEq, Prod.mk.injEq] at hv
        obtain ⟨rfl, rfl⟩ := hv
        obtain ⟨v', w', β', g1, g2, g3, g4⟩ := vop_ok h hlim hf hop
        unfold Oper.wp
        rw [g1]
        exact hK v' w' β' g2 g3 g4 (Nat.le_of_ble_eq_true hb)
    · rename_i W1 hop
      cases hb : W.next.ble W1.next with
      | false => rw [hb] at hv; cases hv
      | true =>
        rw [hb] at hv
        simp only [cond_true, Option.some.injEq, Prod.mk.injEq] at hv
        obtain ⟨rfl, rfl⟩ := hv
        obtain ⟨w', β', g1, g3, g4⟩ := vop_ok h hlim hf hop
        unfold Oper.wp
        rw [g1]
        exact hK undef w' β' (pf_vr D β' undef rfl) g3 g4 (Nat.le_of_ble_eq_true hb)
    · rename_i f xs W1 hop
      split at hv
      · rename_i u W2 hcall
        cases hb : W.next.ble W2.next with
        | false => rw [hb] at hv; cases hv
        | true =>
          rw [hb] at hv
          simp only [cond_true, Option.some.injEq, Prod.mk.injEq] at hv
          obtain ⟨rfl, rfl⟩ := hv
          obtain ⟨rfl, xs', g1, g2⟩ := vop_ok h hlim hf hop
          unfold Oper.wp
          rw [g1]
          refine (hc lim f xs _ _ _ hcall β w xs' h hf.glob g2 hlim).mono ?_
          rintro e w' ⟨v', β', rfl, q1, q2, q3⟩
          exact hK v' w' β' q1 q2 q3 (Nat.le_of_ble_eq_true hb)
      · cases hv
    · cases hv
  · rename_i hw
    rw [if_neg (by rw [vwanted_ok hf hw]; decide)]
    simp only [Option.some.injEq, Prod.mk.injEq] at hv
    obtain ⟨rfl, rfl⟩ := hv
    exact hK undef w β (pf_vr D β undef rfl) h (Ext.refl _ _ _) (Nat.le_refl _)
  · cases hv
def putD (nt : Nat) (A : Tr Value) (d : Option Tmp) (v : Value) : Option (Tr Value) :=
  match d with
  | none => some A
  | some t => bif t.blt nt then some (A.put t v) else none
theorem putD_ok {β : Place} {nt : Nat} {A A' : Tr Value} {a : Act} (h : FR sy β nt A a) {d : Option Tmp} {v v' : Value} (hv : VR D β v v') (hp : putD nt A d v = some A') : FR sy β nt A' (a.put d v') := by
  unfold putD at hp
  split at hp
  · simp only [Option.some.injEq] at hp; subst hp; exact h
  · rename_i t
    cases hb : t.blt nt with
    | false => rw [hb] at hp; cases hp
    | true =>
      rw [hb] at hp
      simp only [cond_true, Option.some.injEq] at hp
      subst hp
      exact h.put (by simpa [Nat.blt_eq] using hb) hv
def vops {P : Program} {D : Den} (sy : Sy P D) (call : VCall) (lim nt : Nat) (ops : List Oper) : List Oper → Tr Value → VW → Option (Tr Value × VW)
  | [], A, W => some (A, W)
  | o :: l, A, W =>
    match vexec1 sy call lim ops A W o with
    | some (v, W') => (match putD nt A o.dst v with | some A' => vops sy call lim nt ops l A' W' | none => none)
    | none => none
theorem vops_ok {call : VCall} (hc : CallOk sy call) {lim nt : Nat} {ops : Array Oper} {Q : Exit → Act → World → Prop} : ∀ (l : List Oper) (k : Nat) (A A' : Tr Value) (W W' : VW) (β : Place) (a : Act) (w : World), (∀ j, l[j]? = ops[k + j]?) → Rel P D β W w → lim ≤ W.next → FR sy β nt A a →
    vops sy call lim nt ops.toList l A W = some (A', W') → (∀ a' w' β', FR sy β' nt A' a' → Rel P D β' W' w' → Ext lim β β' w w' → W.next ≤ W'.next → Q .normal a' w') → wpOps P ops Q (List.range' k l.length) a w
  | [], k, A, A', W, W', β, a, w, _, h, _, hf, hv, hQ => by
    simp only [vops, Option.some.injEq, Prod.mk.injEq] at hv
    obtain ⟨rfl, rfl⟩ := hv
    exact hQ a w β hf h (Ext.refl _ _ _) (Nat.le_refl _)
  | o :: l, k, A, A', W, W', β, a, w, hl, h, hlim, hf, hv, hQ => by
    unfold vops at hv
    have h0 : ops[k]? = some o := by simpa using (hl 0).symm
    split at hv
    · rename_i v W1 he
      split at hv
      · rename_i A1 hp
        rw [List.length_cons, List.range'_succ, wpOps_cons]
        refine vexec1_ok hc h hlim hf h0 he (fun v' w' β' q1 q2 q3 q4 => ?_)
        refine vops_ok hc l (k + 1) A1 A' W1 W' β' _ w' (fun j => by have := hl (j + 1); simpa [Nat.add_assoc, Nat.add_comm 1 j] using this) q2 (Nat.le_trans hlim q4) (putD_ok (hf.mono q3.le) q1 hp) hv ?_
        intro a'' w'' β'' r1 r2 r3 r4
        exact hQ a'' w'' β'' r1 r2 (q3.trans r3) (Nat.le_trans q4 r4)
      · cases hv
    · cases hv
end
end Go.Proofs.YtmmpkkpmlaiapaaGreatDoor
namespace Go.Proofs.YtmmpkkpmlaiapaaGreatDoor
open Go.RowKit
set_option linter.unusedVariables false
/-! ### Which operations wait for which -/
def bindsTo (o : Oper) : List Nat := (o.after.toList.filter (fun e => Region.binds .any e)).map (·.on)
def stepMask (m : List Nat) (o : Oper) : Nat := (bindsTo o).foldl (fun s j => s ||| 2 ^ j ||| m.getD j 0) 0
def masks : List Oper → List Nat → List Nat
  | [], acc => acc
  | o :: l, acc => masks l (acc ++ [stepMask acc o])
def edgesOk : Nat → List Oper → Bool
  | _, [] => true
  | k, o :: l => (bindsTo o).all (fun j => j.blt k) && edgesOk (k + 1) l
def masksOk (m : List Nat) : Nat → List Oper → Bool
  | _, [] => true
  | k, o :: l => (m.getD k 0).beq (stepMask m o) && masksOk m (k + 1) l
theorem edgesOk_at : ∀ (l : List Oper) (k : Nat), edgesOk k l = true → ∀ (i : Nat) o, l[i]? = some o → ∀ j ∈ bindsTo o, j < k + i
  | [], _, _, i, o, h => by simp at h
  | x :: l, k, hk, i, o, h => by
    simp only [edgesOk, Bool.and_eq_true] at hk
    cases i with
    | zero =>
      simp only [List.getElem?_cons_zero, Option.some.injEq] at h
      subst h
      intro j hj
      have := (List.all_eq_true.1 hk.1) j hj
      simpa [Nat.blt_eq] using this
    | succ i =>
      intro j hj
      have := edgesOk_at l (k + 1) hk.2 i o (by simpa using h) j hj
      omega
theorem masksOk_at (m : List Nat) : ∀ (l : List Oper) (k : Nat), masksOk m k l = true → ∀ (i : Nat) o, l[i]? = some o → m.getD (k + i) 0 = stepMask m o
  | [], _, _, i, o, h => by simp at h
  | x :: l, k, hk, i, o, h => by
    simp only [masksOk, Bool.and_eq_true] at hk
    cases i with
    | zero =>
      simp only [List.getElem?_cons_zero, Option.some.injEq] at h
      subst h
      exact Nat.eq_of_beq_eq_true hk.1
    | succ i =>
      have := masksOk_at m l (k + 1) hk.2 i o (by simpa using h)
      rw [← this]
      congr 1
      omega
theorem foldMask (m : List Nat) (k : Nat) : ∀ (l : List Nat) (s : Nat), (l.foldl (fun s j => s ||| 2 ^ j ||| m.getD j 0) s).testBit k = (s.testBit k || l.any (fun j => decide (j = k) || (m.getD j 0).testBit k))
  | [], s => by simp
  | j :: l, s => by
    rw [List.foldl_cons, foldMask m k l]
    simp only [Nat.testBit_or, Nat.testBit_two_pow, List.any_cons, Bool.or_assoc]
theorem stepMask_bit (m : List Nat) (o : Oper) (k : Nat) : (stepMask m o).testBit k = true ↔ ∃ j ∈ bindsTo o, j = k ∨ (m.getD j 0).testBit k = true := by
  unfold stepMask
  rw [foldMask]
  simp
section
variable {ops : List Oper} {m : List Nat} (he : edgesOk 0 ops = true) (hm : masksOk m 0 ops = true)
include he hm
theorem bit_spec {i : Nat} {o : Oper} (ho : ops[i]? = some o) (k : Nat) : (m.getD i 0).testBit k = true ↔ ∃ j ∈ bindsTo o, j < i ∧ (j = k ∨ (m.getD j 0).testBit k = true) := by
  have e1 := masksOk_at m ops 0 hm i o ho
  have e2 := edgesOk_at ops 0 he i o ho
  rw [Nat.zero_add] at e1
  rw [e1, stepMask_bit]
  constructor
  · rintro ⟨j, hj, h⟩; have := e2 j hj; exact ⟨j, hj, by omega, h⟩
  · rintro ⟨j, hj, _, h⟩; exact ⟨j, hj, h⟩
theorem bit_lt : ∀ (i : Nat) {o : Oper}, ops[i]? = some o → ∀ k, (m.getD i 0).testBit k = true → k < i := by
  intro i
  induction i using Nat.strongRecOn with
  | _ i ih =>
    intro o ho k hk
    obtain ⟨j, hj, hji, h⟩ := (bit_spec he hm ho k).1 hk
    rcases h with rfl | h
    · exact hji
    · have hlt : j < ops.length := by
        have := (List.getElem?_eq_some_iff.1 ho).1
        omega
      have := ih j hji (List.getElem?_eq_getElem hlt) k h
      omega
theorem bit_trans : ∀ (i : Nat) {o : Oper}, ops[i]? = some o → ∀ j k, (m.getD i 0).testBit j = true → (m.getD j 0).testBit k = true → (m.getD i 0).testBit k = true := by
  intro i
  induction i using Nat.strongRecOn with
  | _ i ih =>
    intro o ho j k hj hk
    obtain ⟨j', h1, h2, h3⟩ := (bit_spec he hm ho j).1 hj
    rw [bit_spec he hm ho k]
    refine ⟨j', h1, h2, Or.inr ?_⟩
    rcases h3 with rfl | h3
    · exact hk
    · have hlt : j' < ops.length := by
        have := (List.getElem?_eq_some_iff.1 ho).1
        omega
      exact ih j' h2 (List.getElem?_eq_getElem hlt) j k h3 hk
theorem bit_done {L : Nat → Prop} (hL : ∀ i o, L i → ops[i]? = some o → ∀ j ∈ bindsTo o, L j) : ∀ (i : Nat) {o : Oper}, ops[i]? = some o → (∀ j ∈ bindsTo o, L j) → ∀ k, (m.getD i 0).testBit k = true → L k := by
  intro i
  induction i using Nat.strongRecOn with
  | _ i ih =>
    intro o ho hb k hk
    obtain ⟨j, h1, h2, h3⟩ := (bit_spec he hm ho k).1 hk
    rcases h3 with rfl | h3
    · exact hb j h1
    · have hlt : j < ops.length := by
        have := (List.getElem?_eq_some_iff.1 ho).1
        omega
      have ho' := List.getElem?_eq_getElem hlt
      exact ih j h2 ho' (hL j _ (hb j h1) ho') k h3
end
/-! ### Operations that may be taken whenever they are ready -/
def floatOk (ops : Array Oper) (i : Nat) (o : Oper) (l : List Oper) : Bool := regKind o.op && l.all (fun oj => (bindsTo oj).contains i || o.apart ops oj)
def fmask (ops : Array Oper) : Nat → List Oper → Nat
  | _, [] => 0
  | i, o :: l => (bif floatOk ops i o l then 2 ^ i else 0) ||| fmask ops (i + 1) l
theorem fmask_bit (ops : Array Oper) : ∀ (l : List Oper) (i : Nat), (∀ j, l[j]? = ops[i + j]?) → ∀ k, (fmask ops i l).testBit k = true → i ≤ k ∧ ∃ o, ops[k]? = some o ∧ regKind o.op = true ∧ ∀ j oj, k < j → ops[j]? = some oj → (∀ e ∈ oj.after, Region.binds .any e = true → e.on ≠ k) → o.apart ops oj = true
  | [], i, _, k, h => by simp [fmask] at h
  | o :: l, i, hl, k, h => by
    unfold fmask at h
    rw [Nat.testBit_or, Bool.or_eq_true] at h
    rcases h with h | h
    · cases hf : floatOk ops i o l with
      | false => rw [hf] at h; simp at h
      | true =>
        rw [hf] at h
        simp only [cond_true, Nat.testBit_two_pow, decide_eq_true_eq] at h
        subst h
        unfold floatOk at hf
        simp only [Bool.and_eq_true, List.all_eq_true, Bool.or_eq_true] at hf
        refine ⟨Nat.le_refl _, o, by simpa using (hl 0).symm, hf.1, fun j oj hj hoj hne => ?_⟩
        have h1 := hl (j - i)
        rw [show i + (j - i) = j by omega, hoj] at h1
        have h2 : oj ∈ l := by
          obtain ⟨d, hd⟩ : ∃ d, j - i = d + 1 := ⟨j - i - 1, by omega⟩
          rw [hd] at h1
          exact List.mem_of_getElem? (by simpa using h1)
        rcases hf.2 oj h2 with h3 | h3
        · have h4 : i ∈ bindsTo oj := by simpa using h3
          unfold bindsTo at h4
          obtain ⟨e, he, hei⟩ := List.mem_map.1 h4
          obtain ⟨he1, he2⟩ := List.mem_filter.1 he
          exact absurd hei (hne e (by simpa using he1) he2)
        · exact h3
    · obtain ⟨h1, h2⟩ := fmask_bit ops l (i + 1) (fun j => by have := hl (j + 1); simpa [Nat.add_assoc, Nat.add_comm 1 j] using this) k h
      exact ⟨by omega, h2⟩
/-! ### A part of a region in which any order may be -/
structure Rec where
  i : Nat
  dst : Option Tmp
  val : Value
  delta : List (Nat × VObj)
  lo : Nat
  hi : Nat
def selRecs (m : Nat) (recs : List Rec) : List Rec := recs.filter (fun r => m.testBit r.i)
def addDelta (h : Tr VObj) : List (Nat × VObj) → Tr VObj
  | [] => h
  | p :: l => addDelta (h.put p.1 p.2) l
def heapOf (h : Tr VObj) : List Rec → Tr VObj
  | [] => h
  | r :: l => heapOf (addDelta h r.delta) l
def frameOf (A : Tr Value) : List Rec → Tr Value
  | [] => A
  | r :: l => frameOf (match r.dst with | some d => A.put d r.val | none => A) l
def dropAll (A : Tr Value) : List Oper → Tr Value
  | [] => A
  | o :: l => dropAll (match o.dst with | some d => Tr.set DD A d none | none => A) l
def collect (h : Tr VObj) (lo : Nat) : Nat → List (Nat × VObj)
  | 0 => []
  | n + 1 => match h.at (lo + n) with
    | some o => (lo + n, o) :: collect h lo n
    | none => collect h lo n
theorem addDelta_at : ∀ (l : List (Nat × VObj)) (h : Tr VObj) (i : Nat) (o : VObj), (addDelta h l).at i = some o → (i, o) ∈ l ∨ h.at i = some o
  | [], _, _, _, h => Or.inr h
  | p :: l, h, i, o, hh => by
    rcases addDelta_at l _ i o hh with h1 | h1
    · exact Or.inl (List.mem_cons_of_mem _ h1)
    · rcases Tr.at_put h1 with ⟨rfl, rfl⟩ | ⟨_, h2⟩
      · exact Or.inl List.mem_cons_self
      · exact Or.inr h2
theorem heapOf_at : ∀ (l : List Rec) (h : Tr VObj) (i : Nat) (o : VObj), (heapOf h l).at i = some o → (∃ r ∈ l, (i, o) ∈ r.delta) ∨ h.at i = some o
  | [], _, _, _, h => Or.inr h
  | r :: l, h, i, o, hh => by
    rcases heapOf_at l _ i o hh with ⟨r', h1, h2⟩ | h1
    · exact Or.inl ⟨r', List.mem_cons_of_mem _ h1, h2⟩
    · rcases addDelta_at _ _ _ _ h1 with h2 | h2
      · exact Or.inl ⟨r, List.mem_cons_self, h2⟩
      · exact Or.inr h2
theorem frameOf_at : ∀ (l : List Rec) (A : Tr Value) (t : Nat) (v : Value), (frameOf A l).at t = some v → (∃ r ∈ l, r.dst = some t ∧ r.val = v) ∨ (A.at t = some v ∧ ∀ r ∈ l, r.dst ≠ some t)
  | [], _, _, _, h => Or.inr ⟨h, fun r hr => by cases hr⟩
  | r :: l, A, t, v, h => by
    rcases frameOf_at l _ t v h with ⟨r', h1, h2⟩ | ⟨h1, h2⟩
    · exact Or.inl ⟨r', List.mem_cons_of_mem _ h1, h2⟩
    · cases hd : r.dst with
      | none =>
        rw [hd] at h1
        refine Or.inr ⟨h1, fun r' hr' => ?_⟩
        rcases List.mem_cons.1 hr' with rfl | hr'
        · rw [hd]; exact fun e => by cases e
        · exact h2 r' hr'
      | some d =>
        rw [hd] at h1
        rcases Tr.at_put h1 with ⟨rfl, rfl⟩ | ⟨hne, h3⟩
        · exact Or.inl ⟨r, List.mem_cons_self, hd, rfl⟩
        · refine Or.inr ⟨h3, fun r' hr' => ?_⟩
          rcases List.mem_cons.1 hr' with rfl | hr'
          · rw [hd]; exact fun e => hne (Option.some.inj e).symm
          · exact h2 r' hr'
theorem dropAll_at : ∀ (l : List Oper) (A : Tr Value) (t : Nat) (v : Value), (dropAll A l).at t = some v → A.at t = some v ∧ ∀ o ∈ l, o.dst ≠ some t
  | [], _, _, _, h => ⟨h, fun o ho => by cases ho⟩
  | o :: l, A, t, v, h => by
    obtain ⟨h1, h2⟩ := dropAll_at l _ t v h
    cases hd : o.dst with
    | none =>
      rw [hd] at h1
      refine ⟨h1, fun o' ho' => ?_⟩
      rcases List.mem_cons.1 ho' with rfl | ho'
      · rw [hd]; exact fun e => by cases e
      · exact h2 o' ho'
    | some d =>
      rw [hd] at h1
      obtain ⟨hne, h3⟩ := Tr.at_drop h1
      refine ⟨h3, fun o' ho' => ?_⟩
      rcases List.mem_cons.1 ho' with rfl | ho'
      · rw [hd]; exact fun e => hne (Option.some.inj e).symm
      · exact h2 o' ho'
theorem collect_spec (h : Tr VObj) (lo : Nat) : ∀ (n : Nat) (p : Nat × VObj), p ∈ collect h lo n → lo ≤ p.1 ∧ p.1 < lo + n ∧ h.at p.1 = some p.2
  | 0, p, hp => by cases hp
  | n + 1, p, hp => by
    unfold collect at hp
    split at hp
    · rename_i o ho
      rcases List.mem_cons.1 hp with rfl | hp
      · exact ⟨by omega, by omega, ho⟩
      · obtain ⟨h1, h2, h3⟩ := collect_spec h lo n p hp
        exact ⟨h1, by omega, h3⟩
    · obtain ⟨h1, h2, h3⟩ := collect_spec h lo n p hp
      exact ⟨h1, by omega, h3⟩
def dstFresh (nt : Nat) (d : Option Tmp) (recs : List Rec) : Bool :=
  match d with
  | none => true
  | some t => t.blt nt && recs.all (fun r => match r.dst with | some u => !u.beq t | none => true)
def vmulti {P : Program} {D : Den} (sy : Sy P D) (call : VCall) (nt : Nat) (ops : List Oper) (m : List Nat) (fm : Nat) (A0 : Tr Value) (h0 : Tr VObj) : List Oper → Nat → List Rec → Nat → Option (List Rec × Nat)
  | [], _, recs, s => some (recs, s)
  | o :: l, i, recs, s =>
    match bif fm.testBit i then (match vregW sy ops (frameOf A0 (selRecs (m.getD i 0) recs)) o with | some v => some (v, ⟨heapOf h0 (selRecs (m.getD i 0) recs), s⟩) | none => none)
      else vexec1 sy call s ops (frameOf A0 (selRecs (m.getD i 0) recs)) ⟨heapOf h0 (selRecs (m.getD i 0) recs), s⟩ o with
    | some (v, W1) =>
      bif dstFresh nt o.dst recs then vmulti sy call nt ops m fm A0 h0 l (i + 1) (recs ++ [⟨i, o.dst, v, collect W1.heap s (W1.next - s), s, W1.next⟩]) W1.next else none
    | none => none
theorem vexec1_next {P : Program} {D : Den} {sy : Sy P D} {call : VCall} {lim : Nat} {ops : List Oper} {A : Tr Value} {W W' : VW} {o : Oper} {v : Value} (hv : vexec1 sy call lim ops A W o = some (v, W')) : W.next ≤ W'.next := by
  have key : ∀ (W1 : VW) (u : Value), (bif W.next.ble W1.next then some (u, W1) else none) = some (v, W') → W.next ≤ W'.next := by
    intro W1 u h
    cases hb : W.next.ble W1.next with
    | false => rw [hb] at h; cases h
    | true =>
      rw [hb] at h
      simp only [cond_true, Option.some.injEq, Prod.mk.injEq] at h
      obtain ⟨rfl, rfl⟩ := h
      exact Nat.le_of_ble_eq_true hb
  unfold vexec1 at hv
  split at hv
  · simp only [Option.some.injEq, Prod.mk.injEq] at hv
    obtain ⟨rfl, rfl⟩ := hv
    exact Nat.le_refl _
  split at hv
  · split at hv
    · exact key _ _ hv
    · exact key _ _ hv
    · split at hv
      · exact key _ _ hv
      · cases hv
    · cases hv
  · simp only [Option.some.injEq, Prod.mk.injEq] at hv
    obtain ⟨rfl, rfl⟩ := hv
    exact Nat.le_refl _
  · cases hv
end Go.Proofs.YtmmpkkpmlaiapaaGreatDoor
namespace Go.Proofs.YtmmpkkpmlaiapaaGreatDoor
open Go.RowKit
set_option linter.unusedVariables false
structure SegOk {P : Program} {D : Den} (sy : Sy P D) (call : VCall) (nt : Nat) (ops : List Oper) (m : List Nat) (fm : Nat) (A0 : Tr Value) (h0 : Tr VObj) (c s0 s1 : Nat) (R : List Rec) : Prop where
  one : ∀ r ∈ R, ∃ o W1, ops[r.i]? = some o ∧ vexec1 sy call r.lo ops (frameOf A0 (selRecs (m.getD r.i 0) R)) ⟨heapOf h0 (selRecs (m.getD r.i 0) R), r.lo⟩ o = some (r.val, W1) ∧ W1.next = r.hi ∧ r.delta = collect W1.heap r.lo (W1.next - r.lo) ∧ r.dst = o.dst
  flt : ∀ r ∈ R, fm.testBit r.i = true → ∃ o, ops[r.i]? = some o ∧ vregW sy ops (frameOf A0 (selRecs (m.getD r.i 0) R)) o = some r.val ∧ r.delta = [] ∧ r.dst = o.dst
  rng : ∀ r ∈ R, s0 ≤ r.lo ∧ r.lo ≤ r.hi ∧ r.hi ≤ s1 ∧ c ≤ r.i
  lt : ∀ r ∈ R, ∀ r' ∈ R, r.i < r'.i → r.hi ≤ r'.lo ∧ ∀ d, r.dst = some d → r'.dst ≠ some d
  eq : ∀ r ∈ R, ∀ r' ∈ R, r.i = r'.i → r = r'
  nt : ∀ r ∈ R, ∀ d, r.dst = some d → d < nt
section
variable {P : Program} {D : Den} {sy : Sy P D} {call : VCall} {nt : Nat} {ops : List Oper} {m : List Nat} {fm : Nat} {A0 : Tr Value} {h0 : Tr VObj}
theorem selRecs_append {k : Nat} {R S : List Rec} (h : ∀ r ∈ S, k.testBit r.i = false) : selRecs k (R ++ S) = selRecs k R := by
  unfold selRecs
  have e : S.filter (fun r => k.testBit r.i) = [] := List.filter_eq_nil_iff.2 (fun r hr => by rw [h r hr]; decide)
  rw [List.filter_append, e, List.append_nil]
theorem vmulti_ok (he : edgesOk 0 ops = true) (hm : masksOk m 0 ops = true) (hfm : ∀ i o, fm.testBit i = true → ops[i]? = some o → regKind o.op = true) {c s0 : Nat} : ∀ (l : List Oper) (i : Nat) (R : List Rec) (s : Nat) (R' : List Rec) (s' : Nat), (∀ j, l[j]? = none ∨ l[j]? = ops[i + j]?) → c ≤ i → s0 ≤ s → (∀ r ∈ R, r.i < i) →
    SegOk sy call nt ops m fm A0 h0 c s0 s R → vmulti sy call nt ops m fm A0 h0 l i R s = some (R', s') → SegOk sy call nt ops m fm A0 h0 c s0 s' R' ∧ s ≤ s' ∧ R'.map (·.i) = R.map (·.i) ++ (List.range' i l.length)
  | [], i, R, s, R', s', _, _, _, _, hR, h => by
    simp only [vmulti, Option.some.injEq, Prod.mk.injEq] at h
    obtain ⟨rfl, rfl⟩ := h
    exact ⟨hR, Nat.le_refl _, by simp⟩
  | o :: l, i, R, s, R', s', hl, hci, hs, hRi, hR, h => by
    unfold vmulti at h
    split at h
    rotate_left
    · cases h
    rename_i v W1 hx0
    have ho : ops[i]? = some o := by
      rcases hl 0 with h1 | h1
      · simp at h1
      · simpa using h1.symm
    obtain ⟨hx, hflt⟩ : vexec1 sy call s ops (frameOf A0 (selRecs (m.getD i 0) R)) ⟨heapOf h0 (selRecs (m.getD i 0) R), s⟩ o = some (v, W1) ∧ (fm.testBit i = true → vregW sy ops (frameOf A0 (selRecs (m.getD i 0) R)) o = some v ∧ W1.next = s) := by
      cases hb : fm.testBit i with
      | false => rw [hb] at hx0; exact ⟨hx0, fun h => by cases h⟩
      | true =>
        rw [hb] at hx0
        simp only [cond_true] at hx0
        split at hx0
        · rename_i v0 hv0
          simp only [Option.some.injEq, Prod.mk.injEq] at hx0
          obtain ⟨rfl, rfl⟩ := hx0
          refine ⟨?_, fun _ => ⟨hv0, rfl⟩⟩
          unfold vexec1
          rw [hfm i o hb ho]
          simp only [cond_true, hv0]
        · cases hx0
    cases hd : dstFresh nt o.dst R with
    | false => rw [hd] at h; cases h
    | true =>
      rw [hd] at h
      simp only [cond_true] at h
      have hn := vexec1_next hx
      have hn' : s ≤ W1.next := hn
      have hfr : (∀ d, o.dst = some d → d < nt) ∧ ∀ r ∈ R, ∀ d, r.dst = some d → o.dst ≠ some d := by
        unfold dstFresh at hd
        split at hd
        · rename_i e; exact ⟨fun d hd => (by rw [e] at hd; cases hd), fun r hr d h1 h2 => (by rw [e] at h2; cases h2)⟩
        · rename_i t e
          simp only [Bool.and_eq_true, Nat.blt_eq, List.all_eq_true] at hd
          refine ⟨fun d h1 => (by rw [e] at h1; cases h1; exact hd.1), fun r hr d h1 h2 => ?_⟩
          rw [e] at h2
          cases h2
          have := hd.2 r hr
          rw [h1] at this
          simp at this
      have hnew : ∀ r ∈ R, ∀ k, (m.getD r.i 0).testBit k = true → k < i := fun r hr k hk => by
        obtain ⟨o', W', q1, _⟩ := hR.one r hr
        have := bit_lt he hm r.i q1 k hk
        have := hRi r hr
        omega
      have hsel : ∀ r ∈ R, selRecs (m.getD r.i 0) (R ++ [⟨i, o.dst, v, collect W1.heap s (W1.next - s), s, W1.next⟩]) = selRecs (m.getD r.i 0) R := fun r hr => selRecs_append fun r' hr' => by
        simp only [List.mem_singleton] at hr'
        subst hr'
        cases hb : (m.getD r.i 0).testBit i with
        | false => rfl
        | true => exact absurd (hnew r hr i hb) (by omega)
      have hself : selRecs (m.getD i 0) (R ++ [⟨i, o.dst, v, collect W1.heap s (W1.next - s), s, W1.next⟩]) = selRecs (m.getD i 0) R := selRecs_append fun r' hr' => by
        simp only [List.mem_singleton] at hr'
        subst hr'
        cases hb : (m.getD i 0).testBit i with
        | false => rfl
        | true => exact absurd (bit_lt he hm i ho i hb) (by omega)
      have key := vmulti_ok he hm hfm (c := c) (s0 := s0) l (i + 1) (R ++ [⟨i, o.dst, v, collect W1.heap s (W1.next - s), s, W1.next⟩]) W1.next R' s' ?_ (by omega) (by omega) ?_ ?_ h
      · refine ⟨key.1, by omega, ?_⟩
        rw [key.2.2]
        simp [List.range'_succ]
      · intro j
        rcases hl (j + 1) with h1 | h1
        · exact Or.inl (by simpa using h1)
        · exact Or.inr (by rw [show i + 1 + j = i + (j + 1) by omega]; simpa using h1)
      · intro r hr
        rcases List.mem_append.1 hr with hr | hr
        · have := hRi r hr; omega
        · simp only [List.mem_singleton] at hr; subst hr; exact Nat.lt_succ_self _
      · refine ⟨?_, ?_, ?_, ?_, ?_, ?_⟩
        · intro r hr
          rcases List.mem_append.1 hr with hr | hr
          · rw [hsel r hr]; exact hR.one r hr
          · simp only [List.mem_singleton] at hr
            subst hr
            simp only []
            rw [hself]
            exact ⟨o, W1, ho, hx, rfl, rfl, rfl⟩
        · intro r hr hb
          rcases List.mem_append.1 hr with hr | hr
          · rw [hsel r hr]; exact hR.flt r hr hb
          · simp only [List.mem_singleton] at hr
            subst hr
            simp only [] at hb ⊢
            rw [hself]
            obtain ⟨q1, q2⟩ := hflt hb
            exact ⟨o, ho, q1, by rw [q2, Nat.sub_self]; rfl, rfl⟩
        · intro r hr
          rcases List.mem_append.1 hr with hr | hr
          · obtain ⟨a1, a2, a3, a4⟩ := hR.rng r hr
            exact ⟨a1, a2, by omega, a4⟩
          · simp only [List.mem_singleton] at hr
            subst hr
            exact ⟨hs, hn', Nat.le_refl _, hci⟩
        · intro r hr r' hr' hlt
          rcases List.mem_append.1 hr with hr | hr <;> rcases List.mem_append.1 hr' with hr' | hr'
          · exact hR.lt r hr r' hr' hlt
          · simp only [List.mem_singleton] at hr'
            subst hr'
            exact ⟨(hR.rng r hr).2.2.1, hfr.2 r hr⟩
          · simp only [List.mem_singleton] at hr
            subst hr
            have := hRi r' hr'
            simp only [] at hlt
            omega
          · simp only [List.mem_singleton] at hr hr'
            subst hr; subst hr'
            omega
        · intro r hr r' hr' heq
          rcases List.mem_append.1 hr with hr | hr <;> rcases List.mem_append.1 hr' with hr' | hr'
          · exact hR.eq r hr r' hr' heq
          · simp only [List.mem_singleton] at hr'
            subst hr'
            have := hRi r hr
            simp only [] at heq
            omega
          · simp only [List.mem_singleton] at hr
            subst hr
            have := hRi r' hr'
            simp only [] at heq
            omega
          · simp only [List.mem_singleton] at hr hr'
            rw [hr, hr']
        · intro r hr
          rcases List.mem_append.1 hr with hr | hr
          · exact hR.nt r hr
          · simp only [List.mem_singleton] at hr
            subst hr
            exact hfr.1
end
open Classical in
noncomputable def restr (β : Place) (S : Nat → Prop) : Place := fun i => if S i then β i else .unborn
theorem restr_in {β : Place} {S : Nat → Prop} {i : Nat} (h : S i) : restr β S i = β i := by unfold restr; rw [if_pos h]
theorem restr_out {β : Place} {S : Nat → Prop} {i : Nat} (h : ¬ S i) : restr β S i = .unborn := by unfold restr; rw [if_neg h]
theorem restr_le (β : Place) {S T : Nat → Prop} (h : ∀ i, S i → T i) : LeS (restr β S) (restr β T) := fun i => by
  by_cases hs : S i
  · exact Or.inr (Or.inl (by rw [restr_in hs, restr_in (h i hs)]))
  · exact Or.inl (restr_out hs)
theorem restr_le' (β : Place) (S : Nat → Prop) : LeS (restr β S) β := fun i => by
  by_cases hs : S i
  · exact Or.inr (Or.inl (restr_in hs).symm)
  · exact Or.inl (restr_out hs)
def InRec (r : Rec) (i : Nat) : Prop := r.lo ≤ i ∧ i < r.hi
def supp (m : List Nat) (R : List Rec) (s0 : Nat) (k : Nat) (i : Nat) : Prop := i < s0 ∨ ∃ r ∈ R, (m.getD k 0).testBit r.i = true ∧ InRec r i
def supq (m : List Nat) (R : List Rec) (s0 : Nat) (r : Rec) (i : Nat) : Prop := supp m R s0 r.i i ∨ InRec r i
structure SInv (P : Program) (D : Den) (nt : Nat) (m : List Nat) (R : List Rec) (s0 : Nat) (β0 β : Place) (w0 w : World) (a0 a : Act) (Dn : Nat → Prop) : Prop where
  base : ∀ i, i < s0 → β i = β0 i
  born : ∀ i b d x, s0 ≤ i → β i = .live b d x → w0.heap.size ≤ b
  unb : ∀ i, s0 ≤ i → β i ≠ .unborn → ∃ r ∈ R, Dn r.i ∧ InRec r i
  inj : ∀ i j b d x d' x', β i = .live b d x → β j = .live b d' x' → i = j
  lt : ∀ i b d x, β i = .live b d x → b < w.heap.size
  only : Only (fun _ => False) w0 w
  size : a.tmps.size = nt
  defers : a.defers = []
  other : ∀ t, (∀ r ∈ R, Dn r.i → r.dst ≠ some t) → a.tmps.getD t undef = a0.tmps.getD t undef
  recs : ∀ r ∈ R, Dn r.i → (∀ d, r.dst = some d → VR D (restr β (supq m R s0 r)) r.val (a.tmps.getD d undef)) ∧ ∀ p ∈ r.delta, ∃ b d x, β p.1 = .live b d x ∧ ObjRel P D (restr β (supq m R s0 r)) w b d x p.2
section
variable {P : Program} {D : Den} {sy : Sy P D} {call : VCall} {nt : Nat} {ops : Array Oper} {m : List Nat} {fm : Nat} {A A0 : Tr Value} {W : VW}
theorem act_put_getD {a : Act} {d : Option Tmp} {v : Value} {t : Nat} (h : d ≠ some t) : (a.put d v).tmps.getD t undef = a.tmps.getD t undef := by
  cases d with
  | none => rfl
  | some e =>
    have : e ≠ t := fun h' => h (by rw [h'])
    simp [Act.put, Array.getElem?_setIfInBounds_ne this]
theorem act_put_same {a : Act} {t : Nat} {v : Value} (h : t < a.tmps.size) : (a.put (some t) v).tmps.getD t undef = v := by simp [Act.put, h]
theorem supp_sub (he : edgesOk 0 ops.toList = true) (hm : masksOk m 0 ops.toList = true) {R : List Rec} {s0 : Nat} {r : Rec} {o : Oper} (ho : ops.toList[r.i]? = some o) : ∀ r' ∈ R, (m.getD r.i 0).testBit r'.i = true → ∀ i, supq m R s0 r' i → supp m R s0 r.i i := by
  intro r' hr' hb i hi
  rcases hi with (hi | ⟨r'', hr'', hb', hin⟩) | hi
  · exact Or.inl hi
  · exact Or.inr ⟨r'', hr'', bit_trans he hm r.i ho r'.i r''.i hb hb', hin⟩
  · exact Or.inr ⟨r', hr', hb, hi⟩
theorem seg_le0 {R : List Rec} {β0 β : Place} {w0 w : World} {a0 a : Act} (h0 : Rel P D β0 W w0) {Dn : Nat → Prop} (hI : SInv P D nt m R W.next β0 β w0 w a0 a Dn) (k : Nat) : LeS β0 (restr β (supp m R W.next k)) := fun i => by
  by_cases hi : i < W.next
  · exact Or.inr (Or.inl (by rw [restr_in (Or.inl hi)]; exact hI.base i hi))
  · exact Or.inl (h0.unborn i (by omega))
theorem seg_frame (he : edgesOk 0 ops.toList = true) (hm : masksOk m 0 ops.toList = true) {R : List Rec} (hA0 : ∀ t v, A0.at t = some v → A.at t = some v ∧ ∀ r ∈ R, r.dst ≠ some t) {β0 β : Place} {w0 w : World} {a0 a : Act} (h0 : Rel P D β0 W w0) (hf0 : FR sy β0 nt A a0) {Dn : Nat → Prop} (hI : SInv P D nt m R W.next β0 β w0 w a0 a Dn)
    {r : Rec} {o : Oper} (ho : ops.toList[r.i]? = some o) (hpre : ∀ r' ∈ R, (m.getD r.i 0).testBit r'.i = true → Dn r'.i) : FR sy (restr β (supp m R W.next r.i)) nt (frameOf A0 (selRecs (m.getD r.i 0) R)) a := by
  refine ⟨fun g hg => ?_, hI.size, hI.defers, fun t v hv => ?_⟩
  · have hu : β0 g ≠ .unborn := by rcases hf0.glob g hg with e | ⟨x, e⟩ <;> rw [e] <;> exact fun h => by cases h
    have hlt : g < W.next := by
      rcases Nat.lt_or_ge g W.next with hh | hh
      · exact hh
      · exact absurd (h0.unborn g hh) hu
    rw [restr_in (Or.inl hlt), hI.base g hlt]
    exact hf0.glob g hg
  rcases frameOf_at _ _ _ _ hv with ⟨r', h1, h2, h3⟩ | ⟨h1, h2⟩
  · obtain ⟨h4, h5⟩ := List.mem_filter.1 h1
    obtain ⟨g1, _⟩ := hI.recs r' h4 (hpre r' h4 h5)
    rw [← h3]
    exact (g1 t h2).mono (restr_le β (supp_sub he hm ho r' h4 h5))
  · obtain ⟨g1, g2⟩ := hA0 t v h1
    rw [hI.other t (fun r' hr' _ => g2 r' hr')]
    exact (hf0.vals t v g1).mono (seg_le0 h0 hI r.i)
theorem seg_float (he : edgesOk 0 ops.toList = true) (hm : masksOk m 0 ops.toList = true) {c s1 : Nat} {R : List Rec} (hR : SegOk sy call nt ops.toList m fm A0 W.heap c W.next s1 R)
    (hA0 : ∀ t v, A0.at t = some v → A.at t = some v ∧ ∀ r ∈ R, r.dst ≠ some t) {β0 β : Place} {w0 w : World} {a0 a : Act} (h0 : Rel P D β0 W w0) (hf0 : FR sy β0 nt A a0) {Dn : Nat → Prop} (hI : SInv P D nt m R W.next β0 β w0 w a0 a Dn)
    {r : Rec} (hr : r ∈ R) (hfl : fm.testBit r.i = true) (hnd : ¬ Dn r.i) (hpre : ∀ r' ∈ R, (m.getD r.i 0).testBit r'.i = true → Dn r'.i) :
    ∃ o v', ops[r.i]? = some o ∧ Yields P ops o v' a ∧ SInv P D nt m R W.next β0 β w0 w a0 (a.put o.dst v') (fun k => Dn k ∨ k = r.i) := by
  obtain ⟨o, ho, hv, hdel, hdst⟩ := hR.flt r hr hfl
  have hfr := seg_frame he hm hA0 h0 hf0 hI (r := r) ho hpre
  obtain ⟨v', h1, h2⟩ := vregW_ok hfr hv
  refine ⟨o, v', by simpa using ho, h2, ⟨hI.base, hI.born, fun i hi hu => ?_, hI.inj, hI.lt, hI.only, ?_, ?_, fun t ht => ?_, fun r' hr' hd' => ?_⟩⟩
  · obtain ⟨r', q1, q2, q3⟩ := hI.unb i hi hu
    exact ⟨r', q1, Or.inl q2, q3⟩
  · rw [← hI.size]
    cases o.dst <;> simp [Act.put]
  · have : (a.put o.dst v').defers = a.defers := by cases o.dst <;> rfl
    rw [this]; exact hI.defers
  · have hd : o.dst ≠ some t := by rw [← hdst]; exact ht r hr (Or.inr rfl)
    rw [act_put_getD hd]
    exact hI.other t (fun r' hr' hd' => ht r' hr' (Or.inl hd'))
  · by_cases hrr : r' = r
    · subst hrr
      refine ⟨fun d hd => ?_, fun p hp => by rw [hdel] at hp; cases hp⟩
      have hod : o.dst = some d := by rw [← hdst]; exact hd
      rw [hod, act_put_same (by rw [hI.size]; exact hR.nt r' hr' d hd)]
      exact h1.mono (restr_le β (fun i hi => Or.inl hi))
    · have hDr' : Dn r'.i := by
        rcases hd' with h | h
        · exact h
        · exact absurd (hR.eq r' hr' r hr h) hrr
      obtain ⟨q1, q2⟩ := hI.recs r' hr' hDr'
      refine ⟨fun d hd => ?_, q2⟩
      have hod : o.dst ≠ some d := by
        rw [← hdst]
        intro e
        rcases Nat.lt_trichotomy r'.i r.i with h3 | h3 | h3
        · exact (hR.lt r' hr' r hr h3).2 d hd e
        · exact hrr (hR.eq r' hr' r hr h3)
        · exact (hR.lt r hr r' hr' h3).2 d e hd
      rw [act_put_getD hod]
      exact q1 d hd
set_option maxHeartbeats 1000000
theorem seg_step (hc : CallOk sy call) (he : edgesOk 0 ops.toList = true) (hm : masksOk m 0 ops.toList = true) {c s1 : Nat} {R : List Rec} (hR : SegOk sy call nt ops.toList m fm A0 W.heap c W.next s1 R)
    (hA0 : ∀ t v, A0.at t = some v → A.at t = some v ∧ ∀ r ∈ R, r.dst ≠ some t) {β0 β : Place} {w0 w : World} {a0 a : Act} (h0 : Rel P D β0 W w0) (hf0 : FR sy β0 nt A a0) {Dn : Nat → Prop} (hI : SInv P D nt m R W.next β0 β w0 w a0 a Dn)
    {r : Rec} (hr : r ∈ R) (hnd : ¬ Dn r.i) (hpre : ∀ r' ∈ R, (m.getD r.i 0).testBit r'.i = true → Dn r'.i) (hcl : ∀ r' ∈ R, Dn r'.i → (m.getD r'.i 0).testBit r.i = true → Dn r.i) (hcl2 : ∀ r' ∈ R, Dn r'.i → ∀ r'' ∈ R, (m.getD r'.i 0).testBit r''.i = true → Dn r''.i)
    {Q : Exit → Act → World → Prop} {K : Act → World → Prop} (hK : ∀ a' w' β', SInv P D nt m R W.next β0 β' w0 w' a0 a' (fun k => Dn k ∨ k = r.i) → K a' w') : wpOp P ops Q r.i K a w := by
  obtain ⟨o, W1, ho, hx, hW1, hdel, hdst⟩ := hR.one r hr
  obtain ⟨hlo, hlh, hhs, hci⟩ := hR.rng r hr
  have ho' : ops[r.i]? = some o := by simpa using ho
  -- places of what it may know
  have hβr : ∀ i, restr β (supp m R W.next r.i) i ≠ .unborn → i < r.lo := by
    intro i hi
    by_cases hs : supp m R W.next r.i i
    · rcases hs with hs | ⟨r', hr', hb, hin⟩
      · omega
      · have h1 := bit_lt he hm r.i ho r'.i hb
        have h2 := (hR.lt r' hr' r hr h1).1
        have := hin.2
        omega
    · exact absurd (restr_out hs) hi
  have hsub : ∀ r' ∈ R, (m.getD r.i 0).testBit r'.i = true → ∀ i, supq m R W.next r' i → supp m R W.next r.i i := by
    intro r' hr' hb i hi
    rcases hi with (hi | ⟨r'', hr'', hb', hin⟩) | hi
    · exact Or.inl hi
    · exact Or.inr ⟨r'', hr'', bit_trans he hm r.i ho r'.i r''.i hb hb', hin⟩
    · exact Or.inr ⟨r', hr', hb, hi⟩
  have hle0 : LeS β0 (restr β (supp m R W.next r.i)) := fun i => by
    by_cases hi : i < W.next
    · exact Or.inr (Or.inl (by rw [restr_in (Or.inl hi)]; exact hI.base i hi))
    · exact Or.inl (h0.unborn i (by omega))
  have hrel : Rel P D (restr β (supp m R W.next r.i)) ⟨heapOf W.heap (selRecs (m.getD r.i 0) R), r.lo⟩ w := by
    refine ⟨fun i hi => ?_, fun i ob hi => ?_, fun i j b d x d' x' hi hj => ?_, fun i b d x hi => ?_⟩
    · by_cases hu : restr β (supp m R W.next r.i) i = .unborn
      · exact hu
      · have hh := hβr i hu
        have hi' : r.lo ≤ i := hi
        omega
    · rcases heapOf_at _ _ _ _ hi with ⟨r', h1, h2⟩ | h1
      · obtain ⟨h3, h4⟩ := List.mem_filter.1 h1
        obtain ⟨_, g2⟩ := hI.recs r' h3 (hpre r' h3 h4)
        obtain ⟨b, d, x, e1, e2⟩ := g2 _ h2
        obtain ⟨o'', W'', _, _, q3, q4, _⟩ := hR.one r' h3
        rw [q4] at h2
        obtain ⟨p1, p2, _⟩ := collect_spec _ _ _ _ h2
        have hrl := (hR.rng r' h3).2.1
        have hin : InRec r' i := ⟨p1, by rw [← q3]; have := p2; simp only [] at this; omega⟩
        exact ⟨b, d, x, by rw [restr_in (Or.inr ⟨r', h3, h4, hin⟩)]; exact e1, e2.mono (restr_le β (hsub r' h3 h4)) rfl⟩
      · obtain ⟨b, d, x, e1, e2⟩ := h0.live i ob h1
        have hin := h0.lt_next h1
        refine ⟨b, d, x, by rw [restr_in (Or.inl hin), hI.base i hin]; exact e1, e2.mono hle0 (hI.only.block b (h0.lt i b d x e1) (fun h => h))⟩
    · by_cases h1 : supp m R W.next r.i i
      · by_cases h2 : supp m R W.next r.i j
        · rw [restr_in h1] at hi; rw [restr_in h2] at hj; exact hI.inj i j b d x d' x' hi hj
        · rw [restr_out h2] at hj; cases hj
      · rw [restr_out h1] at hi; cases hi
    · by_cases h1 : supp m R W.next r.i i
      · rw [restr_in h1] at hi; exact hI.lt i b d x hi
      · rw [restr_out h1] at hi; cases hi
  have hfr : FR sy (restr β (supp m R W.next r.i)) nt (frameOf A0 (selRecs (m.getD r.i 0) R)) a := seg_frame he hm hA0 h0 hf0 hI (r := r) ho hpre
  refine vexec1_ok hc hrel (lim := r.lo) (Nat.le_refl _) hfr ho' hx (fun v' w1 β1 g1 g2 g3 g4 => ?_)
  have hnt : ∀ k, ¬ Touch r.lo (restr β (supp m R W.next r.i)) k := by
    rintro k ⟨i, d, x, h1, h2⟩
    have := hβr i (by rw [h2]; exact fun h => by cases h)
    omega
  have honly : Only (fun _ => False) w w1 := g3.only.mono (fun k _ hk => hnt k hk)
  have hnewb : ∀ i b d x, r.lo ≤ i → β1 i = .live b d x → w.heap.size ≤ b := by
    intro i b d x h1 h2
    rcases Nat.lt_or_ge b w.heap.size with h3 | h3
    · exact absurd (g3.new b h3 ⟨i, d, x, h1, h2⟩) (hnt b)
    · exact h3
  have hdisj : ∀ r' ∈ R, ∀ i, InRec r i → InRec r' i → r' = r := by
    intro r' hr' i h1 h2
    rcases Nat.lt_trichotomy r'.i r.i with h3 | h3 | h3
    · have := (hR.lt r' hr' r hr h3).1
      have := h1.1; have := h2.2; omega
    · exact hR.eq r' hr' r hr h3
    · have := (hR.lt r hr r' hr' h3).1
      have := h1.2; have := h2.1; omega
  -- the new places
  obtain ⟨β', hβ'⟩ : ∃ β' : Place, (∀ i, InRec r i → β' i = β1 i) ∧ ∀ i, ¬ InRec r i → β' i = β i := by
    classical
    exact ⟨fun i => if InRec r i then β1 i else β i, fun i hi => if_pos hi, fun i hi => if_neg hi⟩
  obtain ⟨hb1, hb2⟩ := hβ'
  have hnr : ∀ i, i < W.next → ¬ InRec r i := fun i hi hin => by have := hin.1; omega
  refine hK (a.put o.dst v') w1 β' ⟨?_, ?_, ?_, ?_, ?_, ?_, ?_, ?_, ?_, ?_⟩
  · intro i hi
    rw [hb2 i (hnr i hi)]; exact hI.base i hi
  · intro i b d x hi hl
    by_cases hin : InRec r i
    · rw [hb1 i hin] at hl
      exact Nat.le_trans hI.only.size (hnewb i b d x hin.1 hl)
    · rw [hb2 i hin] at hl
      exact hI.born i b d x hi hl
  · intro i hi hu
    by_cases hin : InRec r i
    · exact ⟨r, hr, Or.inr rfl, hin⟩
    · rw [hb2 i hin] at hu
      obtain ⟨r', q1, q2, q3⟩ := hI.unb i hi hu
      exact ⟨r', q1, Or.inl q2, q3⟩
  · intro i j b d x d' x' hi hj
    by_cases h1 : InRec r i <;> by_cases h2 : InRec r j
    · rw [hb1 i h1] at hi; rw [hb1 j h2] at hj; exact g2.inj i j b d x d' x' hi hj
    · rw [hb1 i h1] at hi; rw [hb2 j h2] at hj
      have q1 := hnewb i b d x h1.1 hi
      have q2 := hI.lt j b d' x' hj
      omega
    · rw [hb2 i h1] at hi; rw [hb1 j h2] at hj
      have q1 := hnewb j b d' x' h2.1 hj
      have q2 := hI.lt i b d x hi
      omega
    · rw [hb2 i h1] at hi; rw [hb2 j h2] at hj; exact hI.inj i j b d x d' x' hi hj
  · intro i b d x hi
    by_cases h1 : InRec r i
    · rw [hb1 i h1] at hi; exact g2.lt i b d x hi
    · rw [hb2 i h1] at hi; exact Nat.lt_of_lt_of_le (hI.lt i b d x hi) honly.size
  · exact hI.only.trans honly (fun _ _ h => h)
  · rw [← hI.size]
    cases o.dst <;> simp [Act.put]
  · have : (a.put o.dst v').defers = a.defers := by cases o.dst <;> rfl
    rw [this]; exact hI.defers
  · intro t ht
    have hd : o.dst ≠ some t := by rw [← hdst]; exact ht r hr (Or.inr rfl)
    rw [act_put_getD hd]
    exact hI.other t (fun r' hr' hd' => ht r' hr' (Or.inl hd'))
  · intro r' hr' hd'
    by_cases hrr : r' = r
    · subst hrr
      have hE : restr β' (supq m R W.next r') = β1 := by
        funext i
        by_cases hin : InRec r' i
        · rw [restr_in (Or.inr hin), hb1 i hin]
        · by_cases hs : supp m R W.next r'.i i
          · rw [restr_in (Or.inl hs), hb2 i hin]
            have hlt : i < r'.lo := by
              rcases hs with hs | ⟨r'', hr'', hb, hin'⟩
              · omega
              · have h1 := bit_lt he hm r'.i ho r''.i hb
                have h2 := (hR.lt r'' hr'' r' hr' h1).1
                have := hin'.2
                omega
            rw [g3.low i hlt, restr_in hs]
          · rw [restr_out (fun h => h.elim hs hin)]
            rcases Nat.lt_or_ge i r'.lo with h1 | h1
            · rw [g3.low i h1, restr_out hs]
            · refine (g2.unborn i ?_).symm
              rw [hW1]
              rcases Nat.lt_or_ge i r'.hi with h2 | h2
              · exact absurd ⟨h1, h2⟩ hin
              · exact h2
      rw [hE]
      refine ⟨fun d hd => ?_, fun p hp => ?_⟩
      · have hod : o.dst = some d := by rw [← hdst]; exact hd
        rw [hod, act_put_same (by rw [hI.size]; exact hR.nt r' hr' d hd)]
        exact g1
      · rw [hdel] at hp
        obtain ⟨p1, p2, p3⟩ := collect_spec _ _ _ _ hp
        obtain ⟨b, d, x, e1, e2⟩ := g2.live p.1 p.2 p3
        have hin : InRec r' p.1 := ⟨p1, by rw [← hW1]; omega⟩
        exact ⟨b, d, x, by rw [hb1 _ hin]; exact e1, e2⟩
    · have hDr' : Dn r'.i := by
        rcases hd' with h | h
        · exact h
        · exact absurd (hR.eq r' hr' r hr h) hrr
      have hnin : ∀ i, supq m R W.next r' i → ¬ InRec r i := by
        intro i hi hin
        rcases hi with (hi | ⟨r'', hr'', hb, hin'⟩) | hi
        · exact hnr i hi hin
        · have := hdisj r'' hr'' i hin hin'
          subst this
          exact hnd (hcl r' hr' hDr' hb)
        · exact hrr (hdisj r' hr' i hin hi)
      have hE : restr β' (supq m R W.next r') = restr β (supq m R W.next r') := by
        funext i
        by_cases hs : supq m R W.next r' i
        · rw [restr_in hs, restr_in hs, hb2 i (hnin i hs)]
        · rw [restr_out hs, restr_out hs]
      rw [hE]
      obtain ⟨q1, q2⟩ := hI.recs r' hr' hDr'
      refine ⟨fun d hd => ?_, fun p hp => ?_⟩
      · have hod : o.dst ≠ some d := by
          rw [← hdst]
          intro e
          rcases Nat.lt_trichotomy r'.i r.i with h3 | h3 | h3
          · exact (hR.lt r' hr' r hr h3).2 d hd e
          · exact hrr (hR.eq r' hr' r hr h3)
          · exact (hR.lt r hr r' hr' h3).2 d e hd
        rw [act_put_getD hod]
        exact q1 d hd
      · obtain ⟨b, d, x, e1, e2⟩ := q2 p hp
        obtain ⟨o'', W'', _, _, q3, q4, _⟩ := hR.one r' hr'
        have hp' := hp
        rw [q4] at hp'
        obtain ⟨p1, p2, _⟩ := collect_spec _ _ _ _ hp'
        have hrl := (hR.rng r' hr').2.1
        have hin : InRec r' p.1 := ⟨p1, by rw [← q3]; omega⟩
        exact ⟨b, d, x, by rw [hb2 _ (hnin _ (Or.inr hin))]; exact e1, e2.mono (LeS.refl _) (honly.block b (hI.lt _ _ _ _ e1) (fun h => h))⟩
theorem SInv.start {β0 : Place} {w0 : World} {a0 : Act} (h0 : Rel P D β0 W w0) (hf0 : FR sy β0 nt A a0) (R : List Rec) {Dn : Nat → Prop} (hD : ∀ r ∈ R, ¬ Dn r.i) : SInv P D nt m R W.next β0 β0 w0 w0 a0 a0 Dn :=
  ⟨fun _ _ => rfl, fun i b d x hi hl => (by rw [h0.unborn i hi] at hl; cases hl), fun i hi hu => absurd (h0.unborn i hi) hu, h0.inj, h0.lt, Only.refl _ _, hf0.size, hf0.defers, fun _ _ => rfl, fun r hr hd => absurd hd (hD r hr)⟩
theorem SInv.finish {c s1 : Nat} {R : List Rec} (hR : SegOk sy call nt ops.toList m fm A0 W.heap c W.next s1 R) (hs : W.next ≤ s1) {β0 β : Place} {w0 w : World} {a0 a : Act} (h0 : Rel P D β0 W w0) (hf0 : FR sy β0 nt A a0) {Dn : Nat → Prop} (hI : SInv P D nt m R W.next β0 β w0 w a0 a Dn) (hD : ∀ r ∈ R, Dn r.i) {lim : Nat} (hlim : lim ≤ W.next) :
    FR sy β nt (frameOf A R) a ∧ Rel P D β ⟨heapOf W.heap R, s1⟩ w ∧ Ext lim β0 β w0 w := by
  have hle : LeS β0 β := fun i => by
    by_cases hi : i < W.next
    · exact Or.inr (Or.inl (hI.base i hi))
    · exact Or.inl (h0.unborn i (by omega))
  refine ⟨⟨hf0.glob.mono hle, hI.size, hI.defers, fun t v hv => ?_⟩, ⟨fun i hi => ?_, fun i ob hi => ?_, hI.inj, hI.lt⟩, ⟨hle, fun i hi => hI.base i (by omega), hI.only.mono (fun _ _ h => h.elim), ?_⟩⟩
  · rcases frameOf_at _ _ _ _ hv with ⟨r, h1, h2, h3⟩ | ⟨h1, h2⟩
    · rw [← h3]
      exact ((hI.recs r h1 (hD r h1)).1 t h2).mono (restr_le' _ _)
    · rw [hI.other t (fun r hr _ => h2 r hr)]
      exact (hf0.vals t v h1).mono hle
  · by_cases hu : β i = .unborn
    · exact hu
    · have hi' : s1 ≤ i := hi
      obtain ⟨r, q1, _, q3⟩ := hI.unb i (by omega) hu
      have := (hR.rng r q1).2.2.1
      have := q3.2
      omega
  · rcases heapOf_at _ _ _ _ hi with ⟨r, h1, h2⟩ | h1
    · obtain ⟨b, d, x, e1, e2⟩ := (hI.recs r h1 (hD r h1)).2 _ h2
      exact ⟨b, d, x, e1, e2.mono (restr_le' _ _) rfl⟩
    · obtain ⟨b, d, x, e1, e2⟩ := h0.live i ob h1
      exact ⟨b, d, x, by rw [hI.base i (h0.lt_next h1)]; exact e1, e2.mono hle (hI.only.block b (h0.lt i b d x e1) (fun h => h))⟩
  · rintro k hk ⟨i, d, x, h1, h2⟩
    rcases Nat.lt_or_ge i W.next with h3 | h3
    · exact ⟨i, d, x, h1, by rw [← hI.base i h3]; exact h2⟩
    · have := hI.born i k d x h3 h2
      omega
end
end Go.Proofs.YtmmpkkpmlaiapaaGreatDoor
namespace Go.Proofs.YtmmpkkpmlaiapaaGreatDoor
open Go.RowKit
set_option linter.unusedVariables false
def waitsSeg (m : List Nat) (fm lo hi n : Nat) : Bool := (List.range' hi (n - hi)).all (fun i => (((m.getD i 0 ||| fm) >>> lo) % 2 ^ (hi - lo)).beq (2 ^ (hi - lo) - 1))
def segLen (m : List Nat) (fm c n : Nat) : Nat → Nat → Nat
  | 0, k => k
  | f + 1, k => bif waitsSeg m fm c (c + k) n then k else segLen m fm c n f (k + 1)
def freeAlloc (o : Oper) : Bool := match o.op, o.dst with | .alloc _, some _ => o.guard.isNone && (bindsTo o).isEmpty | _, _ => false
def lateOf : List Oper → Nat → Option Nat
  | [], _ => none
  | o :: l, i => bif freeAlloc o then some i else lateOf l (i + 1)
def dstNe (a b : Oper) : Bool := match a.dst, b.dst with | some x, some y => !x.beq y | _, _ => true
def dstIn (nt : Nat) (o : Oper) : Bool := match o.dst with | some d => d.blt nt | none => false
def lsched (m : List Nat) (fm c : Nat) : Nat → Nat → List Nat → List Nat
  | 0, _, _ => []
  | f + 1, D, rem =>
    match rem.find? (fun k => fm.testBit k && ((m.getD k 0 &&& D) >>> c).beq (m.getD k 0 >>> c)) with
    | some k => k :: lsched m fm c f (D ||| 2 ^ k) (rem.erase k)
    | none => match rem with
      | [] => []
      | k :: r => k :: lsched m fm c f (D ||| 2 ^ k) r
def okStep (ops : List Oper) (m : List Nat) (fm n e c D i : Nat) (L : List Nat) : Bool :=
  c.ble i && i.blt e && !D.testBit i &&
  (match ops[i]?, ops[e]? with
  | some o, some oe => dstNe o oe && (bindsTo o).all (fun j => j.blt c || D.testBit j) &&
      (bif fm.testBit i then L.all (fun j => match ops[j]? with | some oj => (bindsTo oj).contains i || o.apart ⟨ops⟩ oj | none => false)
      else (L ++ List.range' (e + 1) (n - (e + 1))).all (fun k => (m.getD k 0).testBit i))
  | _, _ => false)
def okL (ops : List Oper) (m : List Nat) (fm n e c : Nat) : Nat → List Nat → Bool
  | _, [] => true
  | D, i :: L => okStep ops m fm n e c D i L && okL ops m fm n e c (D ||| 2 ^ i) L
def lateOk (ops : List Oper) (m : List Nat) (fm c n e : Nat) (L : List Nat) : Bool :=
  c.blt e && e.blt n && !fm.testBit e && waitsSeg m fm e (e + 1) n && (List.range' c (e - c)).all (fun k => L.contains k) && okL ops m fm n e c 0 L
def vlate (P : Program) (nt : Nat) (ops : List Oper) (m : List Nat) (fm n c : Nat) (l : List Oper) (W : VW) : Option (Nat × Oper × List Nat) :=
  match lateOf l (c + 1) with
  | some e => (match ops[e]? with
    | some oe => (match oe.op with
      | .alloc T => bif freeAlloc oe && dstIn nt oe && (valloc P W T).isSome && lateOk ops m fm c n e (lsched m fm c (e - c) 0 (List.range' c (e - c))) then some (e, oe, lsched m fm c (e - c) 0 (List.range' c (e - c))) else none
      | _ => none)
    | none => none)
  | none => none
def vsched {P : Program} {D : Den} (sy : Sy P D) (call : VCall) (lim nt : Nat) (ops : List Oper) (fm : Nat) : List Nat → Tr Value → VW → Option (Tr Value × VW)
  | [], A, W => some (A, W)
  | i :: L, A, W =>
    match ops[i]? with
    | none => none
    | some o =>
      bif fm.testBit i then
        (match vregW sy ops A o with
        | some v => (match putD nt A o.dst v with | some A' => vsched sy call lim nt ops fm L A' W | none => none)
        | none => none)
      else
        (match vexec1 sy call lim ops A W o with
        | some (v, W') => (match putD nt A o.dst v with | some A' => vsched sy call lim nt ops fm L A' W' | none => none)
        | none => none)
def holds (A : Tr Value) (o : Oper) : Bool := match o.dst with | some d => (A.at d).isSome | none => false
def vregion {P : Program} {D : Den} (sy : Sy P D) (call : VCall) (lim nt : Nat) (ops : List Oper) (m : List Nat) (fm n : Nat) : Nat → Nat → Tr Value → VW → Option (Tr Value × VW)
  | 0, _, _, _ => none
  | f + 1, c, A, W =>
    match ops.drop c with
    | [] => some (A, W)
    | o :: l =>
      bif fm.testBit c then
        (match vregW sy ops A o with
        | some v => (match putD nt A o.dst v with | some A' => vregion sy call lim nt ops m fm n f (c + 1) A' W | none => none)
        | none => none)
      else bif waitsSeg m fm c (c + 1) n then
        (match vexec1 sy call lim ops A W o with
        | some (v, W') => (match putD nt A o.dst v with | some A' => vregion sy call lim nt ops m fm n f (c + 1) A' W' | none => none)
        | none => none)
      else
        match vlate P nt ops m fm n c l W with
        | some (e, oe, L) =>
          bif holds A oe then vregion sy call lim nt ops m fm n f c (dropAll A [oe]) W else
          (match vsched sy call lim nt ops fm L A W with
          | some (A', W') => vregion sy call lim nt ops m fm n f e A' W'
          | none => none)
        | none =>
        bif waitsSeg m fm c (c + segLen m fm c n (l.length) 1) n && (0).blt (segLen m fm c n (l.length) 1) && (segLen m fm c n (l.length) 1).ble (l.length + 1) then
          (match vmulti sy call nt ops m fm (dropAll A ((o :: l).take (segLen m fm c n (l.length) 1))) W.heap ((o :: l).take (segLen m fm c n (l.length) 1)) c [] W.next with
          | some (R, s1) => vregion sy call lim nt ops m fm n f (c + segLen m fm c n (l.length) 1) (frameOf A R) ⟨heapOf W.heap R, s1⟩
          | none => none)
        else none
theorem waits_bit {m : List Nat} {fm lo hi n : Nat} (h : waitsSeg m fm lo hi n = true) {i j : Nat} (hi1 : hi ≤ i) (hin : i < n) (hj0 : lo ≤ j) (hj : j < hi) (hfl : fm.testBit j = false) : (m.getD i 0).testBit j = true := by
  unfold waitsSeg at h
  have h1 := (List.all_eq_true.1 h) i (by rw [List.mem_range'_1]; omega)
  have h2 := Nat.eq_of_beq_eq_true h1
  have h3 := congrArg (fun x => x.testBit (j - lo)) h2
  have hlt : j - lo < hi - lo := by omega
  simp only [Nat.testBit_mod_two_pow, Nat.testBit_two_pow_sub_one, hlt, decide_true, Bool.true_and, Nat.testBit_shiftRight, Nat.testBit_or] at h3
  rw [show lo + (j - lo) = j by omega, hfl, Bool.or_false] at h3
  exact h3
section
variable {P : Program} {D : Den} {sy : Sy P D} {call : VCall} {nt : Nat} {ops : Array Oper} {m : List Nat} {fm : Nat}
def StepOk (P : Program) (ops : Array Oper) (Q : Exit → Act → World → Prop) (St : Array Bool → Act → World → Prop) (listed : Array Bool) (a : Act) (w : World) : Prop :=
  (∀ i ∈ Region.ready .any ops listed, wpOp P ops Q i (fun a' w' => St (listed.setIfInBounds i true) a' w') a w) ∨
  ∃ i oi v, ops[i]? = some oi ∧ i ∈ Region.ready .any ops listed ∧ Yields P ops oi v a ∧
    (∀ j oj, ops[j]? = some oj → j ≠ i → listed.getD j true = false → (∀ e ∈ oj.after, Region.binds .any e = true → e.on ≠ i) → oi.apart ops oj = true) ∧ St (listed.setIfInBounds i true) (a.put oi.dst v) w
theorem wpAny_of {Q : Exit → Act → World → Prop} {St : Array Bool → Act → World → Prop} (he : edgesOk 0 ops.toList = true) (hsel : Region.noSelect ops = true) (hQ : ∀ c a w, ¬ Q (.panic c) a w)
    (hstep : ∀ listed a w, listed.size = ops.size → St listed a w → (∃ i, i < ops.size ∧ listed.getD i false = false) → StepOk P ops Q St listed a w)
    (hend : ∀ listed a w, listed.size = ops.size → St listed a w → (∀ i, i < ops.size → listed.getD i false = true) → Q .normal a w) :
    ∀ (f : Nat) (listed : Array Bool) (a : Act) (w : World), listed.size = ops.size → listed.toList.countP (fun b => !b) ≤ f → St listed a w → wpAny P .any ops Q f listed a w := by
  have hall : ∀ (listed : Array Bool), listed.size = ops.size → Region.ready .any ops listed = [] → ∀ i, i < ops.size → listed.getD i false = true := by
    intro listed hs hr i
    induction i using Nat.strongRecOn with
    | _ i ih =>
      intro hi
      cases hb : listed.getD i false with
      | true => rfl
      | false =>
        have : i ∈ Region.ready .any ops listed := by
          rw [mem_ready]
          refine ⟨?_, ops[i], Array.getElem?_eq_getElem hi, fun e he' hbnd => ?_⟩
          · simp [Array.getD_eq_getD_getElem?, hs, hi] at hb ⊢
            exact hb
          · have hlt := edgesOk_at ops.toList 0 he i ops[i] (by simp [hi]) e.on (by
              unfold bindsTo
              rw [List.mem_map]
              exact ⟨e, List.mem_filter.2 ⟨by simpa using he', hbnd⟩, rfl⟩)
            exact ih e.on (by omega) (by omega)
        rw [hr] at this
        cases this
  intro f
  induction f with
  | zero =>
    intro listed a w hs hc hst
    have hl : ∀ i, i < ops.size → listed.getD i false = true := by
      intro i hi
      have h0 : listed.toList.countP (fun b => !b) = 0 := by omega
      rw [List.countP_eq_zero] at h0
      have hi' : i < listed.size := by omega
      have := h0 listed[i] (by simp)
      simpa [Array.getD_eq_getD_getElem?, hi'] using this
    refine ⟨?_, hend listed a w hs hst hl⟩
    cases hr : Region.ready .any ops listed with
    | nil => rfl
    | cons i l =>
      have hi : i ∈ Region.ready .any ops listed := by rw [hr]; exact List.mem_cons_self
      obtain ⟨h1, o, h2, _⟩ := mem_ready.1 hi
      have hlt : i < ops.size := (Array.getElem?_eq_some_iff.1 h2).1
      have := hl i hlt
      simp [Array.getD_eq_getD_getElem?, hs, hlt] at h1 this
      rw [h1] at this
      cases this
  | succ f ih =>
    intro listed a w hs hc hst
    have hcount : ∀ i, i ∈ Region.ready .any ops listed → (listed.setIfInBounds i true).toList.countP (fun b => !b) ≤ f := by
      intro i hi
      obtain ⟨h1, o, h2, _⟩ := mem_ready.1 hi
      have hlt : i < listed.toList.length := by
        have := (Array.getElem?_eq_some_iff.1 h2).1
        simp [hs, this]
      have hlf : listed.toList[i] = false := by
        have hlt' : i < listed.size := by simpa using hlt
        simpa [Array.getD_eq_getD_getElem?, hlt'] using h1
      rw [Array.toList_setIfInBounds, List.countP_set hlt]
      rw [hlf]
      have : 0 < listed.toList.countP (fun b => !b) := List.countP_pos_iff.2 ⟨false, by rw [← hlf]; exact List.getElem_mem _, rfl⟩
      simp only [Bool.not_false, Bool.not_true, if_true, Bool.false_eq_true, if_false]
      omega
    by_cases hex : ∃ i, i < ops.size ∧ listed.getD i false = false
    · rcases hstep listed a w hs hst hex with h | ⟨i, oi, v, h1, h2, h3, h4, h5⟩
      · refine ⟨fun hr => hend listed a w hs hst (hall listed hs hr), fun i hi => ?_⟩
        exact wpOp_mono (fun a' w' hst' => ih _ a' w' (by simpa using hs) (hcount i hi) hst') (h i hi)
      · exact wpAny_first h1 (fun j o cs b => Region.noSelect_spec hsel j o cs b) (fun c a w hq => absurd hq (hQ c _ w)) f listed a w h4 h2 h3 (ih _ _ w (by simpa using hs) (hcount i h2) h5)
    · have hl : ∀ i, i < ops.size → listed.getD i false = true := by
        intro i hi
        cases hb : listed.getD i false with
        | true => rfl
        | false => exact absurd ⟨i, hi, hb⟩ hex
      refine ⟨fun _ => hend listed a w hs hst hl, fun i hi => ?_⟩
      obtain ⟨h1, o, h2, _⟩ := mem_ready.1 hi
      have hlt : i < ops.size := (Array.getElem?_eq_some_iff.1 h2).1
      have := hl i hlt
      simp [Array.getD_eq_getD_getElem?, hs, hlt] at h1 this
      rw [h1] at this
      cases this
def Upto (ops : Array Oper) (c : Nat) (listed : Array Bool) : Prop := ∀ i, i < ops.size → listed.getD i false = decide (i < c)
theorem set_getD {listed : Array Bool} {i j : Nat} (hi : i < listed.size) : (listed.setIfInBounds i true).getD j false = (decide (j = i) || listed.getD j false) := by
  by_cases h : j = i
  · subst h; simp [Array.getD_eq_getD_getElem?, hi]
  · simp [Array.getD_eq_getD_getElem?, Array.getElem?_setIfInBounds_ne (Ne.symm h), h]
def AtCut {P : Program} {D : Den} (sy : Sy P D) (call : VCall) (lim nt : Nat) (ops : Array Oper) (m : List Nat) (fm : Nat) (A' : Tr Value) (W' : VW) (β0 : Place) (w0 : World) (next0 : Nat) (listed : Array Bool) (a : Act) (w : World) : Prop :=
  ∃ f c A W β, Upto ops c listed ∧ c ≤ ops.size ∧ Rel P D β W w ∧ FR sy β nt A a ∧ Ext lim β0 β w0 w ∧ lim ≤ W.next ∧ next0 ≤ W.next ∧ vregion sy call lim nt ops.toList m fm ops.size f c A W = some (A', W')
def InSeg {P : Program} {D : Den} (sy : Sy P D) (call : VCall) (lim nt : Nat) (ops : Array Oper) (m : List Nat) (fm : Nat) (A' : Tr Value) (W' : VW) (β0 : Place) (w0 : World) (next0 : Nat) (listed : Array Bool) (a : Act) (w : World) : Prop :=
  ∃ f c k A A0 W R s1 β1 w1 a1 β, c + k ≤ ops.size ∧ (∀ i, i < ops.size → (i < c → listed.getD i false = true) ∧ (c + k ≤ i → listed.getD i false = false)) ∧ (∃ i, c ≤ i ∧ i < c + k ∧ listed.getD i false = false) ∧
    (∀ i o, listed.getD i false = true → ops.toList[i]? = some o → ∀ j ∈ bindsTo o, listed.getD j false = true) ∧ waitsSeg m fm c (c + k) ops.size = true ∧
    SegOk sy call nt ops.toList m fm A0 W.heap c W.next s1 R ∧ W.next ≤ s1 ∧ R.map (·.i) = List.range' c k ∧ (∀ t v, A0.at t = some v → A.at t = some v ∧ ∀ r ∈ R, r.dst ≠ some t) ∧
    Rel P D β1 W w1 ∧ FR sy β1 nt A a1 ∧ Ext lim β0 β1 w0 w1 ∧ lim ≤ W.next ∧ next0 ≤ W.next ∧ SInv P D nt m R W.next β1 β w1 w a1 a (fun i => listed.getD i false = true) ∧
    vregion sy call lim nt ops.toList m fm ops.size f (c + k) (frameOf A R) ⟨heapOf W.heap R, s1⟩ = some (A', W')
structure Pend (P : Program) (β : Place) (w0 w : World) (a : Act) (oe : Oper) (T : TypeId) (d : Tmp) (i : TypeInfo) (z : Value) (b : Nat) : Prop where
  op : oe.op = .alloc T
  guard : oe.guard = none
  bind : bindsTo oe = []
  dst : oe.dst = some d
  info : P.info? T = some i
  zero : i.zero = some z
  pf : pfs z.cells.toList = true
  lt : d < a.tmps.size
  slot : a.tmps.getD d undef = .pointer (some ⟨b, 0, none⟩)
  blk : w.heap[b]? = some (.cells z.cells T (0, 0))
  new : w0.heap.size ≤ b
  out : ∀ k b' d' x, β k = .live b' d' x → b' ≠ b
structure FreeA (P : Program) (nt : Nat) (oe : Oper) (T : TypeId) (d : Tmp) (i : TypeInfo) (z : Value) : Prop where
  op : oe.op = .alloc T
  dst : oe.dst = some d
  guard : oe.guard = none
  bind : bindsTo oe = []
  lt : d < nt
  info : P.info? T = some i
  zero : i.zero = some z
  pf : pfs z.cells.toList = true
def InLate {P : Program} {D : Den} (sy : Sy P D) (call : VCall) (lim nt : Nat) (ops : Array Oper) (m : List Nat) (fm : Nat) (A' : Tr Value) (W' : VW) (β0 : Place) (w0 : World) (next0 : Nat) (listed : Array Bool) (a : Act) (w : World) : Prop :=
  ∃ f c e oe Dn L E A W β T d i z b A2 W2, c < e ∧ e < ops.size ∧ ops[e]? = some oe ∧ (∀ k, k < ops.size → listed.getD k false = (decide (k < c) || Dn.testBit k || (E && decide (k = e)))) ∧ (∀ k, Dn.testBit k = true → c ≤ k ∧ k < e) ∧
    (∀ i o, listed.getD i false = true → ops.toList[i]? = some o → ∀ j ∈ bindsTo o, listed.getD j false = true) ∧ (∀ k, c ≤ k → k < e → Dn.testBit k = false → k ∈ L) ∧ okL ops.toList m fm ops.size e c Dn L = true ∧ fm.testBit e = false ∧ waitsSeg m fm e (e + 1) ops.size = true ∧
    A.at d = none ∧ Rel P D β W w ∧ FR sy β nt A a ∧ Ext lim β0 β w0 w ∧ lim ≤ W.next ∧ next0 ≤ W.next ∧ FreeA P nt oe T d i z ∧ (E = true → Pend P β w0 w a oe T d i z b) ∧ L ≠ [] ∧
    vsched sy call lim nt ops.toList fm L A W = some (A2, W2) ∧ vregion sy call lim nt ops.toList m fm ops.size f e A2 W2 = some (A', W')
theorem ready_facts {listed : Array Bool} {i : Nat} (hs : listed.size = ops.size) (hi : i ∈ Region.ready .any ops listed) :
    i < ops.size ∧ listed.getD i false = false ∧ ∃ o, ops.toList[i]? = some o ∧ ∀ j ∈ bindsTo o, listed.getD j false = true := by
  obtain ⟨h1, o, h2, h3⟩ := mem_ready.1 hi
  have hlt : i < ops.size := (Array.getElem?_eq_some_iff.1 h2).1
  refine ⟨hlt, ?_, o, by simpa using h2, fun j hj => ?_⟩
  · simpa [Array.getD_eq_getD_getElem?, hs, hlt] using h1
  · unfold bindsTo at hj
    obtain ⟨e, he, rfl⟩ := List.mem_map.1 hj
    obtain ⟨he1, he2⟩ := List.mem_filter.1 he
    exact h3 e (by simpa using he1) he2
theorem seg_leave {lim : Nat} {A' : Tr Value} {W' : VW} {β0 : Place} {w0 : World} {next0 : Nat} {listed : Array Bool} {a : Act} {w : World} {f c k : Nat} {A A0 : Tr Value} {W : VW} {R : List Rec} {s1 : Nat} {β1 : Place} {w1 : World} {a1 : Act} {β : Place} (hs : listed.size = ops.size)
    (h1 : c + k ≤ ops.size) (h2 : ∀ i, i < ops.size → (i < c → listed.getD i false = true) ∧ (c + k ≤ i → listed.getD i false = false)) (hcl : ∀ i o, listed.getD i false = true → ops.toList[i]? = some o → ∀ j ∈ bindsTo o, listed.getD j false = true) (hw : waitsSeg m fm c (c + k) ops.size = true)
    (hR : SegOk sy call nt ops.toList m fm A0 W.heap c W.next s1 R) (hs1 : W.next ≤ s1) (hRi : R.map (·.i) = List.range' c k) (hA0 : ∀ t v, A0.at t = some v → A.at t = some v ∧ ∀ r ∈ R, r.dst ≠ some t)
    (hr : Rel P D β1 W w1) (hf : FR sy β1 nt A a1) (hx : Ext lim β0 β1 w0 w1) (hl : lim ≤ W.next) (hn : next0 ≤ W.next) (hI : SInv P D nt m R W.next β1 β w1 w a1 a (fun i => listed.getD i false = true))
    (hv : vregion sy call lim nt ops.toList m fm ops.size f (c + k) (frameOf A R) ⟨heapOf W.heap R, s1⟩ = some (A', W')) :
    AtCut sy call lim nt ops m fm A' W' β0 w0 next0 listed a w ∨ InSeg sy call lim nt ops m fm A' W' β0 w0 next0 listed a w := by
  by_cases hex : ∃ i, c ≤ i ∧ i < c + k ∧ listed.getD i false = false
  · exact Or.inr ⟨f, c, k, A, A0, W, R, s1, β1, w1, a1, β, h1, h2, hex, hcl, hw, hR, hs1, hRi, hA0, hr, hf, hx, hl, hn, hI, hv⟩
  · have hin : ∀ i, c ≤ i → i < c + k → listed.getD i false = true := by
      intro i hi hi'
      cases hb : listed.getD i false with
      | true => rfl
      | false => exact absurd ⟨i, hi, hi', hb⟩ hex
    have hD : ∀ r ∈ R, listed.getD r.i false = true := by
      intro r hr'
      have : r.i ∈ List.range' c k := by rw [← hRi]; exact List.mem_map_of_mem hr'
      rw [List.mem_range'_1] at this
      exact hin r.i this.1 this.2
    obtain ⟨g1, g2, g3⟩ := SInv.finish hR hs1 hr hf hI hD (lim := lim) hl
    refine Or.inl ⟨f, c + k, _, _, β, fun i hi => ?_, h1, g2, g1, hx.trans g3, Nat.le_trans hl hs1, Nat.le_trans hn hs1, hv⟩
    by_cases hi1 : i < c + k
    · rw [decide_eq_true hi1]
      by_cases hi2 : i < c
      · exact (h2 i hi).1 hi2
      · exact hin i (by omega) hi1
    · rw [decide_eq_false hi1]
      exact (h2 i hi).2 (by omega)
theorem unlisted_of {listed : Array Bool} {j : Nat} (hs : listed.size = ops.size) (hj : j < ops.size) (h : listed.getD j true = false) : listed.getD j false = false := by
  simpa [Array.getD_eq_getD_getElem?, hs, hj] using h
theorem ready_of {listed : Array Bool} {i : Nat} {o : Oper} (hs : listed.size = ops.size) (ho : ops[i]? = some o) (hu : listed.getD i false = false) (he : ∀ j ∈ bindsTo o, listed.getD j false = true) : i ∈ Region.ready .any ops listed := by
  have hlt : i < ops.size := (Array.getElem?_eq_some_iff.1 ho).1
  rw [mem_ready]
  refine ⟨by simpa [Array.getD_eq_getD_getElem?, hs, hlt] using hu, o, ho, fun e he' hb => he e.on ?_⟩
  unfold bindsTo
  exact List.mem_map.2 ⟨e, List.mem_filter.2 ⟨by simpa using he', hb⟩, rfl⟩
theorem InSeg.step (hc : CallOk sy call) (he : edgesOk 0 ops.toList = true) (hm : masksOk m 0 ops.toList = true) (hF : ∀ k, fm.testBit k = true → ∃ o, ops[k]? = some o ∧ regKind o.op = true ∧ ∀ j oj, k < j → ops[j]? = some oj → (∀ e ∈ oj.after, Region.binds .any e = true → e.on ≠ k) → o.apart ops oj = true) {lim : Nat} {A' : Tr Value} {W' : VW} {β0 : Place} {w0 : World} {next0 : Nat} {listed : Array Bool} {a : Act} {w : World} {Q : Exit → Act → World → Prop} (hs : listed.size = ops.size)
    (h : InSeg sy call lim nt ops m fm A' W' β0 w0 next0 listed a w) :
    StepOk P ops Q (fun listed a' w' => AtCut sy call lim nt ops m fm A' W' β0 w0 next0 listed a' w' ∨ InSeg sy call lim nt ops m fm A' W' β0 w0 next0 listed a' w') listed a w := by
  obtain ⟨f, c, k, A, A0, W, R, s1, β1, w1, a1, β, h1, h2, ⟨j0, hj1, hj2, hj3⟩, hcl, hw, hR, hs1, hRi, hA0, hr, hf, hx, hl, hn, hI, hv⟩ := h
  have hdone := bit_done he hm (L := fun k => listed.getD k false = true) (fun i o hL ho j hj => hcl i o hL ho j hj)
  have hnext : ∀ (r : Rec) (o : Oper), r ∈ R → ops.toList[r.i]? = some o → r.i < ops.size → (∀ j ∈ bindsTo o, listed.getD j false = true) → ∀ a' w' β', SInv P D nt m R W.next β1 β' w1 w' a1 a' (fun k => listed.getD k false = true ∨ k = r.i) → c ≤ r.i → r.i < c + k →
      AtCut sy call lim nt ops m fm A' W' β0 w0 next0 (listed.setIfInBounds r.i true) a' w' ∨ InSeg sy call lim nt ops m fm A' W' β0 w0 next0 (listed.setIfInBounds r.i true) a' w' := by
    intro r o hrR r3 r1 r4 a' w' β' hI' hic hick
    have hsz : r.i < listed.size := by omega
    have hDn : (fun k => listed.getD k false = true ∨ k = r.i) = (fun k => (listed.setIfInBounds r.i true).getD k false = true) := by
      funext k
      rw [set_getD hsz]
      apply propext
      simp only [Bool.or_eq_true, decide_eq_true_eq]
      exact Or.comm
    rw [hDn] at hI'
    refine seg_leave (by simpa using hs) h1 ?_ ?_ hw hR hs1 hRi hA0 hr hf hx hl hn hI' hv
    · intro j hj
      rw [set_getD hsz]
      refine ⟨fun hjc => by rw [(h2 j hj).1 hjc, Bool.or_true], fun hjc => ?_⟩
      rw [(h2 j hj).2 hjc, decide_eq_false (by omega)]; rfl
    · intro j o' hj ho' l hl'
      rw [set_getD hsz] at hj ⊢
      simp only [Bool.or_eq_true, decide_eq_true_eq] at hj ⊢
      rcases hj with rfl | hj
      · rw [r3] at ho'
        cases ho'
        exact Or.inr (r4 l hl')
      · exact Or.inr (hcl j o' hj ho' l hl')
  have hrec : ∀ i, c ≤ i → i < c + k → ∃ r ∈ R, r.i = i := by
    intro i hic hick
    have : i ∈ R.map (·.i) := by rw [hRi, List.mem_range'_1]; exact ⟨hic, hick⟩
    exact List.mem_map.1 this
  by_cases hex : ∃ j, c ≤ j ∧ j < c + k ∧ listed.getD j false = false ∧ fm.testBit j = false
  · obtain ⟨j0, hj1, hj2, hj3, hj4⟩ := hex
    refine Or.inl (fun i hi => ?_)
    obtain ⟨r1, r2, o, r3, r4⟩ := ready_facts hs hi
    have hic : c ≤ i := by
      rcases Nat.lt_or_ge i c with hh | hh
      · have := (h2 i r1).1 hh
        rw [this] at r2; cases r2
      · exact hh
    have hick : i < c + k := by
      rcases Nat.lt_or_ge i (c + k) with hh | hh
      · exact hh
      · have hb := waits_bit hw hh r1 hj1 hj2 hj4
        have := hdone i r3 r4 j0 hb
        rw [hj3] at this; cases this
    obtain ⟨r, hrR, rfl⟩ := hrec i hic hick
    refine seg_step hc he hm hR hA0 hr hf hI hrR (by rw [r2]; decide) (fun r' _ hb => hdone r.i r3 r4 r'.i hb) ?_ ?_ ?_
    · intro r' hr' hd hb
      obtain ⟨o', W'', q1, _⟩ := hR.one r' hr'
      exact hdone r'.i q1 (hcl r'.i o' hd q1) r.i hb
    · intro r' hr' hd r'' _ hb
      obtain ⟨o', W'', q1, _⟩ := hR.one r' hr'
      exact hdone r'.i q1 (hcl r'.i o' hd q1) r''.i hb
    · intro a' w' β' hI'
      exact hnext r o hrR r3 r1 r4 a' w' β' hI' hic hick
  · -- only such are left as look at their operands alone: the first of them
    obtain ⟨i, hic, hick, hiu, hmin⟩ : ∃ i, c ≤ i ∧ i < c + k ∧ listed.getD i false = false ∧ ∀ j, c ≤ j → j < i → listed.getD j false = true := by
      have key : ∀ d, ∀ j, c ≤ j → j < c + k → listed.getD j false = false → j - c = d → ∃ i, c ≤ i ∧ i < c + k ∧ listed.getD i false = false ∧ ∀ j, c ≤ j → j < i → listed.getD j false = true := by
        intro d
        induction d using Nat.strongRecOn with
        | _ d ih =>
          intro j q1 q2 q3 q4
          by_cases hh : ∃ j', c ≤ j' ∧ j' < j ∧ listed.getD j' false = false
          · obtain ⟨j', p1, p2, p3⟩ := hh
            exact ih (j' - c) (by omega) j' p1 (by omega) p3 rfl
          · refine ⟨j, q1, q2, q3, fun j' p1 p2 => ?_⟩
            cases hb : listed.getD j' false with
            | true => rfl
            | false => exact absurd ⟨j', p1, p2, hb⟩ hh
      exact key _ j0 hj1 hj2 hj3 rfl
    have hin : i < ops.size := by omega
    have hfl : fm.testBit i = true := by
      cases hb : fm.testBit i with
      | true => rfl
      | false => exact absurd ⟨i, hic, hick, hiu, hb⟩ hex
    obtain ⟨o, ho, hk, hfree⟩ := hF i hfl
    obtain ⟨r, hrR, rfl⟩ := hrec i hic hick
    have ho' : ops.toList[r.i]? = some o := by simpa using ho
    have hedges : ∀ j ∈ bindsTo o, listed.getD j false = true := by
      intro j hj
      have hlt := edgesOk_at ops.toList 0 he r.i o ho' j hj
      rcases Nat.lt_or_ge j c with hh | hh
      · exact (h2 j (by omega)).1 hh
      · exact hmin j hh (by omega)
    obtain ⟨o2, v', g1, g2, g3⟩ := seg_float he hm hR hA0 hr hf hI hrR hfl (by rw [hiu]; decide) (fun r' _ hb => hdone r.i ho' hedges r'.i hb)
    have : o2 = o := Option.some.inj (g1.symm.trans ho)
    subst this
    refine Or.inr ⟨r.i, o2, v', ho, ready_of hs ho hiu hedges, g2, fun j oj hoj hne hju hnw => hfree j oj ?_ hoj hnw, hnext r o2 hrR ho' hin hedges _ w β g3 hic hick⟩
    have hj : j < ops.size := (Array.getElem?_eq_some_iff.1 hoj).1
    have hju' := unlisted_of hs hj hju
    rcases Nat.lt_trichotomy j r.i with hh | hh | hh
    · rcases Nat.lt_or_ge j c with hh2 | hh2
      · rw [(h2 j hj).1 hh2] at hju'; cases hju'
      · rw [hmin j hh2 hh] at hju'; cases hju'
    · exact absurd hh hne
    · exact hh
theorem Rel.grow {β : Place} {W : VW} {w w' : World} (h : Rel P D β W w) (hb : Below w.heap.size w w') : Rel P D β W w' :=
  ⟨h.unborn, fun i o hi => let ⟨b, d, x, e1, e2⟩ := h.live i o hi; ⟨b, d, x, e1, e2.mono (LeS.refl _) (hb.block b (h.lt i b d x e1))⟩, h.inj, fun i b d x hi => Nat.lt_of_lt_of_le (h.lt i b d x hi) hb.size⟩
theorem StepOk.mono {Q : Exit → Act → World → Prop} {St St' : Array Bool → Act → World → Prop} {listed : Array Bool} {a : Act} {w : World} (h : StepOk P ops Q St listed a w) (hm : ∀ l a w, St l a w → St' l a w) : StepOk P ops Q St' listed a w := by
  rcases h with h | ⟨i, oi, v, h1, h2, h3, h4, h5⟩
  · exact Or.inl (fun i hi => wpOp_mono (fun a' w' q => hm _ _ _ q) (h i hi))
  · exact Or.inr ⟨i, oi, v, h1, h2, h3, h4, hm _ _ _ h5⟩
theorem FR.drop {β : Place} {A : Tr Value} {a : Act} (h : FR sy β nt A a) (l : List Oper) : FR sy β nt (dropAll A l) a := ⟨h.glob, h.size, h.defers, fun t v ht => h.vals t v (dropAll_at _ _ _ _ ht).1⟩
theorem act_put_id {a : Act} {d : Tmp} {v : Value} (hd : d < a.tmps.size) (hv : a.tmps.getD d undef = v) : a.put (some d) v = a := by
  have : a.tmps.setIfInBounds d v = a.tmps := by
    apply Array.ext
    · simp
    · intro i h1 h2
      by_cases e : i = d
      · subst e
        rw [Array.getElem_setIfInBounds_self, ← hv]
        simp [Array.getD_eq_getD_getElem?, hd]
      · rw [Array.getElem_setIfInBounds_ne (by simpa using h2) (Ne.symm e)]
  show ({ a with tmps := a.tmps.setIfInBounds d v } : Act) = a
  rw [this]
theorem Pend.step {β β' : Place} {w0 w w' : World} {a : Act} {oe : Oper} {T : TypeId} {d : Tmp} {i : TypeInfo} {z : Value} {b lim : Nat} (h : Pend P β w0 w a oe T d i z b) (hx : Ext lim β β' w w') {t : Option Tmp} (ht : t ≠ some d) (v : Value) : Pend P β' w0 w' (a.put t v) oe T d i z b := by
  have hbl : b < w.heap.size := (Array.getElem?_eq_some_iff.1 h.blk).1
  have hno : ¬ Touch lim β b := fun ⟨k, d', x, _, e⟩ => h.out k b d' x e rfl
  refine ⟨h.op, h.guard, h.bind, h.dst, h.info, h.zero, h.pf, ?_, ?_, ?_, h.new, ?_⟩
  · have : (a.put t v).tmps.size = a.tmps.size := by cases t <;> simp [Act.put]
    rw [this]; exact h.lt
  · rw [act_put_getD ht]; exact h.slot
  · rw [hx.only.block b hbl hno]; exact h.blk
  · intro k b' d' x hk e
    subst e
    by_cases hkl : k < lim
    · rw [hx.low k hkl] at hk
      exact h.out k b' d' x hk rfl
    · exact hno (hx.new b' hbl ⟨k, d', x, by omega, hk⟩)
theorem Rel.adopt {β : Place} {W : VW} {w : World} (h : Rel P D β W w) {b : Nat} (hb : b < w.heap.size) (hout : ∀ k b' d' x, β k = .live b' d' x → b' ≠ b) (o : VObj) (ho : ObjRel P D (updP β W.next (.live b 0 0)) w b 0 0 o) : Rel P D (updP β W.next (.live b 0 0)) (W.push o) w := by
  have hu := h.unborn W.next (Nat.le_refl _)
  have hle := LeS.upd_unborn hu (.live b 0 0)
  refine ⟨?_, ?_, ?_, ?_⟩
  · intro i hi
    have hi' : W.next + 1 ≤ i := hi
    rw [updP_ne (by omega)]; exact h.unborn i (by omega)
  · intro i o' hi
    rcases Tr.at_put hi with ⟨rfl, rfl⟩ | ⟨hne, hi'⟩
    · exact ⟨_, _, _, updP_same _ _ _, ho⟩
    · obtain ⟨b, d, x, e1, e2⟩ := h.live i o' hi'
      exact ⟨b, d, x, by rw [updP_ne hne]; exact e1, e2.mono hle rfl⟩
  · intro i j b1 d x d' x' hi hj
    by_cases e1 : i = W.next
    · by_cases e2 : j = W.next
      · rw [e1, e2]
      · subst e1
        rw [updP_same] at hi
        rw [updP_ne e2] at hj
        injection hi with hb1
        exact absurd hb1.symm (hout j b1 d' x' hj)
    · rw [updP_ne e1] at hi
      by_cases e2 : j = W.next
      · subst e2
        rw [updP_same] at hj
        injection hj with hb1
        exact absurd hb1.symm (hout i b1 d x hi)
      · rw [updP_ne e2] at hj
        exact h.inj i j b1 d x d' x' hi hj
  · intro i b1 d x hi
    by_cases e : i = W.next
    · subst e
      rw [updP_same] at hi
      injection hi with hb1
      omega
    · rw [updP_ne e] at hi
      exact h.lt i b1 d x hi
theorem late_end {lim : Nat} {A' : Tr Value} {W' : VW} {β0 : Place} {w0 : World} {next0 : Nat} {listed : Array Bool} {a : Act} {w : World} {f e : Nat} {oe : Oper} {A : Tr Value} {W : VW} {β : Place} {T : TypeId} {d : Tmp} {i : TypeInfo} {z : Value} {b : Nat}
    (he : e < ops.size) (ho : ops[e]? = some oe) (hl : ∀ k, k < ops.size → listed.getD k false = (decide (k < e) || decide (k = e))) (hfe : fm.testBit e = false) (hws : waitsSeg m fm e (e + 1) ops.size = true)
    (hr : Rel P D β W w) (hf : FR sy β nt A a) (hx : Ext lim β0 β w0 w) (hlim : lim ≤ W.next) (hn : next0 ≤ W.next) (hp : Pend P β w0 w a oe T d i z b)
    (hv : vregion sy call lim nt ops.toList m fm ops.size f e A W = some (A', W')) : AtCut sy call lim nt ops m fm A' W' β0 w0 next0 listed a w := by
  cases f with
  | zero => cases hv
  | succ f =>
    unfold vregion at hv
    split at hv
    · rename_i hdrop
      have := List.drop_eq_nil_iff.1 hdrop
      simp at this
      omega
    · rename_i o1 l hdrop
      have ho1 : ops[e]? = some o1 := by
        have : (ops.toList.drop e)[0]? = some o1 := by rw [hdrop]; rfl
        rw [List.getElem?_drop] at this
        simpa using this
      obtain rfl : o1 = oe := Option.some.inj (ho1.symm.trans ho)
      rw [hfe] at hv
      simp only [cond_false] at hv
      rw [hws] at hv
      simp only [cond_true] at hv
      have hva : valloc P W T = some (vnew W T z.cells.toList) := by unfold valloc; rw [hp.info]; simp only [hp.zero, hp.pf, cond_true]
      have hve : vexec1 sy call lim ops.toList A W o1 = some ((vnew W T z.cells.toList).1, (vnew W T z.cells.toList).2) := by
        have h1 : vop sy lim A W o1 = some (.val (vnew W T z.cells.toList).1, (vnew W T z.cells.toList).2) := by
          unfold vop; rw [hp.op]; simp only [hva, vValW]
        have h2 : vwanted ops.toList A o1 = some true := by unfold vwanted; rw [hp.guard]
        have h3 : regKind o1.op = false := by rw [hp.op]; rfl
        have h4 : W.next.ble (vnew W T z.cells.toList).2.next = true := by
          show W.next.ble (W.next + 1) = true
          exact Nat.ble_eq ▸ (by omega : W.next ≤ W.next + 1)
        unfold vexec1
        rw [h3]
        simp only [cond_false, h2, h1, h4, cond_true]
      rw [hve] at hv
      simp only at hv
      split at hv
      · rename_i A1 hpd
        have hu := hr.unborn W.next (Nat.le_refl _)
        have hle := LeS.upd_unborn hu (.live b 0 0)
        have hbl : b < w.heap.size := (Array.getElem?_eq_some_iff.1 hp.blk).1
        have g1 := hr.adopt hbl hp.out (.cells (trOf 0 z.cells.toList .nil) z.cells.toList.length T) ⟨z.cells, hp.blk, by simp, fun k v hk hkv => by
          rcases trOf_at z.cells.toList 0 .nil k v hkv with ⟨_, h1⟩ | ⟨_, h1⟩
          · refine ⟨v, ?_, (LR.of_pfs hp.pf).2 k v v h1 h1⟩
            rw [Nat.zero_add]
            simpa using h1
          · rw [show (Tr.nil : Tr Value).at k = none from Tr.get_nil _ _] at h1; cases h1⟩
        have hvr : VR D (updP β W.next (.live b 0 0)) (.pointer (some ⟨W.next, 0, none⟩)) (.pointer (some ⟨b, 0, none⟩)) := .ptr _ _ _ (by unfold AR; rw [updP_same])
        have g2 := putD_ok (hf.mono hle) hvr hpd
        rw [hp.dst, act_put_id hp.lt hp.slot] at g2
        refine ⟨f, e + 1, A1, _, _, fun k hk => ?_, by omega, g1, g2, ⟨hx.le.trans hle, fun k hk => ?_, hx.only, ?_⟩, Nat.le_trans hlim (Nat.le_succ _), Nat.le_trans hn (Nat.le_succ _), hv⟩
        · rw [hl k hk]
          by_cases h1 : k < e
          · simp [h1]; omega
          · by_cases h2 : k = e
            · subst h2; simp
            · simp [h1, h2]; omega
        · rw [updP_ne (by omega)]; exact hx.low k hk
        · rintro k hk ⟨j, dd, x, hj, e1⟩
          by_cases e2 : j = W.next
          · subst e2
            rw [updP_same] at e1
            injection e1 with e3
            have := hp.new
            omega
          · rw [updP_ne e2] at e1
            exact hx.new k hk ⟨j, dd, x, hj, e1⟩
      · cases hv
theorem okStep_parts {l : List Oper} {n e c Dn i : Nat} {L : List Nat} (h : okStep l m fm n e c Dn i L = true) : c ≤ i ∧ i < e ∧ Dn.testBit i = false ∧ ∃ o oe, l[i]? = some o ∧ l[e]? = some oe ∧ dstNe o oe = true ∧ (∀ j ∈ bindsTo o, j < c ∨ Dn.testBit j = true) ∧
    ((fm.testBit i = true ∧ ∀ j ∈ L, ∃ oj, l[j]? = some oj ∧ (i ∈ bindsTo oj ∨ o.apart ⟨l⟩ oj = true)) ∨ (fm.testBit i = false ∧ ∀ k, (k ∈ L ∨ (e < k ∧ k < n)) → (m.getD k 0).testBit i = true)) := by
  unfold okStep at h
  simp only [Bool.and_eq_true, Nat.ble_eq, Nat.blt_eq, Bool.not_eq_true'] at h
  obtain ⟨⟨⟨h1, h2⟩, h3⟩, h4⟩ := h
  refine ⟨h1, h2, h3, ?_⟩
  split at h4
  · rename_i o oe e1 e2
    simp only [Bool.and_eq_true, List.all_eq_true, Bool.or_eq_true, Nat.blt_eq] at h4
    obtain ⟨⟨h5, h6⟩, h7⟩ := h4
    refine ⟨o, oe, e1, e2, h5, h6, ?_⟩
    cases hf : fm.testBit i with
    | true =>
      rw [hf] at h7
      simp only [cond_true, List.all_eq_true] at h7
      refine Or.inl ⟨rfl, fun j hj => ?_⟩
      have h8 := h7 j hj
      split at h8
      · rename_i oj e3
        simp only [Bool.or_eq_true, List.contains_iff_mem] at h8
        exact ⟨oj, e3, h8⟩
      · cases h8
    | false =>
      rw [hf] at h7
      simp only [cond_false, List.all_eq_true, List.mem_append, List.mem_range'_1] at h7
      exact Or.inr ⟨rfl, fun k hk => h7 k (hk.elim Or.inl (fun hk => Or.inr (by omega)))⟩
  · cases h4
theorem bit_or (Dn i k : Nat) : (Dn ||| 2 ^ i).testBit k = (Dn.testBit k || decide (k = i)) := by
  rw [Nat.testBit_or, Nat.testBit_two_pow]
  by_cases h : k = i
  · subst h; simp
  · simp [h, Ne.symm h]
theorem late_go {lim : Nat} {A' : Tr Value} {W' : VW} {β0 : Place} {w0 : World} {next0 : Nat} {listed : Array Bool} {a : Act} {w : World} {f c e Dn : Nat} {oe : Oper} {L : List Nat} {E : Bool} {A1 : Tr Value} {W1 : VW} {β' : Place} {T : TypeId} {d : Tmp} {i : TypeInfo} {z : Value} {b : Nat} {A2 : Tr Value} {W2 : VW}
    (hce : c < e) (he : e < ops.size) (ho : ops[e]? = some oe) (hl : ∀ k, k < ops.size → listed.getD k false = (decide (k < c) || Dn.testBit k || (E && decide (k = e)))) (hD : ∀ k, Dn.testBit k = true → c ≤ k ∧ k < e)
    (hcl : ∀ i o, listed.getD i false = true → ops.toList[i]? = some o → ∀ j ∈ bindsTo o, listed.getD j false = true) (hL : ∀ k, c ≤ k → k < e → Dn.testBit k = false → k ∈ L) (hok : okL ops.toList m fm ops.size e c Dn L = true) (hfe : fm.testBit e = false) (hws : waitsSeg m fm e (e + 1) ops.size = true)
    (hA : A1.at d = none) (hr : Rel P D β' W1 w) (hf : FR sy β' nt A1 a) (hx : Ext lim β0 β' w0 w) (hlim : lim ≤ W1.next) (hn : next0 ≤ W1.next) (hfa : FreeA P nt oe T d i z) (hp : E = true → Pend P β' w0 w a oe T d i z b)
    (hvs : vsched sy call lim nt ops.toList fm L A1 W1 = some (A2, W2)) (hv : vregion sy call lim nt ops.toList m fm ops.size f e A2 W2 = some (A', W')) :
    AtCut sy call lim nt ops m fm A' W' β0 w0 next0 listed a w ∨ InLate sy call lim nt ops m fm A' W' β0 w0 next0 listed a w := by
  by_cases h0 : L = []
  · subst h0
    simp only [vsched, Option.some.injEq, Prod.mk.injEq] at hvs
    obtain ⟨rfl, rfl⟩ := hvs
    have hall : ∀ k, k < ops.size → listed.getD k false = (decide (k < e) || (E && decide (k = e))) := by
      intro k hk
      rw [hl k hk]
      by_cases h1 : k < c
      · simp [h1]; exact Or.inl (by omega)
      · by_cases h2 : k < e
        · have h3 : Dn.testBit k = true := by
            cases hb : Dn.testBit k with
            | true => rfl
            | false => cases hL k (by omega) h2 hb
          simp [h1, h2, h3]
        · have h3 : Dn.testBit k = false := by
            cases hb : Dn.testBit k with
            | false => rfl
            | true => have := (hD k hb).2; omega
          simp [h1, h2, h3]
    refine Or.inl ?_
    cases E with
    | true => exact late_end he ho (by simpa using hall) hfe hws hr hf hx hlim hn (hp rfl) hv
    | false => exact ⟨f, e, A1, W1, β', fun k hk => by simpa using hall k hk, by omega, hr, hf, hx, hlim, hn, hv⟩
  · exact Or.inr ⟨f, c, e, oe, Dn, L, E, A1, W1, β', T, d, i, z, b, A2, W2, hce, he, ho, hl, hD, hcl, hL, hok, hfe, hws, hA, hr, hf, hx, hlim, hn, hfa, hp, h0, hvs, hv⟩
theorem freeAlloc_parts {o : Oper} (h : freeAlloc o = true) : (∃ T, o.op = .alloc T) ∧ (∃ d, o.dst = some d) ∧ o.guard = none ∧ bindsTo o = [] := by
  unfold freeAlloc at h
  split at h
  · rename_i T d h1 h2
    simp only [Bool.and_eq_true, Option.isNone_iff_eq_none, List.isEmpty_iff] at h
    exact ⟨⟨T, h1⟩, ⟨d, h2⟩, h.1, h.2⟩
  · cases h
theorem valloc_parts {W : VW} {T : TypeId} (h : (valloc P W T).isSome = true) : ∃ i z, P.info? T = some i ∧ i.zero = some z ∧ pfs z.cells.toList = true := by
  unfold valloc at h
  split at h
  · rename_i i hi
    split at h
    · rename_i z hz
      cases hp : pfs z.cells.toList with
      | false => rw [hp] at h; cases h
      | true => exact ⟨i, z, hi, hz, hp⟩
    · cases h
  · cases h
theorem vlate_parts {l : List Oper} {W : VW} {c e : Nat} {oe : Oper} {L : List Nat} (h : vlate P nt ops.toList m fm ops.size c l W = some (e, oe, L)) : ops[e]? = some oe ∧ lateOk ops.toList m fm c ops.size e L = true ∧ ∃ T d i z, FreeA P nt oe T d i z := by
  unfold vlate at h
  split at h
  · rename_i e1 he1
    split at h
    · rename_i o1 ho1
      split at h
      · rename_i T hT
        generalize hg : lsched m fm c (e1 - c) 0 (List.range' c (e1 - c)) = L1 at h
        cases hb : (freeAlloc o1 && dstIn nt o1 && (valloc P W T).isSome && lateOk ops.toList m fm c ops.size e1 L1) with
        | false => rw [hb] at h; cases h
        | true =>
          rw [hb] at h
          simp only [cond_true, Option.some.injEq, Prod.mk.injEq] at h
          obtain ⟨rfl, rfl, rfl⟩ := h
          simp only [Bool.and_eq_true] at hb
          obtain ⟨⟨⟨b2, b3⟩, b4⟩, b1⟩ := hb
          obtain ⟨_, ⟨d, hd⟩, hg, hbd⟩ := freeAlloc_parts b2
          obtain ⟨i, z, hi, hz, hpf⟩ := valloc_parts b4
          refine ⟨by simpa using ho1, b1, T, d, i, z, hT, hd, hg, hbd, ?_, hi, hz, hpf⟩
          unfold dstIn at b3
          rw [hd] at b3
          simpa [Nat.blt_eq] using b3
      · cases h
    · cases h
  · cases h
theorem lateOk_parts {l : List Oper} {c n e : Nat} {L : List Nat} (h : lateOk l m fm c n e L = true) : c < e ∧ e < n ∧ fm.testBit e = false ∧ waitsSeg m fm e (e + 1) n = true ∧ (∀ k, c ≤ k → k < e → k ∈ L) ∧ okL l m fm n e c 0 L = true := by
  unfold lateOk at h
  simp only [Bool.and_eq_true, Nat.blt_eq, Bool.not_eq_true', List.all_eq_true, List.contains_iff_mem, List.mem_range'_1] at h
  obtain ⟨⟨⟨⟨⟨h1, h2⟩, h3⟩, h4⟩, h5⟩, h6⟩ := h
  exact ⟨h1, h2, h3, h4, fun k hk hke => h5 k (by omega), h6⟩
theorem putD_out {A A1 : Tr Value} {t : Option Tmp} {v : Value} {d : Tmp} (h : putD nt A t v = some A1) (hA : A.at d = none) (ht : t ≠ some d) : A1.at d = none := by
  unfold putD at h
  split at h
  · simp only [Option.some.injEq] at h; subst h; exact hA
  · rename_i u
    cases hb : u.blt nt with
    | false => rw [hb] at h; cases h
    | true =>
      rw [hb] at h
      simp only [cond_true, Option.some.injEq] at h
      subst h
      cases hx : (A.put u v).at d with
      | none => rfl
      | some x =>
        rcases Tr.at_put hx with ⟨e, _⟩ | ⟨_, e⟩
        · subst e; exact absurd rfl ht
        · rw [hA] at e; cases e
theorem FR.putOut {β : Place} {A : Tr Value} {a : Act} (h : FR sy β nt A a) {d : Tmp} (hA : A.at d = none) (v : Value) : FR sy β nt A (a.put (some d) v) := by
  refine ⟨h.glob, by simpa [Act.put] using h.size, h.defers, fun t u ht => ?_⟩
  have hne : t ≠ d := fun e => by subst e; rw [hA] at ht; cases ht
  rw [act_put_getD (fun e => hne (Option.some.inj e).symm)]
  exact h.vals t u ht
theorem late_alloc {e : Nat} {oe : Oper} {T : TypeId} {d : Tmp} {i : TypeInfo} {z : Value} {Q : Exit → Act → World → Prop} {K : Act → World → Prop} {a : Act} {w : World} (ho : ops[e]? = some oe) (hop : oe.op = .alloc T) (hg : oe.guard = none) (hd : oe.dst = some d) (hi : P.info? T = some i) (hz : i.zero = some z)
    (hK : K (a.put (some d) (.pointer (some ⟨w.heap.size, 0, none⟩))) (w.alloc (.cells z.cells T))) : wpOp P ops Q e K a w := by
  unfold wpOp
  rw [ho]
  simp only []
  rw [if_pos (by simp [Region.wanted, hg])]
  refine Or.inl ?_
  have hrun : (execOp a.eval oe).run P w = .ok (.value (.pointer (some ⟨w.heap.size, 0, none⟩))) (w.alloc (.cells z.cells T)) := by
    unfold execOp
    simp [hop, Instr.alloc, zeroValue, typeInfo, hi, hz, newVar, newRow, Result.andThen]
  unfold Oper.wp
  rw [hrun]
  show K (a.put oe.dst _) _
  rw [hd]
  exact hK
theorem InLate.step (hc : CallOk sy call) (he : edgesOk 0 ops.toList = true) (hm : masksOk m 0 ops.toList = true) (hF : ∀ k, fm.testBit k = true → ∃ o, ops[k]? = some o ∧ regKind o.op = true ∧ ∀ j oj, k < j → ops[j]? = some oj → (∀ e ∈ oj.after, Region.binds .any e = true → e.on ≠ k) → o.apart ops oj = true) {lim : Nat} {A' : Tr Value} {W' : VW} {β0 : Place} {w0 : World} {next0 : Nat} {listed : Array Bool} {a : Act} {w : World} {Q : Exit → Act → World → Prop} (hs : listed.size = ops.size)
    (h : InLate sy call lim nt ops m fm A' W' β0 w0 next0 listed a w) :
    StepOk P ops Q (fun listed a' w' => (AtCut sy call lim nt ops m fm A' W' β0 w0 next0 listed a' w' ∨ InSeg sy call lim nt ops m fm A' W' β0 w0 next0 listed a' w') ∨ InLate sy call lim nt ops m fm A' W' β0 w0 next0 listed a' w') listed a w := by
  obtain ⟨f, c, e, oe, Dn, L, E, A, W, β, T, d, ii, z, b, A2, W2, hce, heo, ho, hl, hD, hcl, hL, hok, hfe, hws, hA, hr, hf, hx, hlim, hn, hfa, hp, hne, hvs, hv⟩ := h
  have hoe' : ops.toList[e]? = some oe := by simpa using ho
  have hwrap : ∀ {l : Array Bool} {a' : Act} {w' : World}, (AtCut sy call lim nt ops m fm A' W' β0 w0 next0 l a' w' ∨ InLate sy call lim nt ops m fm A' W' β0 w0 next0 l a' w') → (AtCut sy call lim nt ops m fm A' W' β0 w0 next0 l a' w' ∨ InSeg sy call lim nt ops m fm A' W' β0 w0 next0 l a' w') ∨ InLate sy call lim nt ops m fm A' W' β0 w0 next0 l a' w' := fun h => h.elim (fun h => Or.inl (Or.inl h)) Or.inr
  have hdone := bit_done he hm (L := fun k => listed.getD k false = true) (fun i o hL ho j hj => hcl i o hL ho j hj)
  cases L with
  | nil => exact absurd rfl hne
  | cons i L =>
    unfold okL at hok
    simp only [Bool.and_eq_true] at hok
    obtain ⟨hst, hok2⟩ := hok
    obtain ⟨k1, k2, k3, o, oe2, k4, k5, k6, k7, k8⟩ := okStep_parts hst
    obtain rfl : oe2 = oe := Option.some.inj (k5.symm.trans hoe')
    have hio : i < ops.size := by omega
    have ho1 : ops[i]? = some o := by simpa using k4
    have hiu : listed.getD i false = false := by
      rw [hl i hio, k3, decide_eq_false (by omega : ¬ i < c), decide_eq_false (by omega : ¬ i = e)]; simp
    have hedges : ∀ j ∈ bindsTo o, listed.getD j false = true := by
      intro j hj
      have hlt := edgesOk_at ops.toList 0 he i o k4 j hj
      rw [hl j (by omega)]
      rcases k7 j hj with h | h
      · simp [h]
      · simp [h]
    have hdn : o.dst ≠ some d := by
      intro e3
      unfold dstNe at k6
      rw [e3, hfa.dst] at k6
      simp at k6
    have hup : ∀ k, k < ops.size → (listed.setIfInBounds i true).getD k false = (decide (k < c) || (Dn ||| 2 ^ i).testBit k || (E && decide (k = e))) := by
      intro k hk
      rw [set_getD (by omega), hl k hk, bit_or]
      cases decide (k = i) <;> cases decide (k < c) <;> cases Dn.testBit k <;> cases (E && decide (k = e)) <;> rfl
    have hD2 : ∀ k, (Dn ||| 2 ^ i).testBit k = true → c ≤ k ∧ k < e := by
      intro k hk
      rw [bit_or] at hk
      simp only [Bool.or_eq_true, decide_eq_true_eq] at hk
      rcases hk with h | h
      · exact hD k h
      · subst h; exact ⟨k1, k2⟩
    have hcl2 : ∀ k ok, (listed.setIfInBounds i true).getD k false = true → ops.toList[k]? = some ok → ∀ j ∈ bindsTo ok, (listed.setIfInBounds i true).getD j false = true := by
      intro k ok hk hok3 j hj
      have hj2 : listed.getD j false = true := by
        rw [set_getD (by omega)] at hk
        simp only [Bool.or_eq_true, decide_eq_true_eq] at hk
        rcases hk with h | h
        · subst h
          obtain rfl : ok = o := Option.some.inj (hok3.symm.trans k4)
          exact hedges j hj
        · exact hcl k ok h hok3 j hj
      rw [set_getD (by omega), hj2, Bool.or_true]
    have hL2 : ∀ k, c ≤ k → k < e → (Dn ||| 2 ^ i).testBit k = false → k ∈ L := by
      intro k h1 h2 h3
      rw [bit_or] at h3
      simp only [Bool.or_eq_false_iff, decide_eq_false_iff_not] at h3
      have := hL k h1 h2 h3.1
      simp only [List.mem_cons] at this
      rcases this with h | h
      · exact absurd h h3.2
      · exact h
    unfold vsched at hvs
    rw [k4] at hvs
    simp only at hvs
    rcases k8 with ⟨hfc, hap⟩ | ⟨hfc, hwt⟩
    · rw [hfc] at hvs
      simp only [cond_true] at hvs
      split at hvs
      · rename_i v hvr
        split at hvs
        · rename_i A1 hpd
          obtain ⟨v', g1, g2⟩ := vregW_ok hf hvr
          refine Or.inr ⟨i, o, v', ho1, ready_of hs ho1 hiu hedges, g2, fun j oj hoj hne2 hju hnw => ?_, hwrap (late_go hce heo ho hup hD2 hcl2 hL2 hok2 hfe hws (putD_out hpd hA hdn) hr (putD_ok hf g1 hpd) hx hlim hn hfa (fun hE => (hp hE).step (Ext.refl lim β w) hdn v') hvs hv)⟩
          have hj : j < ops.size := (Array.getElem?_eq_some_iff.1 hoj).1
          by_cases hij : i < j
          · obtain ⟨o2, h2, _, hfree⟩ := hF i hfc
            obtain rfl : o2 = o := Option.some.inj (h2.symm.trans ho1)
            exact hfree j oj hij hoj hnw
          · have hju' := unlisted_of hs hj hju
            rw [hl j hj] at hju'
            simp only [Bool.or_eq_false_iff, decide_eq_false_iff_not] at hju'
            have := hL j (by omega) (by omega) hju'.1.2
            simp only [List.mem_cons] at this
            rcases this with h | h
            · exact absurd h hne2
            · obtain ⟨oj2, h3, h4⟩ := hap j h
              obtain rfl : oj2 = oj := Option.some.inj (h3.symm.trans (by simpa using hoj))
              rcases h4 with h4 | h4
              · unfold bindsTo at h4
                obtain ⟨ed, h5, h6⟩ := List.mem_map.1 h4
                obtain ⟨h7, h8⟩ := List.mem_filter.1 h5
                exact absurd h6 (hnw ed (by simpa using h7) h8)
              · exact h4
        · cases hvs
      · cases hvs
    · rw [hfc] at hvs
      simp only [cond_false] at hvs
      refine Or.inl (fun k hk => ?_)
      obtain ⟨r1, r2, ok, r3, r4⟩ := ready_facts hs hk
      have hcase : k = i ∨ (k = e ∧ E = false) := by
        by_cases hki : k = i
        · exact Or.inl hki
        · right
          rw [hl k r1] at r2
          simp only [Bool.or_eq_false_iff, decide_eq_false_iff_not, Bool.and_eq_false_iff] at r2
          by_cases hke : k = e
          · refine ⟨hke, ?_⟩
            rcases r2.2 with h | h
            · exact h
            · exact absurd hke h
          · exfalso
            have hb : (m.getD k 0).testBit i = true := by
              rcases Nat.lt_or_ge k e with h | h
              · have := hL k (by omega) h r2.1.2
                simp only [List.mem_cons] at this
                rcases this with h9 | h9
                · exact absurd h9 hki
                · exact hwt k (Or.inl h9)
              · exact hwt k (Or.inr ⟨by omega, r1⟩)
            have := hdone k r3 r4 i hb
            rw [hiu] at this
            cases this
      rcases hcase with rfl | ⟨rfl, rfl⟩
      · split at hvs
        · rename_i v W1 hex
          split at hvs
          · rename_i A1 hpd
            exact vexec1_ok hc hr hlim hf ho1 hex (fun v' w' β' g1 g2 g3 g4 => hwrap (late_go hce heo ho hup hD2 hcl2 hL2 hok2 hfe hws (putD_out hpd hA hdn) g2 (putD_ok (hf.mono g3.le) g1 hpd) (hx.trans g3) (Nat.le_trans hlim g4) (Nat.le_trans hn g4) hfa (fun hE => (hp hE).step g3 hdn v') hvs hv))
          · cases hvs
        · cases hvs
      · refine late_alloc ho hfa.op hfa.guard hfa.dst hfa.info hfa.zero ?_
        have hbelow : Below w.heap.size w (w.alloc (.cells z.cells T)) := below_alloc _ (Below.refl _ _)
        have hsz : d < a.tmps.size := by rw [hf.size]; exact hfa.lt
        have hvs0 : vsched sy call lim nt ops.toList fm (i :: L) A W = some (A2, W2) := by
          unfold vsched
          rw [k4]
          simp only [hfc, cond_false]
          exact hvs
        have hok0 : okL ops.toList m fm ops.size k c Dn (i :: L) = true := by
          unfold okL
          rw [hst, hok2]; rfl
        refine Or.inr ⟨f, c, k, oe2, Dn, i :: L, true, A, W, β, T, d, ii, z, w.heap.size, A2, W2, hce, heo, ho, fun q hq => ?_, hD, fun q oq hq hoq j hj => ?_, hL, hok0, hfe, hws, hA, hr.grow hbelow, hf.putOut hA _, hx.trans ⟨LeS.refl β, fun _ _ => rfl, (Only.refl _ _).alloc _, fun _ _ h => h⟩, hlim, hn, hfa,
          fun _ => ⟨hfa.op, hfa.guard, hfa.bind, hfa.dst, hfa.info, hfa.zero, hfa.pf, by simpa [Act.put] using hsz, act_put_same hsz, blk_new _ _, hx.only.size, fun q b' d' x hq e3 => ?_⟩, by simp, hvs0, hv⟩
        · rw [set_getD (by omega), hl q hq]
          by_cases h2 : q = k
          · simp [h2]
          · simp [h2]
        · rw [set_getD (by omega)] at hq
          simp only [Bool.or_eq_true, decide_eq_true_eq] at hq
          rw [set_getD (by omega)]
          rcases hq with h | h
          · subst h
            obtain rfl : oq = oe2 := Option.some.inj (hoq.symm.trans hoe')
            rw [hfa.bind] at hj
            cases hj
          · rw [hcl q oq h hoq j hj, Bool.or_true]
        · have := hr.lt q b' d' x hq
          omega
theorem AtCut.step (hc : CallOk sy call) (he : edgesOk 0 ops.toList = true) (hm : masksOk m 0 ops.toList = true) (hF : ∀ k, fm.testBit k = true → ∃ o, ops[k]? = some o ∧ regKind o.op = true ∧ ∀ j oj, k < j → ops[j]? = some oj → (∀ e ∈ oj.after, Region.binds .any e = true → e.on ≠ k) → o.apart ops oj = true) {lim : Nat} {A' : Tr Value} {W' : VW} {β0 : Place} {w0 : World} {next0 : Nat} {listed : Array Bool} {a : Act} {w : World} {Q : Exit → Act → World → Prop} (hs : listed.size = ops.size)
    (h : AtCut sy call lim nt ops m fm A' W' β0 w0 next0 listed a w) (hun : ∃ i, i < ops.size ∧ listed.getD i false = false) :
    StepOk P ops Q (fun listed a' w' => (AtCut sy call lim nt ops m fm A' W' β0 w0 next0 listed a' w' ∨ InSeg sy call lim nt ops m fm A' W' β0 w0 next0 listed a' w') ∨ InLate sy call lim nt ops m fm A' W' β0 w0 next0 listed a' w') listed a w := by
  obtain ⟨f, c, A, W, β, h1, h2, hr, hf, hx, hl, hn, hv⟩ := h
  have hcl : ∀ i o, listed.getD i false = true → ops.toList[i]? = some o → ∀ j ∈ bindsTo o, listed.getD j false = true := by
    intro i o hL ho j hj
    have hin : i < ops.size := by
      have := (List.getElem?_eq_some_iff.1 ho).1
      simpa using this
    rw [h1 i hin] at hL
    have hlt := edgesOk_at ops.toList 0 he i o ho j hj
    rw [h1 j (by omega)]
    simp only [decide_eq_true_eq] at hL ⊢
    omega
  have hdone := bit_done he hm (L := fun k => listed.getD k false = true) (fun i o hL ho j hj => hcl i o hL ho j hj)
  induction f generalizing A with
  | zero => cases hv
  | succ f ih =>
    have hv0 := hv
    unfold vregion at hv
    split at hv
    · rename_i hdrop
      have hcn : ops.toList.length ≤ c := List.drop_eq_nil_iff.1 hdrop
      obtain ⟨i, hi, hiu⟩ := hun
      rw [h1 i hi] at hiu
      simp at hcn hiu
      omega
    · rename_i o1 l hdrop
      have hlen : c + (l.length + 1) = ops.size := by
        have := congrArg List.length hdrop
        simp at this
        omega
      have hat : ∀ j, (o1 :: l)[j]? = ops.toList[c + j]? := fun j => by rw [← hdrop, List.getElem?_drop]
      have ho1 : ops[c]? = some o1 := by have := hat 0; simpa using this.symm
      have ho1' : ops.toList[c]? = some o1 := by simpa using ho1
      have hcu : listed.getD c false = false := by rw [h1 c (by omega)]; simp
      have hedges : ∀ j ∈ bindsTo o1, listed.getD j false = true := by
        intro j hj
        have hlt := edgesOk_at ops.toList 0 he c o1 ho1' j hj
        rw [h1 j (by omega)]
        simp; omega
      have hup : Upto ops (c + 1) (listed.setIfInBounds c true) := by
        intro j hj
        rw [set_getD (by omega), h1 j hj]
        by_cases hji : j = c
        · subst hji; simp
        · by_cases hjl : j < c
          · simp [hjl]; omega
          · simp [hjl, hji]; omega
      cases hfc : fm.testBit c with
      | true =>
        rw [hfc] at hv
        simp only [cond_true] at hv
        split at hv
        · rename_i v hvr
          split at hv
          · rename_i A1 hp
            obtain ⟨v', q1, q2⟩ := vregW_ok hf hvr
            obtain ⟨o, ho, hk, hfree⟩ := hF c hfc
            have : o = o1 := Option.some.inj (ho.symm.trans ho1)
            subst this
            refine Or.inr ⟨c, o, v', ho1, ready_of hs ho1 hcu hedges, q2, fun j oj hoj hne hju hnw => hfree j oj ?_ hoj hnw, Or.inl (Or.inl ⟨f, c + 1, A1, W, β, hup, by omega, hr, putD_ok hf q1 hp, hx, hl, hn, hv⟩)⟩
            have hj : j < ops.size := (Array.getElem?_eq_some_iff.1 hoj).1
            have hju' := unlisted_of hs hj hju
            rw [h1 j hj] at hju'
            simp at hju'
            omega
          · cases hv
        · cases hv
      | false =>
        rw [hfc] at hv
        simp only [cond_false] at hv
        cases hw1 : waitsSeg m fm c (c + 1) ops.size with
        | true =>
          rw [hw1] at hv
          simp only [cond_true] at hv
          refine Or.inl (fun i hi => ?_)
          obtain ⟨r1, r2, o, r3, r4⟩ := ready_facts hs hi
          have hi : i = c := by
            rcases Nat.lt_trichotomy c i with hh | hh | hh
            · have hb := waits_bit hw1 (i := i) (j := c) hh r1 (Nat.le_refl _) (Nat.lt_succ_self _) hfc
              have := hdone i r3 r4 c hb
              rw [hcu] at this
              cases this
            · exact hh.symm
            · rw [h1 i r1] at r2
              simp at r2
              omega
          subst hi
          split at hv
          · rename_i v W1 hex
            split at hv
            · rename_i A1 hp
              exact vexec1_ok hc hr hl hf ho1 hex (fun v' w' β' q1 q2 q3 q4 => Or.inl (Or.inl ⟨f, i + 1, A1, W1, β', hup, by omega, q2, putD_ok (hf.mono q3.le) q1 hp, hx.trans q3, Nat.le_trans hl q4, Nat.le_trans hn q4, hv⟩))
            · cases hv
          · cases hv
        | false =>
          rw [hw1] at hv
          simp only [cond_false] at hv
          split at hv
          · rename_i x e oe L hvl
            obtain ⟨hoe, hok, T, d, ii, z, hfa⟩ := vlate_parts hvl
            obtain ⟨hce, hen, q3, q4, q5, q6⟩ := lateOk_parts hok
            cases hh : holds A oe with
            | true =>
              rw [hh] at hv
              simp only [cond_true] at hv
              exact ih _ (hf.drop _) hv
            | false =>
              rw [hh] at hv
              simp only [cond_false] at hv
              have hAd : A.at d = none := by
                unfold holds at hh
                rw [hfa.dst] at hh
                simpa using hh
              split at hv
              · rename_i A2 W2 hvs
                have hLne : L ≠ [] := fun e3 => by
                  subst e3
                  cases q5 c (Nat.le_refl _) hce
                refine InLate.step hc he hm hF hs ⟨f, c, e, oe, 0, L, false, A, W, β, T, d, ii, z, 0, A2, W2, hce, hen, hoe, fun k hk => ?_, (fun k hk => by simp at hk), hcl, fun k h1 h2 _ => q5 k h1 h2, q6, q3, q4, hAd, hr, hf, hx, hl, hn, hfa, (fun h => by cases h), hLne, hvs, hv⟩
                rw [h1 k hk]
                simp
              · cases hv
          · rename_i hvl
            generalize hk : segLen m fm c ops.size l.length 1 = k at hv
            cases hb : (waitsSeg m fm c (c + k) ops.size && (0).blt k && k.ble (l.length + 1)) with
            | false => rw [hb] at hv; cases hv
            | true =>
              rw [hb] at hv
              simp only [cond_true] at hv
              simp only [Bool.and_eq_true, Nat.blt_eq, Nat.ble_eq] at hb
              obtain ⟨⟨b1, b2⟩, b3⟩ := hb
              split at hv
              · rename_i R s1 hmul
                have hseg := vmulti_ok he hm (fun i o hb ho => by
                  obtain ⟨o', q1, q2, _⟩ := hF i hb
                  have : o' = o := Option.some.inj (q1.symm.trans (by simpa using ho))
                  rw [← this]; exact q2) (c := c) (s0 := W.next) _ c [] W.next R s1 (fun j => by
                  by_cases hj : j < k
                  · right; rw [List.getElem?_take_of_lt hj]; exact hat j
                  · left; exact List.getElem?_take_eq_none (by omega)) (Nat.le_refl _) (Nat.le_refl _) (fun r hr => by cases hr)
                  ⟨fun r hr => (by cases hr), fun r hr => (by cases hr), fun r hr => (by cases hr), fun r hr => (by cases hr), fun r hr => (by cases hr), fun r hr => (by cases hr)⟩ hmul
                obtain ⟨g1, g2, g3⟩ := hseg
                have hlt : ((o1 :: l).take k).length = k := by simp; omega
                rw [hlt] at g3
                simp only [List.map_nil, List.nil_append] at g3
                have hA0 : ∀ t v, (dropAll A ((o1 :: l).take k)).at t = some v → A.at t = some v ∧ ∀ r ∈ R, r.dst ≠ some t := by
                  intro t v ht
                  obtain ⟨p1, p2⟩ := dropAll_at _ _ _ _ ht
                  refine ⟨p1, fun r hr' => ?_⟩
                  obtain ⟨o', W'', q1, _, _, _, q5⟩ := g1.one r hr'
                  rw [q5]
                  have hri : r.i ∈ List.range' c k := by rw [← g3]; exact List.mem_map_of_mem hr'
                  rw [List.mem_range'_1] at hri
                  refine p2 o' ?_
                  have hh := hat (r.i - c)
                  rw [show c + (r.i - c) = r.i by omega, q1] at hh
                  have : ((o1 :: l).take k)[r.i - c]? = some o' := by rw [List.getElem?_take_of_lt (by omega)]; exact hh
                  exact List.mem_of_getElem? this
                have hD : ∀ r ∈ R, ¬ listed.getD r.i false = true := by
                  intro r hr'
                  have hri : r.i ∈ List.range' c k := by rw [← g3]; exact List.mem_map_of_mem hr'
                  rw [List.mem_range'_1] at hri
                  rw [h1 r.i (by omega)]
                  simp; omega
                refine (InSeg.step hc he hm hF hs (Q := Q) (h := ⟨f, c, k, A, _, W, R, s1, β, w, a, β, by omega, ?_, ⟨c, Nat.le_refl _, by omega, hcu⟩, hcl, b1, g1, g2, g3, hA0, hr, hf, hx, hl, hn, SInv.start hr hf R hD, hv⟩)).mono (fun _ _ _ h => Or.inl h)
                intro j hj
                rw [h1 j hj]
                refine ⟨fun h => decide_eq_true h, fun h => decide_eq_false (by omega)⟩
              · cases hv
theorem vregion_ok (hmix : P.follows .mixedOrders = true) (hc : CallOk sy call) (he : edgesOk 0 ops.toList = true) (hm : masksOk m 0 ops.toList = true) (hsel : Region.noSelect ops = true) {lim f : Nat} {A A' : Tr Value} {W W' : VW} {β : Place} {a : Act} {w : World} (h : Rel P D β W w) (hl : lim ≤ W.next) (hf : FR sy β nt A a)
    (hv : vregion sy call lim nt ops.toList m (fmask ops 0 ops.toList) ops.size f 0 A W = some (A', W')) {Q : Exit → Act → World → Prop} (hQ : ∀ a' w' β', FR sy β' nt A' a' → Rel P D β' W' w' → Ext lim β β' w w' → W.next ≤ W'.next → Q .normal a' w') {id : Nat} : (Code.region id ops true).wp P Q a w := by
  have hF := fmask_bit ops ops.toList 0 (by simp)
  refine Code.wp_mono (Q := fun e a' w' => match e with | .normal => Q .normal a' w' | _ => False) (fun e a' w' q => by cases e <;> first | exact q | exact q.elim) ?_
  refine wp_region_any hmix ?_
  have h' : Rel P D β W { w with drawn := w.drawn + 1 } := h.drew
  refine wpAny_of (St := fun listed a' w' => (AtCut sy call lim nt ops m (fmask ops 0 ops.toList) A' W' β { w with drawn := w.drawn + 1 } W.next listed a' w' ∨ InSeg sy call lim nt ops m (fmask ops 0 ops.toList) A' W' β { w with drawn := w.drawn + 1 } W.next listed a' w') ∨ InLate sy call lim nt ops m (fmask ops 0 ops.toList) A' W' β { w with drawn := w.drawn + 1 } W.next listed a' w') he hsel (fun _ _ _ q => q) ?_ ?_ _ _ _ _ (by simp) ?_ (Or.inl (Or.inl ⟨f, 0, A, W, β, ?_, Nat.zero_le _, h', hf, Ext.refl _ _ _, hl, Nat.le_refl _, hv⟩))
  · intro listed a' w' hs hst hun
    rcases hst with (hst | hst) | hst
    · exact hst.step hc he hm (fun k hk => (hF k hk).2) hs hun
    · exact (hst.step hc he hm (fun k hk => (hF k hk).2) hs).mono (fun _ _ _ h => Or.inl h)
    · exact hst.step hc he hm (fun k hk => (hF k hk).2) hs
  · intro listed a' w' hs hst hall
    rcases hst with (⟨f', c, A1, W1, β1, h1, h2, hr, hf', hx, _, hn, hv'⟩ | hst) | hst
    · have hcn : ops.size ≤ c := by
        rcases Nat.lt_or_ge c ops.size with hh | hh
        · have := hall c hh
          rw [h1 c hh] at this
          simp at this
        · exact hh
      cases f' with
      | zero => cases hv'
      | succ f' =>
        unfold vregion at hv'
        rw [List.drop_eq_nil_of_le (by simpa using hcn)] at hv'
        simp only [Option.some.injEq, Prod.mk.injEq] at hv'
        obtain ⟨rfl, rfl⟩ := hv'
        exact hQ a' w' β1 hf' hr (Ext.drew (w := w) hx) hn
    · obtain ⟨f', c, k, A1, A0, W1, R, s1, β1, w1, a1, β2, h1, h2, ⟨j, hj1, hj2, hj3⟩, _⟩ := hst
      have := hall j (by omega)
      rw [hj3] at this
      cases this
    · obtain ⟨f', c, e, oe, Dn, L, E, A1, W1, β1, T, d, i, z, b, A2, W2, hce, heo, ho, hl', hD, _, _, hok, _, _, _, _, _, _, _, _, _, _, hne, _, _⟩ := hst
      cases L with
      | nil => exact absurd rfl hne
      | cons q L =>
        unfold okL at hok
        simp only [Bool.and_eq_true] at hok
        obtain ⟨k1, k2, k3, _⟩ := okStep_parts hok.1
        have := hall q (by omega)
        rw [hl' q (by omega), k3, decide_eq_false (by omega : ¬ q < c), decide_eq_false (by omega : ¬ q = e)] at this
        simp at this
  · refine Nat.le_trans List.countP_le_length ?_
    simp
  · intro i hi
    simp [hi]
end
end Go.Proofs.YtmmpkkpmlaiapaaGreatDoor
namespace Go.Proofs.YtmmpkkpmlaiapaaGreatDoor
open Go.RowKit
set_option linter.unusedVariables false
inductive VExit where
  | normal
  | exit (id : Nat)
  | ret
abbrev VOut := Option (VExit × Tr Value × VW)
def vloop (body : Tr Value → VW → VOut) : Nat → Tr Value → VW → VOut
  | 0, _, _ => none
  | n + 1, A, W =>
    match body A W with
    | some (.normal, A', W') => vloop body n A' W'
    | some (.exit id, A', W') => some (.exit id, A', W')
    | some (.ret, A', W') => some (.ret, A', W')
    | none => none
def vcode {P : Program} {D : Den} (sy : Sy P D) (call : VCall) (lim nt F : Nat) : Code → Tr Value → VW → VOut
  | .skip, A, W => some (.normal, A, W)
  | .label _, A, W => some (.normal, A, W)
  | .region _ ops draw, A, W =>
    (match bif draw then
        bif edgesOk 0 ops.toList && masksOk (masks ops.toList []) 0 ops.toList && Region.noSelect ops then vregion sy call lim nt ops.toList (masks ops.toList []) (fmask ops 0 ops.toList) ops.size 1000 0 A W else none
      else vops sy call lim nt ops.toList ops.toList A W with
    | some (A', W') => bif W.next.ble W'.next then some (.normal, A', W') else none
    | none => none)
  | .seq x y, A, W =>
    (match vcode sy call lim nt F x A W with
    | some (.normal, A', W') => vcode sy call lim nt F y A' W'
    | some (.exit id, A', W') => some (.exit id, A', W')
    | some (.ret, A', W') => some (.ret, A', W')
    | none => none)
  | .cond c x y, A, W =>
    (match ev sy A c with
    | some (.bool true) => vcode sy call lim nt F x A W
    | some (.bool false) => vcode sy call lim nt F y A W
    | _ => none)
  | .block id b, A, W =>
    (match vcode sy call lim nt F b A W with
    | some (.exit id', A', W') => bif id'.beq id then some (.normal, A', W') else some (.exit id', A', W')
    | some (.normal, A', W') => some (.normal, A', W')
    | some (.ret, A', W') => some (.ret, A', W')
    | none => none)
  | .loop b, A, W => vloop (vcode sy call lim nt F b) F A W
  | .exit id, A, W => some (.exit id, A, W)
  | .scope b, A, W => vcode sy call lim nt F b A W
  | .ret, A, W => some (.ret, A, W)
  | _, _, _ => none
def vresults (P : Program) (A : Tr Value) (W : VW) : List ResultVar → Option (List Value)
  | [] => some []
  | .tmp t :: l => (match A.at t, vresults P A W l with | some v, some vs => some (v :: vs) | _, _ => none)
  | .cell t T :: l =>
    (match A.at t with
    | some (.pointer (some p)) => (match vload P W T (.pointer (some p)), vresults P A W l with | some v, some vs => some (v :: vs) | _, _ => none)
    | _ => none)
def retOf : List Value → Value
  | [v] => v
  | vs => .tuple vs.toArray
def isInt : Value → Value → Bool
  | .int k a, .int k' b => decide (k = k') && decide (a = b)
  | _, _ => false
def romIs (t : Tr Value) (n : Nat) : Nat → List Value → Bool
  | _, [] => true
  | k, v :: l => k.blt n && (match t.at k with | some u => isInt u v | none => false) && romIs t n (k + 1) l
def romsOk (gl : Nat → Bool) (W : VW) (G : Globs) : Bool := G.all fun g => gl g.1 && (match W.heap.at g.1 with | some (.rom t n) => romIs t n 0 g.2 | _ => false)
theorem romIs_at {t : Tr Value} {n : Nat} : ∀ (l : List Value) (k : Nat), romIs t n k l = true → ∀ (i : Nat) v, l[i]? = some v → k + i < n ∧ ∃ kk a, v = .int kk a ∧ t.at (k + i) = some v
  | [], _, _, i, v, h => by simp at h
  | u :: l, k, hr, i, v, h => by
    simp only [romIs, Bool.and_eq_true, Nat.blt_eq] at hr
    cases i with
    | zero =>
      simp only [List.getElem?_cons_zero, Option.some.injEq] at h
      subst h
      refine ⟨hr.1.1, ?_⟩
      have h2 := hr.1.2
      split at h2
      · rename_i u' hu'
        cases u' <;> cases u <;> simp [isInt] at h2
        obtain ⟨rfl, rfl⟩ := h2
        exact ⟨_, _, rfl, hu'⟩
      · cases h2
    | succ i =>
      have := romIs_at l (k + 1) hr.2 i v (by simpa using h)
      rw [show k + (i + 1) = k + 1 + i by omega]
      exact this
theorem romsOk_need {P : Program} {D : Den} {sy : Sy P D} {β : Place} {W : VW} {w : World} {G : Globs} (hr : Rel P D β W w) (hg : GOk sy β) (h : romsOk sy.gl W G = true) : NeedOk G w := by
  intro g hgG k v hv
  unfold romsOk at h
  have h1 := (List.all_eq_true.1 h) g hgG
  simp only [Bool.and_eq_true] at h1
  obtain ⟨h1, h2⟩ := h1
  split at h2
  · rename_i t n hat
    obtain ⟨hk, kk, a, rfl, hta⟩ := romIs_at g.2 0 h2 k v hv
    obtain ⟨b, d, x, e1, e2⟩ := hr.live g.1 _ hat
    rcases hg g.1 h1 with e | ⟨x', e⟩
    · rw [e] at e1; cases e1
    · rw [e] at e1
      injection e1 with q1 q2 q3
      subst q1 q2 q3
      rw [Nat.zero_add] at hk hta
      obtain ⟨v', q4, q5⟩ := e2 k _ hk hta
      rw [Nat.zero_add] at q4
      rw [pf_eq rfl q5] at q4
      exact q4
  · cases h2
def romsI (gl : Nat → Bool) (isI : Value → Bool) (W : VW) (G : List Nat) : Bool := G.all fun g => gl g && (match W.heap.at g with | some (.rom t n) => (0).blt n && (match t.at 0 with | some v => isI v | none => false) | _ => false)
theorem romsI_need {P : Program} {D : Den} {sy : Sy P D} {β : Place} {W : VW} {w : World} {G : List Nat} (hr : Rel P D β W w) (hg : GOk sy β) (h : romsI sy.gl sy.isI W G = true) : NeedI G w := by
  intro g hgG
  unfold romsI at h
  have h1 := (List.all_eq_true.1 h) g hgG
  simp only [Bool.and_eq_true] at h1
  obtain ⟨h1, h2⟩ := h1
  split at h2
  · rename_i t n hat
    simp only [Bool.and_eq_true, Nat.blt_eq] at h2
    obtain ⟨h3, h4⟩ := h2
    split at h4
    · rename_i v hv
      obtain ⟨b, d, x, e1, e2⟩ := hr.live g _ hat
      rcases hg g h1 with e | ⟨x', e⟩
      · rw [e] at e1; cases e1
      · rw [e] at e1
        injection e1 with q1 q2 q3
        subst q1 q2 q3
        obtain ⟨v', q4, q5⟩ := e2 0 v h3 hv
        obtain ⟨a, rfl⟩ := sy.isIOk v h4 _ _ q5
        exact ⟨a, q4⟩
    · cases h4
  · cases h2
def vcall {P : Program} {D : Den} (sy : Sy P D) (F : Nat) : Nat → VCall
  | 0, _, _, _, _ => none
  | n + 1, lim, f, xs, W =>
    match sy.tab f xs with
    | some v => bif romsOk sy.gl W sy.need && romsI sy.gl sy.isI W sy.needI then some (v, W) else none
    | none =>
    match P.funcs[f]? with
    | some fn =>
      match fn.body with
      | some c =>
        (match vcode sy (vcall sy F n) lim (xs.length + (fn.ntmps - xs.length)) F c (trOf 0 xs .nil) W with
        | some (.exit _, _, _) => none
        | some (_, A', W') => (match vresults P A' W' fn.results.toList with | some vs => some (retOf vs, W') | none => none)
        | none => none)
      | none => none
    | none => none
section
variable {P : Program} {D : Den} {sy : Sy P D}
def VExit.to : VExit → Exit
  | .normal => .normal
  | .exit id => .exit id
  | .ret => .ret
def CodeOk {P : Program} {D : Den} (sy : Sy P D) (lim nt : Nat) (c : Code) (r : Tr Value → VW → VOut) : Prop :=
  ∀ A W x A' W', r A W = some (x, A', W') → ∀ β a w, Rel P D β W w → lim ≤ W.next → FR sy β nt A a → ∀ Q : Exit → Act → World → Prop,
    (∀ a' w' β', FR sy β' nt A' a' → Rel P D β' W' w' → Ext lim β β' w w' → W.next ≤ W'.next → Q x.to a' w') → c.wp P Q a w
theorem vloop_ok {lim nt : Nat} {c : Code} {r : Tr Value → VW → VOut} (hr : CodeOk sy lim nt c r) : ∀ (n : Nat) A W x A' W', vloop r n A W = some (x, A', W') → ∀ β a w, Rel P D β W w → lim ≤ W.next → FR sy β nt A a → ∀ Q : Exit → Act → World → Prop,
    (∀ a' w' β', FR sy β' nt A' a' → Rel P D β' W' w' → Ext lim β β' w w' → W.next ≤ W'.next → Q x.to a' w') → Code.rounds P c Q n a w
  | 0, _, _, _, _, _, h, _, _, _, _, _, _, _, _ => by cases h
  | n + 1, A, W, x, A', W', h, β, a, w, hrel, hl, hf, Q, hQ => by
    rw [rounds_succ]
    unfold vloop at h
    split at h
    · rename_i A1 W1 h1
      refine hr A W _ A1 W1 h1 β a w hrel hl hf _ (fun a1 w1 β1 g1 g2 g3 g4 => ?_)
      exact vloop_ok hr n A1 W1 x A' W' h β1 a1 w1 g2 (Nat.le_trans hl g4) g1 Q (fun a2 w2 β2 k1 k2 k3 k4 => hQ a2 w2 β2 k1 k2 (g3.trans k3) (Nat.le_trans g4 k4))
    · rename_i id A1 W1 h1
      simp only [Option.some.injEq, Prod.mk.injEq] at h
      obtain ⟨rfl, rfl, rfl⟩ := h
      exact hr A W _ _ _ h1 β a w hrel hl hf _ (fun a1 w1 β1 g1 g2 g3 g4 => hQ a1 w1 β1 g1 g2 g3 g4)
    · rename_i A1 W1 h1
      simp only [Option.some.injEq, Prod.mk.injEq] at h
      obtain ⟨rfl, rfl, rfl⟩ := h
      exact hr A W _ _ _ h1 β a w hrel hl hf _ (fun a1 w1 β1 g1 g2 g3 g4 => hQ a1 w1 β1 g1 g2 g3 g4)
    · cases h
theorem vcode_ok (hmix : P.follows .mixedOrders = true) {call : VCall} (hc : CallOk sy call) (lim nt F : Nat) : ∀ c : Code, CodeOk sy lim nt c (vcode sy call lim nt F c) := by
  intro c
  induction c with
  | skip =>
    intro A W x A' W' h β a w hrel hl hf Q hQ
    simp only [vcode, Option.some.injEq, Prod.mk.injEq] at h
    obtain ⟨rfl, rfl, rfl⟩ := h
    exact wp_skip (hQ a w β hf hrel (Ext.refl _ _ _) (Nat.le_refl _))
  | label l =>
    intro A W x A' W' h β a w hrel hl hf Q hQ
    simp only [vcode, Option.some.injEq, Prod.mk.injEq] at h
    obtain ⟨rfl, rfl, rfl⟩ := h
    exact wp_label (hQ a w β hf hrel (Ext.refl _ _ _) (Nat.le_refl _))
  | region id ops draw =>
    intro A W x A' W' h β a w hrel hl hf Q hQ
    unfold vcode at h
    split at h
    rotate_left
    · cases h
    rename_i A1 W1 h1
    cases hb : W.next.ble W1.next with
    | false => rw [hb] at h; cases h
    | true =>
      rw [hb] at h
      simp only [cond_true, Option.some.injEq, Prod.mk.injEq] at h
      obtain ⟨rfl, rfl, rfl⟩ := h
      cases draw with
      | false =>
        simp only [cond_false] at h1
        refine wp_region ?_
        rw [List.range_eq_range', ← Array.length_toList]
        exact vops_ok hc ops.toList 0 A A1 W W1 β a w (by simp) hrel hl hf h1 (fun a' w' β' g1 g2 g3 g4 => hQ a' w' β' g1 g2 g3 g4)
      | true =>
        simp only [cond_true] at h1
        cases hm : (edgesOk 0 ops.toList && masksOk (masks ops.toList []) 0 ops.toList && Region.noSelect ops) with
        | false => rw [hm] at h1; cases h1
        | true =>
          rw [hm] at h1
          simp only [cond_true] at h1
          simp only [Bool.and_eq_true] at hm
          exact vregion_ok hmix hc hm.1.1 hm.1.2 hm.2 hrel hl hf h1 (fun a' w' β' g1 g2 g3 g4 => hQ a' w' β' g1 g2 g3 g4)
  | seq c1 c2 ih1 ih2 =>
    intro A W x A' W' h β a w hrel hl hf Q hQ
    unfold vcode at h
    refine wp_seq ?_
    split at h
    · rename_i A1 W1 h1
      refine ih1 A W _ A1 W1 h1 β a w hrel hl hf _ (fun a1 w1 β1 g1 g2 g3 g4 => ?_)
      exact ih2 A1 W1 x A' W' h β1 a1 w1 g2 (Nat.le_trans hl g4) g1 Q (fun a2 w2 β2 k1 k2 k3 k4 => hQ a2 w2 β2 k1 k2 (g3.trans k3) (Nat.le_trans g4 k4))
    · rename_i id A1 W1 h1
      simp only [Option.some.injEq, Prod.mk.injEq] at h
      obtain ⟨rfl, rfl, rfl⟩ := h
      exact ih1 A W _ _ _ h1 β a w hrel hl hf _ (fun a1 w1 β1 g1 g2 g3 g4 => hQ a1 w1 β1 g1 g2 g3 g4)
    · rename_i A1 W1 h1
      simp only [Option.some.injEq, Prod.mk.injEq] at h
      obtain ⟨rfl, rfl, rfl⟩ := h
      exact ih1 A W _ _ _ h1 β a w hrel hl hf _ (fun a1 w1 β1 g1 g2 g3 g4 => hQ a1 w1 β1 g1 g2 g3 g4)
    · cases h
  | cond o c1 c2 ih1 ih2 =>
    intro A W x A' W' h β a w hrel hl hf Q hQ
    unfold vcode at h
    split at h
    · rename_i h1
      exact wp_cond_true (pf_eq rfl (ev_ok hf h1)) (ih1 A W x A' W' h β a w hrel hl hf Q hQ)
    · rename_i h1
      exact wp_cond_false (pf_eq rfl (ev_ok hf h1)) (ih2 A W x A' W' h β a w hrel hl hf Q hQ)
    · cases h
  | block id b ih =>
    intro A W x A' W' h β a w hrel hl hf Q hQ
    unfold vcode at h
    refine wp_block ?_
    split at h
    · rename_i id' A1 W1 h1
      refine ih A W _ A1 W1 h1 β a w hrel hl hf _ (fun a1 w1 β1 g1 g2 g3 g4 => ?_)
      show (if id' = id then Q .normal a1 w1 else Q (.exit id') a1 w1)
      cases hb : id'.beq id with
      | true =>
        rw [hb] at h
        simp only [cond_true, Option.some.injEq, Prod.mk.injEq] at h
        obtain ⟨rfl, rfl, rfl⟩ := h
        rw [if_pos (Nat.eq_of_beq_eq_true hb)]
        exact hQ a1 w1 β1 g1 g2 g3 g4
      | false =>
        rw [hb] at h
        simp only [cond_false, Option.some.injEq, Prod.mk.injEq] at h
        obtain ⟨rfl, rfl, rfl⟩ := h
        rw [if_neg (fun e => by rw [e, Nat.beq_refl] at hb; cases hb)]
        exact hQ a1 w1 β1 g1 g2 g3 g4
    · rename_i A1 W1 h1
      simp only [Option.some.injEq, Prod.mk.injEq] at h
      obtain ⟨rfl, rfl, rfl⟩ := h
      exact ih A W _ _ _ h1 β a w hrel hl hf _ (fun a1 w1 β1 g1 g2 g3 g4 => hQ a1 w1 β1 g1 g2 g3 g4)
    · rename_i A1 W1 h1
      simp only [Option.some.injEq, Prod.mk.injEq] at h
      obtain ⟨rfl, rfl, rfl⟩ := h
      exact ih A W _ _ _ h1 β a w hrel hl hf _ (fun a1 w1 β1 g1 g2 g3 g4 => hQ a1 w1 β1 g1 g2 g3 g4)
    · cases h
  | loop b ih =>
    intro A W x A' W' h β a w hrel hl hf Q hQ
    unfold vcode at h
    exact wp_loop_rounds F (vloop_ok ih F A W x A' W' h β a w hrel hl hf Q hQ)
  | exit id =>
    intro A W x A' W' h β a w hrel hl hf Q hQ
    simp only [vcode, Option.some.injEq, Prod.mk.injEq] at h
    obtain ⟨rfl, rfl, rfl⟩ := h
    exact wp_exit (hQ a w β hf hrel (Ext.refl _ _ _) (Nat.le_refl _))
  | scope b ih =>
    intro A W x A' W' h β a w hrel hl hf Q hQ
    unfold vcode at h
    refine wp_scope_straight (ih A W x A' W' h β a w hrel hl hf _ (fun a1 w1 β1 g1 g2 g3 g4 => ?_))
    have := hQ a1 w1 β1 g1 g2 g3 g4
    cases x <;> exact this
  | ret =>
    intro A W x A' W' h β a w hrel hl hf Q hQ
    simp only [vcode, Option.some.injEq, Prod.mk.injEq] at h
    obtain ⟨rfl, rfl, rfl⟩ := h
    exact wp_ret (hQ a w β hf hrel (Ext.refl _ _ _) (Nat.le_refl _))
  | goto l =>
    intro A W x A' W' h
    simp [vcode] at h
  | refuse s =>
    intro A W x A' W' h
    simp [vcode] at h
  | rangeFunc f ps c1 c2 =>
    intro A W x A' W' h
    simp [vcode] at h
def resOf (tmps : Array Value) : ResultVar → Sem Value
  | .tmp t => pure (tmps.getD t undef)
  | .cell x t => do loadVar t (← asAddr (tmps.getD x undef))
theorem vresults_ok {β : Place} {nt : Nat} {A : Tr Value} {a : Act} {W : VW} {w : World} (hrel : Rel P D β W w) (hf : FR sy β nt A a) : ∀ (l : List ResultVar) (vs : List Value), vresults P A W l = some vs →
    ∃ vs', (l.mapM (resOf a.tmps)).run P w = .ok vs' w ∧ LR D β vs vs'
  | [], vs, h => by
    simp only [vresults, Option.some.injEq] at h
    subst h
    exact ⟨[], by simp, LR.nil⟩
  | .tmp t :: l, vs, h => by
    unfold vresults at h
    split at h
    · rename_i v us h1 h2
      simp only [Option.some.injEq] at h
      subst h
      obtain ⟨us', g1, g2⟩ := vresults_ok hrel hf l us h2
      refine ⟨a.tmps.getD t undef :: us', ?_, LR.cons (hf.vals t v h1) g2⟩
      rw [List.mapM_cons]
      simp only [resOf, Sem.run_bind, Sem.run_pure, Result.andThen, g1]
    · cases h
  | .cell t T :: l, vs, h => by
    unfold vresults at h
    split at h
    · rename_i p h0
      split at h
      · rename_i v us h1 h2
        simp only [Option.some.injEq] at h
        subst h
        obtain ⟨us', g1, g2⟩ := vresults_ok hrel hf l us h2
        have hp := hf.vals t _ h0
        obtain ⟨v', k1, k2⟩ := vload_ok hrel hp h1
        generalize hq : a.tmps.getD t undef = q at hp k1
        cases hp with
        | sym _ _ e => cases e
        | ptr b o a1 hA =>
          refine ⟨v' :: us', ?_, LR.cons k2 g2⟩
          rw [List.mapM_cons]
          have k1' : (loadVar T a1).run P w = .ok v' w := by
            simpa [Instr.loadAt, Instr.sureAddr, Result.andThen] using k1
          simp only [resOf, Sem.run_bind, hq, asAddr, Sem.run_pure, Result.andThen, k1', g1]
      · cases h
    · cases h
theorem vcall_ok (hmix : P.follows .mixedOrders = true) (F : Nat) : ∀ n, CallOk sy (vcall sy F n)
  | 0 => fun lim f xs W v W' h => by cases h
  | n + 1 => by
    intro lim f xs W v W' h β w xs' hrel hg hl hlim
    unfold vcall at h
    split at h
    · rename_i v0 ht
      cases hro : romsOk sy.gl W sy.need && romsI sy.gl sy.isI W sy.needI with
      | false => rw [hro] at h; cases h
      | true =>
      rw [hro] at h
      simp only [Bool.and_eq_true] at hro
      simp only [cond_true, Option.some.injEq, Prod.mk.injEq] at h
      obtain ⟨rfl, rfl⟩ := h
      obtain ⟨t1, t2⟩ := sy.tabOk f xs v0 ht
      refine (t2 β xs' w ⟨romsOk_need hrel hg hro.1, romsI_need hrel hg hro.2⟩ hl).mono ?_
      rintro e w' ⟨rfl, hb⟩
      exact ⟨v0, β, rfl, pf_vr D β v0 t1, hrel.grow hb, LeS.refl _, fun _ _ => rfl, Only.of_below hb, fun _ _ h => h⟩
    split at h
    rotate_left
    · cases h
    rename_i fn hfn
    split at h
    rotate_left
    · cases h
    rename_i c hcb
    have hF0 : FR sy β (xs.length + (fn.ntmps - xs.length)) (trOf 0 xs .nil) { tmps := xs'.toArray ++ Array.replicate (fn.ntmps - xs'.toArray.size) undef, defers := [] } := by
      have hlen := hl.1
      refine ⟨hg, by simp [hlen], rfl, fun t u hu => ?_⟩
      rcases trOf_at xs 0 .nil t u hu with ⟨_, h1⟩ | ⟨_, h1⟩
      · have ht : t < xs'.length := by
          rw [← hlen]
          exact (List.getElem?_eq_some_iff.1 h1).1
        have : (xs'.toArray ++ Array.replicate (fn.ntmps - xs'.toArray.size) undef).getD t undef = xs'[t] := by
          simp [Array.getD_eq_getD_getElem?, Array.getElem?_append, ht]
        rw [this]
        exact hl.2 t u _ h1 (List.getElem?_eq_getElem ht)
      · rw [show (Tr.nil : Tr Value).at t = none from Tr.get_nil _ _] at h1; cases h1
    have hcode := vcode_ok (sy := sy) hmix (vcall_ok hmix F n) lim (xs.length + (fn.ntmps - xs.length)) F c
    have fin : ∀ (x : VExit) A1 W1, vcode sy (vcall sy F n) lim (xs.length + (fn.ntmps - xs.length)) F c (trOf 0 xs .nil) W = some (x, A1, W1) → (x = .normal ∨ x = .ret) → (match vresults P A1 W1 fn.results.toList with | some vs => some (retOf vs, W1) | none => none) = some (v, W') →
        Calls P f xs'.toArray w fun e w' => ∃ v' β', e = .returned v' ∧ VR D β' v v' ∧ Rel P D β' W' w' ∧ Ext lim β β' w w' := by
      intro x A1 W1 h1 hx h2
      split at h2
      rotate_left
      · cases h2
      rename_i vs hvs
      simp only [Option.some.injEq, Prod.mk.injEq] at h2
      obtain ⟨rfl, rfl⟩ := h2
      refine calls_of_wp hfn hcb (hcode _ _ x A1 W1 h1 β _ w hrel hlim hF0 _ (fun a1 w1 β1 g1 g2 g3 g4 => ?_))
      obtain ⟨vs', k1, k2⟩ := vresults_ok g2 g1 fn.results.toList vs hvs
      have hres : (results fn a1.tmps).run P w1 = .ok (if h : vs'.length = 1 then vs'[0] else .tuple vs'.toArray) w1 := by
        change (do let vs ← fn.results.mapM (resOf a1.tmps); pure (if h : vs.size = 1 then vs[0] else .tuple vs) : Sem Value).run P w1 = _
        rw [Array.mapM_eq_mapM_toList]
        simp only [Sem.run_bind, Sem.run_map, k1, Result.andThen, Sem.run_pure]
        simp
      have hpost : a1.defers = [] ∧ ∃ u, (results fn a1.tmps).run P w1 = .ok u w1 ∧ ∃ v' β', Ending.returned u = .returned v' ∧ VR D β' (retOf vs) v' ∧ Rel P D β' W1 w1 ∧ Ext lim β β' w w1 := by
        refine ⟨g1.defers, _, hres, _, β1, rfl, ?_, g2, g3⟩
        have hlen := k2.1
        split
        · rename_i h1
          obtain ⟨y, rfl⟩ : ∃ y, vs' = [y] := by
            match vs', h1 with
            | [y], _ => exact ⟨y, rfl⟩
          obtain ⟨z, rfl⟩ : ∃ z, vs = [z] := by
            match vs, hlen with
            | [z], _ => exact ⟨z, rfl⟩
          exact k2.2 0 z y rfl rfl
        · rename_i h1
          have : retOf vs = .tuple vs.toArray := by
            match vs, hlen with
            | [], _ => rfl
            | [z], hlen => exact absurd hlen.symm h1
            | _ :: _ :: _, _ => rfl
          rw [this]
          exact .tuple vs vs' k2.1 k2.2
      rcases hx with rfl | rfl
      · exact hpost
      · exact hpost
    split at h
    · cases h
    · rename_i x A1 W1 hx h1
      refine fin x A1 W1 h1 ?_ h
      cases x with
      | normal => exact Or.inl rfl
      | ret => exact Or.inr rfl
      | exit id => exact (hx id rfl).elim
    · cases h
end
def globHeap : Globs → Tr VObj
  | [] => .nil
  | g :: l => (globHeap l).put g.1 (.rom (trOf 0 g.2 .nil) g.2.length)
def globW (n : Nat) (G : Globs) : VW := ⟨globHeap G, n⟩
theorem globHeap_at : ∀ (G : Globs) (i : Nat) (o : VObj), (globHeap G).at i = some o → ∃ g ∈ G, g.1 = i ∧ o = .rom (trOf 0 g.2 .nil) g.2.length
  | [], i, o, h => by rw [show (globHeap []).at i = none from Tr.get_nil _ _] at h; cases h
  | g :: l, i, o, h => by
    rcases Tr.at_put h with ⟨rfl, rfl⟩ | ⟨_, h'⟩
    · exact ⟨g, List.mem_cons_self, rfl, rfl⟩
    · obtain ⟨g', h1, h2⟩ := globHeap_at l i o h'
      exact ⟨g', List.mem_cons_of_mem _ h1, h2⟩
def globP (n : Nat) (G : Globs) : Place := fun i => bif i.blt n then (bif G.any (fun g => g.1.beq i) then .live i 0 0 else .dead) else .unborn
theorem vrunR {P : Program} {D : Den} (sy : Sy P D) (hmix : P.follows .mixedOrders = true) (F n f ng : Nat) (G : Globs) (xs xs' : List Value) (v : Value) (hgl : ∀ g, sy.gl g = true → g < ng) (w : World) (hn : ng ≤ w.heap.size)
    (hG : ∀ g ∈ G, g.1 < ng) (hN : ∀ g ∈ G, ∀ (k : Nat) v, g.2[k]? = some v → ∃ v', w.cell? ⟨g.1, k, none⟩ = some v' ∧ ∀ β, VR D β v v') (hx : ∀ β, LR D β xs xs') (hv : pf v = true) (h : (vcall sy F n ng f xs (globW ng G)).map (·.1) = some v) :
    Calls P f xs'.toArray w fun e w' => e = .returned v ∧ Below w.heap.size w w' := by
  cases hc : vcall sy F n ng f xs (globW ng G) with
  | none => rw [hc] at h; cases h
  | some r =>
    obtain ⟨v1, W'⟩ := r
    rw [hc] at h
    simp only [Option.map_some, Option.some.injEq] at h
    subst h
    have hp : ∀ i, globP ng G i = .unborn ∨ globP ng G i = .dead ∨ globP ng G i = .live i 0 0 := by
      intro i
      unfold globP
      cases i.blt ng <;> cases G.any (fun g => g.1.beq i) <;> simp
    have hrel : Rel P D (globP ng G) (globW ng G) w := by
      refine ⟨fun i hi => ?_, fun i o hi => ?_, fun i j b d x d' x' hi hj => ?_, fun i b d x hi => ?_⟩
      · have hi' : ng ≤ i := hi
        have : i.blt ng = false := by
          cases hb : i.blt ng with
          | false => rfl
          | true => simp [Nat.blt_eq] at hb; omega
        unfold globP
        rw [this]; rfl
      · obtain ⟨g, h1, h2, rfl⟩ := globHeap_at G i o hi
        have k1 := hG g h1
        have k3 := hN g h1
        subst h2
        refine ⟨g.1, 0, 0, ?_, fun k v hk hv => ?_⟩
        · have e1 : g.1.blt ng = true := by simpa [Nat.blt_eq] using k1
          have e2 : G.any (fun g' => g'.1.beq g.1) = true := List.any_eq_true.2 ⟨g, h1, Nat.beq_refl _⟩
          unfold globP
          rw [e1, e2]; rfl
        · rcases trOf_at g.2 0 .nil k v hv with ⟨_, q⟩ | ⟨_, q⟩
          · obtain ⟨v', c1, c2⟩ := k3 k v (by simpa using q)
            exact ⟨v', by rw [Nat.zero_add]; exact c1, c2 _⟩
          · rw [show (Tr.nil : Tr Value).at k = none from Tr.get_nil _ _] at q; cases q
      · rcases hp i with e | e | e <;> rw [e] at hi <;> cases hi
        rcases hp j with e' | e' | e' <;> rw [e'] at hj <;> cases hj
        rfl
      · have hlt : i < ng := by
          rcases Nat.lt_or_ge i ng with hh | hh
          · exact hh
          · unfold globP at hi
            have : i.blt ng = false := by
              cases hb : i.blt ng with
              | false => rfl
              | true => simp [Nat.blt_eq] at hb; omega
            rw [this] at hi; cases hi
        rcases hp i with e | e | e <;> rw [e] at hi <;> cases hi
        omega
    have hgo : GOk sy (globP ng G) := by
      intro g hg
      have h1 := hgl g hg
      rcases hp g with e | e | e
      · unfold globP at e
        have : g.blt ng = true := by simpa [Nat.blt_eq] using h1
        rw [this] at e
        cases hb : G.any (fun g' => g'.1.beq g) <;> rw [hb] at e <;> cases e
      · exact Or.inl e
      · exact Or.inr ⟨0, e⟩
    refine (vcall_ok hmix F n ng f xs (globW ng G) v1 W' hc _ w xs' hrel hgo (hx _) (Nat.le_refl _)).mono ?_
    rintro e w' ⟨v', β', rfl, g1, g2, g3⟩
    refine ⟨by rw [pf_eq hv g1], g3.only.below (Nat.le_refl _) ?_⟩
    rintro k ⟨i, d, x, hi, hk⟩
    unfold globP at hk
    have : i.blt ng = false := by
      cases hb : i.blt ng with
      | false => rfl
      | true => simp [Nat.blt_eq] at hb; omega
    rw [this] at hk
    cases hk
theorem vrunG {P : Program} {D : Den} (sy : Sy P D) (hmix : P.follows .mixedOrders = true) (F n f ng : Nat) (G : Globs) (xs xs' : List Value) (v : Value) (hgl : ∀ g, sy.gl g = true → g < ng) (w : World) (hn : ng ≤ w.heap.size)
    (hG : ∀ g ∈ G, g.1 < ng ∧ pfs g.2 = true) (hN : NeedOk G w) (hx : ∀ β, LR D β xs xs') (hv : pf v = true) (h : (vcall sy F n ng f xs (globW ng G)).map (·.1) = some v) :
    Calls P f xs'.toArray w fun e w' => e = .returned v ∧ Below w.heap.size w w' :=
  vrunR sy hmix F n f ng G xs xs' v hgl w hn (fun g hg => (hG g hg).1) (fun g hg k v hk => ⟨v, hN g hg k v hk, fun β => pf_vr D β v (pfs_mem (hG g hg).2 v (List.mem_of_getElem? hk))⟩) hx hv h
theorem vrunS {P : Program} {D : Den} (sy : Sy P D) (hgl : ∀ g, sy.gl g = false) (hmix : P.follows .mixedOrders = true) (F n f : Nat) (xs xs' : List Value) (v : Value) (hx : ∀ β, LR D β xs xs') (hv : pf v = true) (h : (vcall sy F n 0 f xs (globW 0 [])).map (·.1) = some v) (w : World) :
    Calls P f xs'.toArray w fun e w' => e = .returned v ∧ Below w.heap.size w w' :=
  vrunG sy hmix F n f 0 [] xs xs' v (fun g hg => by rw [hgl] at hg; cases hg) w (Nat.zero_le _) (fun g hg => by cases hg) (fun g hg => by cases hg) hx hv h
end Go.Proofs.YtmmpkkpmlaiapaaGreatDoor
