/- A machine to run closed calls: numbers that are not known, by marks. What is known of marks: numbers brought into a range. What marks stand for, node by node. The names of registers: the table, and how they are run. The example of the statements' package answers true; strings.Index and strings.Count of one byte are known calls. What the parser rests on, out of what is laid; the example of the statements' package. No condition. -/
import Derived.Test.YtmmpkkpmlaiapaaGreatDoorVmB
import Derived.IntWalk
import Derived.Test.YtmmpkkpmlaiapaaGreatDoorGl
import Derived.Test.YtmmpkkpmlaiapaaGreatDoorChecked
import Derived.Test.YtmmpkkpmlaiapaaGreatDoorShelf
import Derived.Test.YtmmpkkpmlaiapaaGreatDoorQa
import Derived.LaidLaws
namespace Go.Proofs.YtmmpkkpmlaiapaaGreatDoor
open Go.RowKit
set_option linter.unusedVariables false
def evB : BinOp → IntKind → Int → Int → Option Value
  | .add, k, a, b => some (.int k (k.wrap (a + b)))
  | .sub, k, a, b => some (.int k (k.wrap (a - b)))
  | .mul, k, a, b => some (.int k (k.wrap (a * b)))
  | .quo, k, a, b => if b = 0 then none else some (.int k (k.wrap (a.tdiv b)))
  | .rem, k, a, b => if b = 0 then none else some (.int k (a.tmod b))
  | .and, k, a, b => some (.int k (k.wrap (BitVec.ofInt k.bits a &&& BitVec.ofInt k.bits b).toNat))
  | .or, k, a, b => some (.int k (k.wrap (BitVec.ofInt k.bits a ||| BitVec.ofInt k.bits b).toNat))
  | .xor, k, a, b => some (.int k (k.wrap (BitVec.ofInt k.bits a ^^^ BitVec.ofInt k.bits b).toNat))
  | .andNot, k, a, b => some (.int k (k.wrap (BitVec.ofInt k.bits a &&& ~~~BitVec.ofInt k.bits b).toNat))
  | .shl, k, a, b => if b < 0 then none else some (.int k (k.wrap (a * 2 ^ (min b.toNat k.bits))))
  | .shr, k, a, b => if b < 0 then none else some (.int k (a.fdiv (2 ^ (min b.toNat k.bits))))
  | .eql, _, a, b => some (.bool (a == b))
  | .neq, _, a, b => some (.bool (a != b))
  | .lss, _, a, b => some (.bool (decide (a < b)))
  | .leq, _, a, b => some (.bool (decide (a ≤ b)))
  | .gtr, _, a, b => some (.bool (decide (a > b)))
  | .geq, _, a, b => some (.bool (decide (a ≥ b)))
def isShift : BinOp → Bool
  | .shl | .shr => true
  | _ => false
def evB2 (op : BinOp) (k : IntKind) (a : Int) (k' : IntKind) (b : Int) : Option Value :=
  if isShift op = true ∨ k = k' then evB op k a b else none
theorem evB2_run {P : Program} {op : BinOp} {k k' : IntKind} {a b : Int} {v : Value} (h : evB2 op k a k' b = some v) (T : TypeId) (w : World) : (binOp op T (.int k a) (.int k' b)).run P w = .ok v w := by
  unfold evB2 at h
  split at h
  rotate_left
  · cases h
  rename_i hk
  cases op <;> simp only [isShift, Bool.false_eq_true, false_or, true_or] at hk <;> (try subst hk) <;> simp only [evB] at h
  all_goals first
    | (split at h
       · cases h
       · rename_i hb
         simp only [Option.some.injEq] at h
         subst h
         simp [binOp, Op.intDiv, Op.shift, hb])
    | (simp only [Option.some.injEq] at h
       subst h
       simp [binOp, Op.intArith, Op.intBits, Op.intCmp])
def bcode : BinOp → Nat
  | .add => 1 | .sub => 2 | .mul => 3 | .quo => 4 | .rem => 5 | .and => 6 | .or => 7 | .xor => 8 | .shl => 9 | .shr => 10 | .andNot => 11 | .eql => 12 | .neq => 13 | .lss => 14 | .leq => 15 | .gtr => 16 | .geq => 17
def bdec : Nat → BinOp
  | 1 => .add | 2 => .sub | 3 => .mul | 4 => .quo | 5 => .rem | 6 => .and | 7 => .or | 8 => .xor | 9 => .shl | 10 => .shr | 11 => .andNot | 12 => .eql | 13 => .neq | 14 => .lss | 15 => .leq | 16 => .gtr | _ => .geq
theorem bdec_bcode (op : BinOp) : bdec (bcode op) = op := by cases op <;> rfl
def asKind (k : IntKind) : Option Value → Option Value
  | some (.int k' c) => if k' = k then some (.int k c) else none
  | _ => none
def asB : Option Value → Option Value
  | some (.bool c) => some (.bool c)
  | _ => none
def denN (ρ : Int → Int) (t : Nat) : List Value → Option Value
  | [.int k i] => some (.int k (ρ i))
  | [.int k _, .int k1 a] => if t = 100 then some (.int k (k.wrap a)) else if t = 101 ∧ k1 = k then some (.int k (k.wrap (0 - a))) else none
  | [.int k _, .int k1 a, .int k2 b] => asKind k (evB2 (bdec t) k1 a k2 b)
  | [.bool _, .int k1 a, .int k2 b] => asB (evB2 (bdec t) k1 a k2 b)
  | _ => none
mutual
def den (ρ : Int → Int) : Value → Option Value
  | .func (.yield t) ⟨xs⟩ ⟨[]⟩ => (match dens ρ xs with | some vs => denN ρ t vs | none => none)
  | .int k n => some (.int k n)
  | .bool b => some (.bool b)
  | _ => none
def dens (ρ : Int → Int) : List Value → Option (List Value)
  | [] => some []
  | x :: xs => match den ρ x, dens ρ xs with
    | some v, some vs => some (v :: vs)
    | _, _ => none
end
def mkOf : Value → Option IntKind
  | .int k _ => some k
  | .func (.yield _) ⟨.int k _ :: _⟩ _ => some k
  | _ => none
theorem denN_kind {ρ : Int → Int} {t : Nat} {k : IntKind} {j : Int} {l : List Value} {v : Value} (h : denN ρ t (.int k j :: l) = some v) : ∃ n, v = .int k n := by
  unfold denN at h
  split at h
  · rename_i e; simp only [List.cons.injEq, Value.int.injEq] at e; obtain ⟨⟨rfl, _⟩, _⟩ := e; simp only [Option.some.injEq] at h; exact ⟨_, h.symm⟩
  · rename_i e; simp only [List.cons.injEq, Value.int.injEq] at e; obtain ⟨⟨rfl, _⟩, _⟩ := e
    split at h
    · simp only [Option.some.injEq] at h; exact ⟨_, h.symm⟩
    · split at h
      · simp only [Option.some.injEq] at h; exact ⟨_, h.symm⟩
      · cases h
  · rename_i e; simp only [List.cons.injEq, Value.int.injEq] at e; obtain ⟨⟨rfl, _⟩, _⟩ := e
    unfold asKind at h
    split at h
    · split at h
      · simp only [Option.some.injEq] at h; exact ⟨_, h.symm⟩
      · cases h
    · cases h
  · rename_i e; simp at e
  · cases h
section
variable {ρ : Int → Int} {β : Place}
theorem vr_kind {x x' : Value} {k : IntKind} (h : VR (den ρ) β x x') (hk : mkOf x = some k) : ∃ n, x' = .int k n ∧ den ρ x = some (.int k n) := by
  unfold mkOf at hk
  split at hk
  · simp only [Option.some.injEq] at hk
    subst hk
    cases h with
    | sym _ _ h1 => cases h1
    | int => exact ⟨_, rfl, by simp [den]⟩
  · simp only [Option.some.injEq] at hk
    subst hk
    cases h with
    | sym _ _ h1 h2 h3 =>
      have h2' := h2
      unfold den at h2
      split at h2
      · rename_i t xs e
        simp only [Value.func.injEq] at e
        obtain ⟨e1, e2, e3⟩ := e
        obtain rfl := Array.mk.inj e2
        split at h2
        · rename_i vs hvs
          unfold dens at hvs
          split at hvs
          · rename_i v0 vs0 q1 q2
            simp only [den, Option.some.injEq] at q1
            subst q1
            simp only [Option.some.injEq] at hvs
            subst hvs
            obtain ⟨n, hn⟩ := denN_kind h2
            subst hn
            exact ⟨n, rfl, h2'⟩
          · cases hvs
        · cases h2
      all_goals first | contradiction | (cases h2; done)
  · cases hk
/-! #### Marks compared, and known values for them -/
mutual
def teq : Value → Value → Bool
  | .int k n, .int k' n' => decide (k = k') && decide (n = n')
  | .bool b, .bool b' => b == b'
  | .func (.yield i) ⟨xs⟩ ⟨[]⟩, .func (.yield j) ⟨ys⟩ ⟨[]⟩ => i.beq j && teqs xs ys
  | _, _ => false
def teqs : List Value → List Value → Bool
  | [], [] => true
  | x :: xs, y :: ys => teq x y && teqs xs ys
  | _, _ => false
end
mutual
theorem teq_eq : ∀ x y, teq x y = true → x = y
  | .int k n, y, h => by
    cases y <;> simp [teq] at h
    obtain ⟨rfl, rfl⟩ := h; rfl
  | .bool b, y, h => by
    cases y <;> simp [teq] at h
    subst h; rfl
  | .func (.yield i) ⟨xs⟩ ⟨[]⟩, y, h => by
    unfold teq at h
    split at h
    · contradiction
    · contradiction
    · rename_i i' xs' j ys e
      simp only [Value.func.injEq, Fn.yield.injEq] at e
      obtain ⟨rfl, e2, _⟩ := e
      obtain rfl := Array.mk.inj e2
      simp only [Bool.and_eq_true] at h
      obtain rfl := Nat.eq_of_beq_eq_true h.1
      rw [teqs_eq xs ys h.2]
    · cases h
  | .func (.yield i) ⟨xs⟩ ⟨_ :: _⟩, y, h => by simp [teq] at h
  | .func (.func _) _ _, y, h => by simp [teq] at h
  | .func (.method _) _ _, y, h => by simp [teq] at h
  | .func (.methodOf _ _) _ _, y, h => by simp [teq] at h
  | .func (.via _ _ _ _) _ _, y, h => by simp [teq] at h
  | .float _ _, y, h => by simp [teq] at h
  | .complex _ _ _, y, h => by simp [teq] at h
  | .string _, y, h => by simp [teq] at h
  | .pointer _, y, h => by simp [teq] at h
  | .slice _ _ _, y, h => by simp [teq] at h
  | .map _, y, h => by simp [teq] at h
  | .chan _, y, h => by simp [teq] at h
  | .nilFunc, y, h => by simp [teq] at h
  | .iface _ _, y, h => by simp [teq] at h
  | .nilIface, y, h => by simp [teq] at h
  | .agg _, y, h => by simp [teq] at h
  | .tuple _, y, h => by simp [teq] at h
theorem teqs_eq : ∀ xs ys, teqs xs ys = true → xs = ys
  | [], [], _ => rfl
  | [], _ :: _, h => by simp [teqs] at h
  | _ :: _, [], h => by simp [teqs] at h
  | x :: xs, y :: ys, h => by
    simp only [teqs, Bool.and_eq_true] at h
    rw [teq_eq x y h.1, teqs_eq xs ys h.2]
end
abbrev Know := List (Value × Value)
def resolve' (H : Know) (t : Value) : Value :=
  match H.find? (fun p => teq p.1 t) with
  | some p => p.2
  | none => t
def KnowOk (ρ : Int → Int) (H : Know) : Prop := ∀ p ∈ H, den ρ p.1 = some p.2 ∧ scalar p.2 = true
theorem resolve_ok {H : Know} (hH : KnowOk ρ H) {t v' : Value} (hs : isSym t = true) (hd : den ρ t = some v') (hv : scalar v' = true) : VR (den ρ) β (resolve' H t) v' := by
  unfold resolve'
  split
  · rename_i p hp
    obtain ⟨h1, h2⟩ := hH p (List.mem_of_find?_eq_some hp)
    have h3 := teq_eq _ _ (by simpa using List.find?_some hp)
    rw [h3, hd] at h1
    obtain h4 : v' = p.2 := Option.some.inj h1
    rw [← h4]
    cases v' <;> simp [scalar] at hv
    · exact .bool _
    · exact .int _ _
  · exact .sym _ _ hs hd hv
def binFits (op : BinOp) (k k' : IntKind) (y : Value) : Bool :=
  match op with
  | .shl | .shr => (match y with | .int _ n => decide (0 ≤ n) | _ => false)
  | .quo | .rem => decide (k = k') && (match y with | .int _ n => !decide (n = 0) | _ => false)
  | _ => decide (k = k')
def isCmp : BinOp → Bool
  | .eql | .neq | .lss | .leq | .gtr | .geq => true
  | _ => false
def symNode (op : BinOp) (k : IntKind) (x y : Value) : Value :=
  .func (.yield (bcode op)) ⟨[bif isCmp op then .bool false else .int k 0, x, y]⟩ ⟨[]⟩
def symBin (H : Know) (op : BinOp) (x y : Value) : Option Value :=
  bif isSym x || isSym y then
    (match mkOf x, mkOf y with
    | some k, some k' => bif binFits op k k' y then some (resolve' H (symNode op k x y)) else none
    | _, _ => none)
  else none
theorem fits_ev {op : BinOp} {k k' : IntKind} {a b : Int} {y : Value} (hf : binFits op k k' y = true) (hy : ∀ kk n, y = .int kk n → n = b) : ∃ v, evB2 op k a k' b = some v ∧ (if isCmp op = true then ∃ c, v = .bool c else ∃ c, v = .int k c) := by
  cases op <;> simp only [binFits, Bool.and_eq_true, decide_eq_true_eq] at hf
  case shl => split at hf <;> first | (rename_i kk n; have := hy kk n rfl; subst this; simp at hf; exact ⟨_, by simp [evB2, isShift, evB, show ¬ n < 0 by omega]; rfl, by simp [isCmp]⟩) | cases hf
  case shr => split at hf <;> first | (rename_i kk n; have := hy kk n rfl; subst this; simp at hf; exact ⟨_, by simp [evB2, isShift, evB, show ¬ n < 0 by omega]; rfl, by simp [isCmp]⟩) | cases hf
  case quo =>
    obtain ⟨rfl, hf⟩ := hf
    split at hf <;> first | (rename_i kk n; have := hy kk n rfl; subst this; simp at hf; exact ⟨_, by simp [evB2, evB, hf]; rfl, by simp [isCmp]⟩) | cases hf
  case rem =>
    obtain ⟨rfl, hf⟩ := hf
    split at hf <;> first | (rename_i kk n; have := hy kk n rfl; subst this; simp at hf; exact ⟨_, by simp [evB2, evB, hf]; rfl, by simp [isCmp]⟩) | cases hf
  all_goals (subst hf; exact ⟨_, by simp [evB2, evB]; rfl, by simp [isCmp]⟩)
theorem symBin_ok {P : Program} {H : Know} (hH : KnowOk ρ H) {op : BinOp} {x y v x' y' : Value} (hv : symBin H op x y = some v) (hx : VR (den ρ) β x x') (hy : VR (den ρ) β y y') (T : TypeId) :
    ∃ v', VR (den ρ) β v v' ∧ ∀ (ox oy : Operand) w, (do eqGuard op T ox oy x' y'; binOp op T x' y').run P w = .ok v' w := by
  unfold symBin at hv
  cases hb : (isSym x || isSym y) with
  | false => rw [hb] at hv; cases hv
  | true =>
    rw [hb] at hv
    simp only [cond_true] at hv
    split at hv
    rotate_left
    · cases hv
    rename_i k k' hk hk'
    cases hf : binFits op k k' y with
    | false => rw [hf] at hv; cases hv
    | true =>
      rw [hf] at hv
      simp only [cond_true, Option.some.injEq] at hv
      subst hv
      obtain ⟨a, rfl, ha⟩ := vr_kind hx hk
      obtain ⟨b, rfl, hbb⟩ := vr_kind hy hk'
      obtain ⟨v, hv1, hv2⟩ := fits_ev (a := a) (b := b) hf (fun kk n e => by
        subst e
        cases hy with
        | sym _ _ h1 => cases h1
        | int => rfl)
      have hd : den ρ (symNode op k x y) = some v := by
        unfold symNode
        cases hc : isCmp op with
        | true =>
          rw [hc] at hv2
          simp only [if_true] at hv2
          obtain ⟨c, rfl⟩ := hv2
          simp only [cond_true, den, dens, ha, hbb, denN, bdec_bcode, hv1, asB]
        | false =>
          rw [hc] at hv2
          simp only [Bool.false_eq_true, if_false] at hv2
          obtain ⟨c, rfl⟩ := hv2
          simp only [cond_false, den, dens, ha, hbb, denN, bdec_bcode, hv1, asKind, if_true]
      have hsc : scalar v = true := by
        split at hv2
        · obtain ⟨c, rfl⟩ := hv2; rfl
        · obtain ⟨c, rfl⟩ := hv2; rfl
      refine ⟨v, resolve_ok hH rfl hd hsc, fun ox oy w => ?_⟩
      have hg := guard_run (P := P) (op := op) (T := T) (x := ox) (y := oy) (a := .int k a) (b := .int k' b) (w := w) (by simp)
      simp only [Sem.run_bind, hg, Result.andThen, evB2_run hv1]
def symConv (H : Know) (k : IntKind) (x : Value) : Option Value :=
  bif isSym x then (match mkOf x with | some _ => some (resolve' H (.func (.yield 100) ⟨[.int k 0, x]⟩ ⟨[]⟩)) | none => none) else none
theorem symConv_ok {P : Program} {H : Know} (hH : KnowOk ρ H) {k : IntKind} {x v x' : Value} (hv : symConv H k x = some v) (hx : VR (den ρ) β x x') {src dst : TypeId} (h1 : P.underlying dst = some (.int k)) (h2 : ∃ j, P.underlying src = some (.int j)) :
    ∃ v', VR (den ρ) β v v' ∧ ∀ w, (convert src dst x').run P w = .ok v' w := by
  obtain ⟨j, h2⟩ := h2
  unfold symConv at hv
  cases hb : isSym x with
  | false => rw [hb] at hv; cases hv
  | true =>
    rw [hb] at hv
    simp only [cond_true] at hv
    split at hv
    rotate_left
    · cases hv
    rename_i kx hk
    simp only [Option.some.injEq] at hv
    subst hv
    obtain ⟨a, rfl, ha⟩ := vr_kind hx hk
    refine ⟨.int k (k.wrap a), resolve_ok hH rfl (by simp [den, dens, ha, denN]) rfl, fun w => ?_⟩
    simp [convert, run_underlying h1, run_underlying h2, Result.andThen, Conv.intToInt]
def symUn (H : Know) (op : UnOp) (x : Value) : Option Value :=
  match op with
  | .neg => bif isSym x then (match mkOf x with | some k => some (resolve' H (.func (.yield 101) ⟨[.int k 0, x]⟩ ⟨[]⟩)) | none => none) else none
  | _ => none
theorem symUn_ok {P : Program} {H : Know} (hH : KnowOk ρ H) {op : UnOp} {x v x' : Value} (hv : symUn H op x = some v) (hx : VR (den ρ) β x x') : ∃ v', VR (den ρ) β v v' ∧ ∀ w, (Op.unary op x').run P w = .ok v' w := by
  unfold symUn at hv
  split at hv
  rotate_left
  · cases hv
  cases hb : isSym x with
  | false => rw [hb] at hv; cases hv
  | true =>
    rw [hb] at hv
    simp only [cond_true] at hv
    split at hv
    rotate_left
    · cases hv
    rename_i k hk
    simp only [Option.some.injEq] at hv
    subst hv
    obtain ⟨a, rfl, ha⟩ := vr_kind hx hk
    refine ⟨.int k (k.wrap (0 - a)), resolve_ok hH rfl (by simp [den, dens, ha, denN]) rfl, fun w => ?_⟩
    simp [Op.unary, Op.intArith]
end
structure Tab (P : Program) where
  f : FuncId → List Value → Option Value
  need : Globs
  needI : List Nat := []
  ok : ∀ f' xs v, f f' xs = some v → pf v = true ∧ ∀ D β xs' w, NeedOk need w ∧ NeedI needI w → LR D β xs xs' → Calls P f' xs'.toArray w fun e w' => e = .returned v ∧ Below w.heap.size w w'
def Tab.none (P : Program) : Tab P := ⟨fun _ _ => Option.none, [], [], fun _ _ _ h => by cases h⟩
def Tab.one' (P : Program) (g : FuncId) (u : Value) (G : Globs) (hu : pf u = true) (h : ∀ w, NeedOk G w → Calls P g #[] w fun e w' => e = .returned u ∧ Below w.heap.size w w') : Tab P :=
  ⟨fun f' xs => bif f'.beq g then (match xs with | [] => some u | _ => Option.none) else Option.none, G, [], fun f' xs v hv => by
    cases hb : Nat.beq f' g with
    | false => rw [hb] at hv; cases hv
    | true =>
      rw [hb] at hv
      simp only [cond_true] at hv
      split at hv
      · simp only [Option.some.injEq] at hv
        subst hv
        have := Nat.eq_of_beq_eq_true hb
        subst this
        refine ⟨hu, fun D β xs' w hN hl => ?_⟩
        have : xs' = [] := by have := hl.1; simp at this; exact List.length_eq_zero_iff.1 this.symm
        subst this
        exact h w hN.1
      · cases hv⟩
def Tab.one (P : Program) (g : FuncId) (u : Value) (hu : pf u = true) (h : ∀ w, Calls P g #[] w fun e w' => e = .returned u ∧ Below w.heap.size w w') : Tab P := Tab.one' P g u [] hu (fun w _ => h w)
def Tab.and {P : Program} (s t : Tab P) (hst : s.need = t.need) (hsi : s.needI = t.needI := by rfl) : Tab P :=
  ⟨fun f xs => match s.f f xs with | some v => some v | Option.none => t.f f xs, s.need, s.needI, fun f xs v hv => by
    split at hv
    · rename_i u hu
      simp only [Option.some.injEq] at hv
      subst hv
      exact s.ok f xs u hu
    · rw [hst, hsi]; exact t.ok f xs v hv⟩
def mark (k : IntKind) (i : Int) : Value := .func (.yield 0) ⟨[.int k i]⟩ ⟨[]⟩
theorem mark_vr (ρ : Int → Int) (β : Place) (k : IntKind) (i : Int) : VR (den ρ) β (mark k i) (.int k (ρ i)) := .sym _ _ rfl (by simp [mark, den, dens, denN]) rfl
def isMk : Value → Bool
  | .func (.yield 0) ⟨[.int .i64 _]⟩ ⟨[]⟩ => true
  | _ => false
theorem isMk_ok (ρ : Int → Int) (v : Value) (h : isMk v = true) (β : Place) (v' : Value) (hv : VR (den ρ) β v v') : ∃ a, v' = .int .i64 a := by
  unfold isMk at h
  split at h
  · rename_i i
    cases hv with
    | sym _ _ h1 h2 h3 =>
      have h4 : den ρ (mark .i64 i) = some (.int .i64 (ρ i)) := by simp [mark, den, dens, denN]
      rw [show Value.func (.yield 0) ⟨[.int .i64 i]⟩ ⟨[]⟩ = mark .i64 i from rfl, h4] at h2
      exact ⟨_, (Option.some.inj h2).symm⟩
  · cases h
def Sy.ints (P : Program) (ρ : Int → Int) (H : Know) (hH : KnowOk ρ H) (t : Tab P) (ng : Nat := 0) : Sy P (den ρ) where
  gl := fun g => g.blt ng
  bin := fun op _ => symBin H op
  binOk := fun op T x y v hv β x' y' hx hy => symBin_ok hH hv hx hy T
  un := symUn H
  unOk := fun op x v hv β x' hx => symUn_ok hH hv hx
  conv := symConv H
  convOk := fun k x v hv β x' hx src dst h1 h2 => symConv_ok hH hv hx h1 h2
  tab := t.f
  need := t.need
  needI := t.needI
  isI := isMk
  isIOk := fun v h β v' hv => isMk_ok ρ v h β v' hv
  tabOk := fun f xs v hv => let ⟨h1, h2⟩ := t.ok f xs v hv; ⟨h1, fun β xs' w hN hl => h2 _ β xs' w hN hl⟩
end Go.Proofs.YtmmpkkpmlaiapaaGreatDoor
namespace Go.Proofs.YtmmpkkpmlaiapaaGreatDoor
open Go.RowKit
set_option linter.unusedVariables false
end Go.Proofs.YtmmpkkpmlaiapaaGreatDoor
namespace Go.Proofs.YtmmpkkpmlaiapaaGreatDoor
open Go.RowKit
set_option linter.unusedVariables false
def cv (k : IntKind) (x : Value) : Value := .func (.yield 100) ⟨[.int k 0, x]⟩ ⟨[]⟩
theorem den_cv {ρ : Int → Int} {k k1 : IntKind} {x : Value} {a : Int} (h : den ρ x = some (.int k1 a)) : den ρ (cv k x) = some (.int k (k.wrap a)) := by
  simp [cv, den, dens, h, denN]
theorem den_cmp {ρ : Int → Int} {op : BinOp} {k k1 k2 : IntKind} {x y : Value} {a b : Int} {c : Bool} (hc : isCmp op = true) (hx : den ρ x = some (.int k1 a)) (hy : den ρ y = some (.int k2 b)) (h : evB2 op k1 a k2 b = some (.bool c)) : den ρ (symNode op k x y) = some (.bool c) := by
  simp [symNode, hc, den, dens, hx, hy, denN, bdec_bcode, h, asB]
theorem den_lit (ρ : Int → Int) (k : IntKind) (n : Int) : den ρ (.int k n) = some (.int k n) := by simp [den]
theorem den_mark (ρ : Int → Int) (k : IntKind) (i : Int) : den ρ (mark k i) = some (.int k (ρ i)) := by simp [mark, den, dens, denN]
section
variable {ρ : Int → Int}
end
end Go.Proofs.YtmmpkkpmlaiapaaGreatDoor
namespace Go.Proofs.YtmmpkkpmlaiapaaGreatDoor
open Go.RowKit
set_option linter.unusedVariables false
theorem mixed : Tryz.prog.follows .mixedOrders = true := by kernel_rfl
def regT : List (List UInt8) := [[97, 108], [97, 120], [101, 97, 120], [114, 97, 120], [99, 108], [99, 120], [101, 99, 120], [114, 99, 120], [100, 108], [100, 120], [101, 100, 120], [114, 100, 120], [98, 108], [98, 120], [101, 98, 120], [114, 98, 120], [115, 112, 108], [115, 112], [101, 115, 112], [114, 115, 112], [98, 112, 108], [98, 112], [101, 98, 112], [114, 98, 112], [115, 105, 108], [115, 105], [101, 115, 105], [114, 115, 105], [100, 105, 108], [100, 105], [101, 100, 105], [114, 100, 105], [114, 56, 98], [114, 56, 119], [114, 56, 100], [114, 56], [114, 57, 98], [114, 57, 119], [114, 57, 100], [114, 57], [114, 49, 48, 98], [114, 49, 48, 119], [114, 49, 48, 100], [114, 49, 48], [114, 49, 49, 98], [114, 49, 49, 119], [114, 49, 49, 100], [114, 49, 49], [114, 49, 50, 98], [114, 49, 50, 119], [114, 49, 50, 100], [114, 49, 50], [114, 49, 51, 98], [114, 49, 51, 119], [114, 49, 51, 100], [114, 49, 51], [114, 49, 52, 98], [114, 49, 52, 119], [114, 49, 52, 100], [114, 49, 52], [114, 49, 53, 98], [114, 49, 53, 119], [114, 49, 53, 100], [114, 49, 53]]
def regN (r k : Nat) : List UInt8 := regT.getD (r * 4 + k) []
theorem reg_of (w : World) (hN : NeedOk gs w ∧ gn ≤ w.heap.size) (r x : Int) (v : List UInt8) (h : (vcall (Sy.none Tryz.prog (fun _ => none) gn) 100000 60 gn 55 [.int .i64 r, .int .i64 x] (globW gn gs)).map (·.1) = some (.string ⟨⟨v⟩⟩)) :
    Calls Tryz.prog 55 #[.int .i64 r, .int .i64 x] w fun e w' => e = .returned (.string ⟨⟨v⟩⟩) ∧ Below w.heap.size w w' :=
  vrunG _ mixed 100000 60 55 gn gs _ _ _ (fun g hg => Nat.blt_eq.mp hg) w hN.2 gs_ok hN.1 (fun _ => LR.of_pfs rfl) rfl h
def sizeIs (n : Nat) : Value := symNode .eql .i64 (mark .i64 0) (.int .i64 n)
def knowS : Know := [(sizeIs 8, .bool false), (sizeIs 4, .bool false), (sizeIs 2, .bool false), (sizeIs 1, .bool false)]
theorem knowS_ok {x : Int} (h : x ≠ 8 ∧ x ≠ 4 ∧ x ≠ 2 ∧ x ≠ 1) : KnowOk (fun _ => x) knowS := by
  intro p hp
  obtain ⟨h1, h2, h3, h4⟩ := h
  simp only [knowS, List.mem_cons, List.mem_nil_iff, or_false] at hp
  rcases hp with rfl | rfl | rfl | rfl <;> refine ⟨den_cmp rfl (den_mark _ _ _) (den_lit _ _ _) ?_, rfl⟩ <;> simp [evB2, isShift, evB, *]
theorem reg_other (w : World) (hN : NeedOk gs w ∧ gn ≤ w.heap.size) (r x : Int) (hx : x ≠ 8 ∧ x ≠ 4 ∧ x ≠ 2 ∧ x ≠ 1) (h : (vcall (Sy.ints Tryz.prog (fun _ => x) knowS (knowS_ok hx) (Tab.none _) gn) 100000 60 gn 55 [.int .i64 r, mark .i64 0] (globW gn gs)).map (·.1) = some (.string ⟨⟨[]⟩⟩)) :
    Calls Tryz.prog 55 #[.int .i64 r, .int .i64 x] w fun e w' => e = .returned (.string ⟨⟨[]⟩⟩) ∧ Below w.heap.size w w' :=
  vrunG _ mixed 100000 60 55 gn gs _ [.int .i64 r, .int .i64 x] _ (fun g hg => Nat.blt_eq.mp hg) w hN.2 gs_ok hN.1 (fun β => LR.cons (.int .i64 r) (LR.cons (mark_vr (fun _ => x) β .i64 0) LR.nil)) rfl h
end Go.Proofs.YtmmpkkpmlaiapaaGreatDoor
namespace Go.Proofs.YtmmpkkpmlaiapaaGreatDoor
open Go.RowKit
set_option linter.unusedVariables false
def Tab.fnT (P : Program) (g : FuncId) (F : List Value → Option Value) (hF : ∀ xs v, F xs = some v → pf v = true ∧ pfs xs = true ∧ ∀ w, Calls P g xs.toArray w fun e w' => e = .returned v ∧ Below w.heap.size w w') : Tab P :=
  ⟨fun f' xs => bif f'.beq g then F xs else Option.none, [], [], fun f' xs v hv => by
    cases hb : Nat.beq f' g with
    | false => rw [hb] at hv; cases hv
    | true =>
      rw [hb] at hv
      simp only [cond_true] at hv
      have := Nat.eq_of_beq_eq_true hb
      subst this
      obtain ⟨h1, h2, h3⟩ := hF xs v hv
      refine ⟨h1, fun D β xs' w _ hl => ?_⟩
      rw [pfs_LR_eq h2 hl]
      exact h3 w⟩
def idxF : List Value → Option Value
  | [.string s, .string p] => (match p.data.toList with
    | [c] => some (.int .i64 (Lib.indexByte s.data.toList c))
    | _ => none)
  | _ => none
def cntF : List Value → Option Value
  | [.string s, .string p] => (match p.data.toList with
    | [c] => some (.int .i64 (Lib.countByte s.data.toList c : Nat))
    | _ => none)
  | _ => none
theorem one_byte {p : ByteArray} {c : UInt8} (h : p.data.toList = [c]) : p = ⟨#[c]⟩ := by
  obtain ⟨⟨l⟩⟩ := p
  simp only at h
  subst h
  rfl
theorem idxF_ok (f : FuncId) (hf : ∀ (s : ByteArray) (c : UInt8) (w : World), Calls Tryz.prog f #[.string s, .string ⟨#[c]⟩] w fun e w' => e = .returned (.int .i64 (Lib.indexByte s.data.toList c)) ∧ w' = w) :
    ∀ xs v, idxF xs = some v → pf v = true ∧ pfs xs = true ∧ ∀ w, Calls Tryz.prog f xs.toArray w fun e w' => e = .returned v ∧ Below w.heap.size w w' := by
  intro xs v hv
  unfold idxF at hv
  split at hv
  · split at hv
    · rename_i h
      simp only [Option.some.injEq] at hv
      subst hv
      obtain rfl := one_byte h
      refine ⟨rfl, rfl, fun w => (hf _ _ w).mono ?_⟩
      rintro e w' ⟨rfl, rfl⟩
      exact ⟨rfl, Below.refl _ _⟩
    · cases hv
  · cases hv
theorem cntF_ok (f : FuncId) (hf : ∀ (s : ByteArray) (c : UInt8) (w : World), Calls Tryz.prog f #[.string s, .string ⟨#[c]⟩] w fun e w' => e = .returned (.int .i64 (Lib.countByte s.data.toList c : Nat)) ∧ w' = w) :
    ∀ xs v, cntF xs = some v → pf v = true ∧ pfs xs = true ∧ ∀ w, Calls Tryz.prog f xs.toArray w fun e w' => e = .returned v ∧ Below w.heap.size w w' := by
  intro xs v hv
  unfold cntF at hv
  split at hv
  · split at hv
    · rename_i h
      simp only [Option.some.injEq] at hv
      subst hv
      obtain rfl := one_byte h
      refine ⟨rfl, rfl, fun w => (hf _ _ w).mono ?_⟩
      rintro e w' ⟨rfl, rfl⟩
      exact ⟨rfl, Below.refl _ _⟩
    · cases hv
  · cases hv
def tabX : Tab Tryz.prog := Tab.and (Tab.fnT Tryz.prog 67 idxF (idxF_ok _ Tryz.stringslite_Index_one)) (Tab.and (Tab.fnT Tryz.prog 75 idxF (idxF_ok _ Tryz.strings_Index_one)) (Tab.fnT Tryz.prog 74 cntF (cntF_ok _ Tryz.strings_Count_one)) rfl) rfl
theorem know_nilT : KnowOk (fun _ => 0) [] := fun p h => by cases h
theorem fit_vm (w : World) (hN : NeedOk gs w ∧ gn ≤ w.heap.size) : Calls Tryz.prog 6 #[] w fun e w' => e = .returned (.bool true) ∧ Below w.heap.size w w' :=
  vrunG (Sy.ints Tryz.prog (fun _ => 0) [] know_nilT tabX gn) mixed 100000 60 6 gn gs [] [] (.bool true) (fun g hg => Nat.blt_eq.mp hg) w hN.2 gs_ok hN.1 (fun _ => LR.of_pfs rfl) rfl (by kernel_rfl)
end Go.Proofs.YtmmpkkpmlaiapaaGreatDoor
namespace Go.Proofs.YtmmpkkpmlaiapaaGreatDoor
open Go.ChangeShapes Go.WideShapes Go.RowKit
set_option linter.unusedVariables false
theorem iface_cell {P : Program} {w : World} {l : List (String × DataW Unit)} (h : laidMetH P l w) {n nm : String} {d : DataW Unit} (hm : (n, DataW.iface nm d) ∈ l) (hh : (DataW.iface nm d).handleName?.isNone = true) {g t : Nat} {ms : Array (String × TypeId)} (hg : P.globalNamed n = some g) (ht : (P.globals[g]?).map (·.type) = some t)
    (hT : P.underlying t = some (.interface ms)) : ∃ u v, w.cell? ⟨g, 0, none⟩ = some (.iface u v) := by
  have h1 := (laidMetH_iff.1 h).1
  have hm' : (n, DataW.iface nm d) ∈ l.filter fun x => x.2.handleName?.isNone := List.mem_filter.2 ⟨hm, hh⟩
  obtain ⟨ps, hl, _, _⟩ := h1
  obtain ⟨g', t', cs, f, p, q, e1, e2, e3, e4, _⟩ := laidVars_mem hl n _ hm'
  obtain rfl := Option.some.inj (e1.symm.trans hg)
  obtain rfl := Option.some.inj (e2.symm.trans ht)
  obtain ⟨f', u, v, hcs, _⟩ := iface_of_trod hT e4
  refine ⟨u, v, ?_⟩
  rw [World.var?_cell e1 e3 0]
  have : cs.toList[0]? = some (.iface u v) := by rw [hcs]; rfl
  simpa using this
theorem rd_ok {W : World} (h : laidMetH Tryz.prog laidS W) (hI : ∃ m, W.cell? ⟨0, 0, none⟩ = some (.int .i64 m)) : RdOk W := by
  refine ⟨hI, ?_, ?_, pow_ok h⟩
  · obtain ⟨u, v, e⟩ := iface_cell h (n := "strconv.ErrSyntax") (nm := "*errors.errorString") (d := .ptr (.agg [.lit (.string [105, 110, 118, 97, 108, 105, 100, 32, 115, 121, 110, 116, 97, 120])])) (g := 6) (by unfold laidS; simp [Rows.laid_strconv_ErrSyntax]) (by kernel_rfl) (by kernel_rfl) rfl Tryz.underlying79
    exact ⟨_, e, Or.inr ⟨u, v, rfl⟩⟩
  · obtain ⟨u, v, e⟩ := iface_cell h (n := "strconv.ErrRange") (nm := "*errors.errorString") (d := .ptr (.agg [.lit (.string [118, 97, 108, 117, 101, 32, 111, 117, 116, 32, 111, 102, 32, 114, 97, 110, 103, 101])])) (g := 7) (by unfold laidS; simp [Rows.laid_strconv_ErrRange]) (by kernel_rfl) (by kernel_rfl) rfl Tryz.underlying79
    exact ⟨_, e, Or.inr ⟨u, v, rfl⟩⟩
end Go.Proofs.YtmmpkkpmlaiapaaGreatDoor
