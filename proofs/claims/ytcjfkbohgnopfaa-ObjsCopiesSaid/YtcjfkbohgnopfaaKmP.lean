/- The machine tells that a pointer of objs is the same as itself. No condition. -/
import Derived.Test.YtcjfkbohgnopfaaKmA
import Derived.Test.YtcjfkbohgnopfaaOb
namespace Go.Proofs.Ytcjfkbohgnopfaa
open Go.RowKit
set_option linter.unusedVariables false
set_option linter.unusedSimpArgs false
theorem ptr_neq (a b c : Int) (ox oy : Operand) (w : World) : (do eqGuard .neq 35 ox oy (.agg #[.int .i64 a, .int .i64 b, .int .i64 c]) (.agg #[.int .i64 a, .int .i64 b, .int .i64 c]); binOp .neq 35 (.agg #[.int .i64 a, .int .i64 b, .int .i64 c]) (.agg #[.int .i64 a, .int .i64 b, .int .i64 c])).run Try.prog w = .ok (.bool false) w := by
  have hg : (eqGuard .neq 35 ox oy (.agg #[.int .i64 a, .int .i64 b, .int .i64 c]) (.agg #[.int .i64 a, .int .i64 b, .int .i64 c])).run Try.prog w = .ok () w := by kernel_rfl
  rw [Sem.run_bind, hg]
  simp only [Result.andThen]
  go_simp
def isK (x : Value) : Bool := match mkOf x with | some k => decide (k = .i64) | none => false
def ptrSame (op : BinOp) (T : TypeId) (x y : Value) : Option Value :=
  match op, x, y with
  | .neq, .agg ⟨[a, b, c]⟩, .agg ⟨[a', b', c']⟩ => bif T.beq 35 && ((teq a a' && (teq b b' && teq c c')) && (isK a && (isK b && isK c))) then some (.bool false) else none
  | _, _, _ => none
def binP (H : Know) (op : BinOp) (T : TypeId) (x y : Value) : Option Value :=
  match symBin H op x y with
  | some v => some v
  | none => ptrSame op T x y
theorem isK_val {ρ : Int → Int} {β : Place} {x x' : Value} (h : VR (den ρ) β x x') (hk : isK x = true) : ∃ n, x' = .int .i64 n ∧ den ρ x = some (.int .i64 n) := by
  unfold isK at hk
  split at hk
  · rename_i k e
    have := of_decide_eq_true hk
    subst this
    exact vr_kind h e
  · cases hk
theorem vr_agg3 {D : Den} {β : Place} {a b c : Value} {x' : Value} (h : VR D β (.agg ⟨[a, b, c]⟩) x') : ∃ a' b' c', x' = .agg #[a', b', c'] ∧ VR D β a a' ∧ VR D β b b' ∧ VR D β c c' := by
  generalize hx : Value.agg ⟨[a, b, c]⟩ = x at h
  cases h with
  | sym _ _ h1 => rw [← hx] at h1; cases h1
  | agg xs ys hl hv =>
    simp only [Value.agg.injEq] at hx
    have hx2 : xs = [a, b, c] := by have := congrArg Array.toList hx; simpa using this.symm
    subst hx2
    match ys, hl, hv with
    | [a', b', c'], _, hv => exact ⟨a', b', c', rfl, hv 0 _ _ rfl rfl, hv 1 _ _ rfl rfl, hv 2 _ _ rfl rfl⟩
  | _ => cases hx
theorem binP_ok {ρ : Int → Int} {H : Know} (hH : KnowOk ρ H) {op : BinOp} {T : TypeId} {x y v : Value} (hv : binP H op T x y = some v) (β : Place) (x' y' : Value) (hx : VR (den ρ) β x x') (hy : VR (den ρ) β y y') :
    ∃ v', VR (den ρ) β v v' ∧ ∀ (ox oy : Operand) w, (do eqGuard op T ox oy x' y'; binOp op T x' y').run Try.prog w = .ok v' w := by
  unfold binP at hv
  split at hv
  · rename_i u e
    obtain rfl := Option.some.inj hv
    exact symBin_ok hH e hx hy T
  · unfold ptrSame at hv
    split at hv
    · rename_i a b c a' b' c' hnone
      cases hc : (T.beq 35 && ((teq a a' && (teq b b' && teq c c')) && (isK a && (isK b && isK c)))) with
      | false => rw [hc] at hv; cases hv
      | true =>
        rw [hc] at hv
        simp only [cond_true, Option.some.injEq] at hv
        subst hv
        simp only [Bool.and_eq_true] at hc
        obtain ⟨hT, ⟨e1, e2, e3⟩, k1, k2, k3⟩ := hc
        obtain rfl := beq_eq hT
        obtain rfl := teq_eq _ _ e1
        obtain rfl := teq_eq _ _ e2
        obtain rfl := teq_eq _ _ e3
        obtain ⟨p, q, r, rfl, p1, q1, r1⟩ := vr_agg3 hx
        obtain ⟨p', q', r', rfl, p2, q2, r2⟩ := vr_agg3 hy
        obtain ⟨i, rfl, i1⟩ := isK_val p1 k1
        obtain ⟨j, rfl, j1⟩ := isK_val q1 k2
        obtain ⟨l, rfl, l1⟩ := isK_val r1 k3
        obtain ⟨i', rfl, i2⟩ := isK_val p2 k1
        obtain ⟨j', rfl, j2⟩ := isK_val q2 k2
        obtain ⟨l', rfl, l2⟩ := isK_val r2 k3
        rw [i1] at i2
        rw [j1] at j2
        rw [l1] at l2
        cases i2
        cases j2
        cases l2
        exact ⟨_, .bool false, fun ox oy w => ptr_neq _ _ _ ox oy w⟩
    · cases hv
noncomputable def Sy.objs (ρ : Int → Int) (H : Know) (hH : KnowOk ρ H) : Sy Try.prog (den ρ) :=
  { Sy.ints Try.prog ρ H hH (Tab.none Try.prog) with
    bin := fun op T x y => binP H op T x y
    binOk := fun op T x y v hv β x' y' hx hy => binP_ok hH hv β x' y' hx hy }
end Go.Proofs.Ytcjfkbohgnopfaa
