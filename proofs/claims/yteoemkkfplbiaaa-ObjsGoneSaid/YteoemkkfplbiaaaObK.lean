/- ObjsBack: what is known of its numbers. No condition. -/
import Derived.Test.YteoemkkfplbiaaaOb
namespace Go.Proofs.Yteoemkkfplbiaaa
open Go.RowKit
set_option linter.unusedVariables false
theorem some_int {a b : Int} (h : a = b) : (some (Value.int .i64 a) : Option Value) = some (.int .i64 b) := by rw [h]
section
variable {ρ : Int → Int}
/-- a byte that was stored, loaded by itself -/
def lone (i : Nat) : Value := cv .i64 (symNode .or .u64 (.int .u64 0) (symNode .shl .u64 (cv .u64 (bN i)) (.int .i64 0)))
def neqT (i : Nat) : Value := symNode .neq .i64 (lone i) (symNode .and .i64 (sh i) (.int .i64 255))
theorem den_lone (i : Nat) (hi : i < 8) : den ρ (lone i) = some (.int .i64 ((ρ 2) / 2 ^ (8 * i) % 256)) := by
  obtain ⟨c, hc, hlt⟩ : ∃ c : Nat, (ρ 2) / 2 ^ (8 * i) % 256 = (c : Int) ∧ c < 256 := ⟨((ρ 2) / 2 ^ (8 * i) % 256).toNat, by omega, by omega⟩
  have h1 := den_bN (ρ := ρ) i hi
  rw [hc] at h1 ⊢
  have h2 : den ρ (cv .u64 (bN i)) = some (.int .u64 (c : Int)) := by rw [den_cv h1, IntWalk.u64_in _ (by omega)]
  have h3 : den ρ (symNode .shl .u64 (cv .u64 (bN i)) (.int .i64 0)) = some (.int .u64 (c : Int)) := by
    refine den_node rfl h2 (den_lit _ _ _) ?_
    have := ev_shl .u64 (c : Int) 0 (by decide)
    rw [show ((0 : Nat) : Int) = 0 from rfl] at this
    rw [this, Int.pow_zero, Int.mul_one, IntWalk.u64_in _ (by omega)]
  have h4 : den ρ (symNode .or .u64 (.int .u64 0) (symNode .shl .u64 (cv .u64 (bN i)) (.int .i64 0))) = some (.int .u64 (c : Int)) := by
    refine den_node rfl (den_lit _ _ _) h3 ?_
    have := or_add 0 c 0 c (by decide) (by simp) (by omega)
    rw [Nat.zero_add] at this
    exact this
  rw [lone, den_cv h4, IntWalk.i64_in _ (by omega)]
theorem den_neqT (i : Nat) (hi : i < 8) : den ρ (neqT i) = some (.bool false) := by
  have h1 : den ρ (sh i) = some (.int .i64 ((ρ 2) / 2 ^ (8 * i))) := den_node rfl (den_mark _ _ _) (den_lit _ _ _) (ev_shr .i64 _ _ (by show 8 * i ≤ 64; omega))
  have h2 : den ρ (symNode .and .i64 (sh i) (.int .i64 255)) = some (.int .i64 ((ρ 2) / 2 ^ (8 * i) % 256)) := by
    refine den_node rfl h1 (den_lit _ _ _) ?_
    generalize (ρ 2) / 2 ^ (8 * i) = x
    show some (Value.int .i64 (IntKind.i64.wrap ((BitVec.ofInt 64 x &&& BitVec.ofInt 64 255).toNat : Nat))) = _
    have e : (BitVec.ofInt 64 x &&& BitVec.ofInt 64 255).toNat = (BitVec.ofInt 64 x).toNat % 256 := by
      rw [BitVec.toNat_and]; exact Nat.and_two_pow_sub_one_eq_mod _ 8
    rw [e, IntWalk.i64_in _ (by omega)]
    have : (((BitVec.ofInt 64 x).toNat % 256 : Nat) : Int) = x % 256 := by
      rw [Int.natCast_emod, BitVec.toNat_ofInt]
      omega
    rw [this]
  refine den_cmp rfl (den_lone i hi) h2 ?_
  simp [evB2, evB]
/-- the number that is loaded, and the one that is wanted -/
def got (s : Nat) (g : Bool) : Value :=
  bif g then symNode .shr .i64 (symNode .shl .i64 (cv .i64 (acc s)) (.int .i64 ((64 - 8 * s : Nat) : Int))) (.int .i64 ((64 - 8 * s : Nat) : Int)) else cv .i64 (acc s)
def want (s : Nat) (g : Bool) : Value :=
  bif s.beq 8 then mark .i64 2 else bif g then symNode .shr .i64 (symNode .shl .i64 (mark .i64 2) (.int .i64 ((64 - 8 * s : Nat) : Int))) (.int .i64 ((64 - 8 * s : Nat) : Int))
    else cv .i64 (symNode .shr .u64 (symNode .shl .u64 (cv .u64 (mark .i64 2)) (.int .i64 ((64 - 8 * s : Nat) : Int))) (.int .i64 ((64 - 8 * s : Nat) : Int)))
def eqT (s : Nat) (g : Bool) : Value := symNode .eql .i64 (got s g) (want s g)
theorem den_eqT (s : Nat) (g : Bool) (hs : s = 1 ∨ s = 2 ∨ s = 4 ∨ s = 8) (hn : In64 (ρ 2)) : den ρ (eqT s g) = some (.bool true) := by
  have ha := den_acc (ρ := ρ) s (by omega)
  obtain ⟨hn1, hn2⟩ := hn
  have h1 := den_cv (k := .i64) ha
  have hsame : ∃ v : Int, den ρ (got s g) = some (.int .i64 v) ∧ den ρ (want s g) = some (.int .i64 v) := by
    have hk : 64 - 8 * s ≤ 64 := by omega
    cases g
    · refine ⟨_, h1, ?_⟩
      have hu := den_cv (k := .u64) (den_mark ρ .i64 2)
      have hu2 := den_node (op := .shl) rfl hu (den_lit _ .i64 ((64 - 8 * s : Nat) : Int)) (ev_shl .u64 _ _ hk)
      have hu3 := den_node (op := .shr) rfl hu2 (den_lit _ .i64 ((64 - 8 * s : Nat) : Int)) (ev_shr .u64 _ _ hk)
      have hu4 := den_cv (k := .i64) hu3
      rcases hs with rfl | rfl | rfl | rfl
      · show den ρ (cv .i64 _) = _
        rw [hu4]
        simp only [IntKind.wrap_u64, IntKind.wrap_i64, Nat.reduceMul, Nat.reduceSub, Int.reducePow]
        refine some_int ?_
        omega
      · show den ρ (cv .i64 _) = _
        rw [hu4]
        simp only [IntKind.wrap_u64, IntKind.wrap_i64, Nat.reduceMul, Nat.reduceSub, Int.reducePow]
        refine some_int ?_
        omega
      · show den ρ (cv .i64 _) = _
        rw [hu4]
        simp only [IntKind.wrap_u64, IntKind.wrap_i64, Nat.reduceMul, Nat.reduceSub, Int.reducePow]
        refine some_int ?_
        omega
      · show den ρ (mark .i64 2) = _
        rw [den_mark]
        simp only [IntKind.wrap_i64, Nat.reduceMul, Int.reducePow]
        refine some_int ?_
        omega
    · have h2 := den_node (op := .shl) rfl h1 (den_lit _ .i64 ((64 - 8 * s : Nat) : Int)) (ev_shl .i64 _ _ hk)
      have h3 := den_node (op := .shr) rfl h2 (den_lit _ .i64 ((64 - 8 * s : Nat) : Int)) (ev_shr .i64 _ _ hk)
      refine ⟨_, h3, ?_⟩
      have g2 := den_node (op := .shl) rfl (den_mark ρ .i64 2) (den_lit _ .i64 ((64 - 8 * s : Nat) : Int)) (ev_shl .i64 _ _ hk)
      have g3 := den_node (op := .shr) rfl g2 (den_lit _ .i64 ((64 - 8 * s : Nat) : Int)) (ev_shr .i64 _ _ hk)
      rcases hs with rfl | rfl | rfl | rfl
      · show den ρ (symNode .shr .i64 _ _) = _
        rw [g3]
        simp only [IntKind.wrap_i64, Nat.reduceMul, Nat.reduceSub, Int.reducePow]
        refine some_int ?_
        omega
      · show den ρ (symNode .shr .i64 _ _) = _
        rw [g3]
        simp only [IntKind.wrap_i64, Nat.reduceMul, Nat.reduceSub, Int.reducePow]
        refine some_int ?_
        omega
      · show den ρ (symNode .shr .i64 _ _) = _
        rw [g3]
        simp only [IntKind.wrap_i64, Nat.reduceMul, Nat.reduceSub, Int.reducePow]
        refine some_int ?_
        omega
      · show den ρ (mark .i64 2) = _
        rw [den_mark]
        simp only [IntKind.wrap_i64, Nat.reduceMul, Nat.reduceSub, Int.reducePow]
        refine some_int ?_
        omega
  obtain ⟨v, e1, e2⟩ := hsame
  refine den_cmp rfl e1 e2 ?_
  simp [evB2, evB]
end
def three (a b c : Int) : Int → Int := fun i => if i = 0 then a else if i = 1 then b else c
def knowB (r q s : Nat) (g : Bool) : Know := (markMod 0 16, .int .i64 r) :: (markAnd 1 4, .int .i64 q) :: (eqT s g, .bool true) :: (List.range s).map (fun i => (neqT i, .bool false))
theorem knowB_ok {a b n : Int} {r q s : Nat} {g : Bool} (h0 : evB2 .rem .i64 (IntKind.i64.wrap (a.tmod (16 : Nat) + (16 : Nat))) .i64 (16 : Nat) = some (.int .i64 r)) (h1 : evB2 .and .i64 b .i64 ((2 ^ 4 - 1 : Nat) : Int) = some (.int .i64 q))
    (hs : s = 1 ∨ s = 2 ∨ s = 4 ∨ s = 8) (hn : In64 n) : KnowOk (three a b n) (knowB r q s g) := by
  intro p hp
  simp only [knowB, List.mem_cons, List.mem_map, List.mem_range] at hp
  rcases hp with rfl | rfl | rfl | ⟨i, hi, rfl⟩
  · exact ⟨den_mod (by decide) h0, rfl⟩
  · exact ⟨den_and h1, rfl⟩
  · exact ⟨den_eqT s g hs hn, rfl⟩
  · exact ⟨den_neqT i (by omega), rfl⟩
def fitTab : Tab Try.prog := Tab.one Try.prog 8 (.bool true) rfl fit_vm
theorem back_of (a b n : Int) (w : World) (hn : In64 n) (r q s : Nat) (g : Bool) (hs : s = 1 ∨ s = 2 ∨ s = 4 ∨ s = 8) (h0 : evB2 .rem .i64 (IntKind.i64.wrap (a.tmod (16 : Nat) + (16 : Nat))) .i64 (16 : Nat) = some (.int .i64 r)) (h1 : evB2 .and .i64 b .i64 ((2 ^ 4 - 1 : Nat) : Int) = some (.int .i64 q))
    (h : (vcall (Sy.ints Try.prog (three a b n) (knowB r q s g) (knowB_ok h0 h1 hs hn) fitTab) 100000 60 0 3 [mark .i64 0, mark .i64 1, mark .i64 2] (globW 0 [])).map (·.1) = some (.bool true)) :
    Calls Try.prog 3 #[.int .i64 a, .int .i64 b, .int .i64 n] w fun e w' => e = .returned (.bool true) ∧ Below w.heap.size w w' :=
  vrunS _ (fun _ => rfl) mixed 100000 60 3 _ [.int .i64 a, .int .i64 b, .int .i64 n] (.bool true) (fun β => LR.cons (mark_vr (three a b n) β .i64 0) (LR.cons (mark_vr (three a b n) β .i64 1) (LR.cons (mark_vr (three a b n) β .i64 2) LR.nil))) rfl h w
end Go.Proofs.Yteoemkkfplbiaaa
