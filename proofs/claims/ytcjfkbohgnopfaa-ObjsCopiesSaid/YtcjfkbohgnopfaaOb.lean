/- ObjsBack: a number's bytes, by marks. No condition. -/
import Derived.Test.YtcjfkbohgnopfaaVmK
import Derived.Test.YtcjfkbohgnopfaaFit06
namespace Go.Proofs.Ytcjfkbohgnopfaa
open Go.RowKit
set_option linter.unusedVariables false
def cv (k : IntKind) (x : Value) : Value := .func (.yield 100) ⟨[.int k 0, x]⟩ ⟨[]⟩
theorem den_cv {ρ : Int → Int} {k k1 : IntKind} {x : Value} {a : Int} (h : den ρ x = some (.int k1 a)) : den ρ (cv k x) = some (.int k (k.wrap a)) := by
  simp [cv, den, dens, h, denN]
theorem den_node {ρ : Int → Int} {op : BinOp} {k k1 k2 : IntKind} {x y : Value} {a b c : Int} (hc : isCmp op = false) (hx : den ρ x = some (.int k1 a)) (hy : den ρ y = some (.int k2 b)) (h : evB2 op k1 a k2 b = some (.int k c)) : den ρ (symNode op k x y) = some (.int k c) := by
  simp [symNode, hc, den, dens, hx, hy, denN, bdec_bcode, h, asKind]
theorem den_cmp {ρ : Int → Int} {op : BinOp} {k k1 k2 : IntKind} {x y : Value} {a b : Int} {c : Bool} (hc : isCmp op = true) (hx : den ρ x = some (.int k1 a)) (hy : den ρ y = some (.int k2 b)) (h : evB2 op k1 a k2 b = some (.bool c)) : den ρ (symNode op k x y) = some (.bool c) := by
  simp [symNode, hc, den, dens, hx, hy, denN, bdec_bcode, h, asB]
theorem den_lit (ρ : Int → Int) (k : IntKind) (n : Int) : den ρ (.int k n) = some (.int k n) := by simp [den]
theorem den_mark (ρ : Int → Int) (k : IntKind) (i : Int) : den ρ (mark k i) = some (.int k (ρ i)) := by simp [mark, den, dens, denN]
theorem or_add (a b : Nat) (k c : Nat) (ha : a < 2 ^ k) (hb : b = c * 2 ^ k) (hlt : a + b < 2 ^ 64) : evB2 .or .u64 a .u64 b = some (.int .u64 ((a + b : Nat) : Int)) := by
  have e : (BitVec.ofInt 64 (a : Int) ||| BitVec.ofInt 64 (b : Int)).toNat = a + b := by
    rw [BitVec.ofInt_natCast, BitVec.ofInt_natCast, BitVec.toNat_or, BitVec.toNat_ofNat, BitVec.toNat_ofNat, Nat.mod_eq_of_lt (by omega), Nat.mod_eq_of_lt (by omega)]
    have := Nat.two_pow_add_eq_or_of_lt ha c
    rw [hb, Nat.or_comm, Nat.mul_comm c, ← this, Nat.add_comm]
  show some (Value.int .u64 (IntKind.u64.wrap ((BitVec.ofInt 64 (a : Int) ||| BitVec.ofInt 64 (b : Int)).toNat : Nat))) = _
  rw [e, IntWalk.u64_in _ (by omega)]
def sh (i : Nat) : Value := symNode .shr .i64 (mark .i64 2) (.int .i64 ((8 * i : Nat) : Int))
def bN (i : Nat) : Value := cv .u8 (sh i)
def acc : Nat → Value
  | 0 => .int .u64 0
  | i + 1 => symNode .or .u64 (acc i) (symNode .shl .u64 (cv .u64 (bN i)) (.int .i64 ((8 * i : Nat) : Int)))
section
variable {ρ : Int → Int}
theorem ev_shr (k : IntKind) (a : Int) (s : Nat) (hs : s ≤ k.bits) : evB2 .shr k a .i64 (s : Nat) = some (.int k (a / 2 ^ s)) := by
  have h0 : ¬ ((s : Nat) : Int) < 0 := by omega
  have hm : min s k.bits = s := Nat.min_eq_left hs
  simp only [evB2, isShift, true_or, if_true, evB, h0, if_false, Int.toNat_natCast, hm]
  rw [Int.fdiv_eq_ediv_of_nonneg _ (Int.le_of_lt (Int.pow_pos (by decide)))]
theorem ev_shl (k : IntKind) (a : Int) (s : Nat) (hs : s ≤ k.bits) : evB2 .shl k a .i64 (s : Nat) = some (.int k (k.wrap (a * 2 ^ s))) := by
  have h0 : ¬ ((s : Nat) : Int) < 0 := by omega
  have hm : min s k.bits = s := Nat.min_eq_left hs
  simp only [evB2, isShift, true_or, if_true, evB, h0, if_false, Int.toNat_natCast, hm]
theorem den_bN (i : Nat) (hi : i < 8) : den ρ (bN i) = some (.int .u8 ((ρ 2) / 2 ^ (8 * i) % 256)) := by
  have h1 : den ρ (sh i) = some (.int .i64 ((ρ 2) / 2 ^ (8 * i))) := den_node rfl (den_mark _ _ _) (den_lit _ _ _) (ev_shr .i64 _ _ (by show 8 * i ≤ 64; omega))
  rw [bN, den_cv h1, IntKind.wrap_u8]
theorem acc_step (i : Nat) (hi : i < 8) (lo by_ : Nat) (h : den ρ (acc i) = some (.int .u64 (lo : Int))) (hlo : lo < 2 ^ (8 * i)) (hby : (ρ 2) / 2 ^ (8 * i) % 256 = (by_ : Int)) (hlt : lo + by_ * 2 ^ (8 * i) < 2 ^ 64) (hb : by_ < 256) :
    den ρ (acc (i + 1)) = some (.int .u64 ((lo + by_ * 2 ^ (8 * i) : Nat) : Int)) := by
  have h1 := den_bN (ρ := ρ) i hi
  rw [hby] at h1
  have h2 : den ρ (cv .u64 (bN i)) = some (.int .u64 (by_ : Int)) := by
    rw [den_cv h1, IntWalk.u64_in _ (by omega)]
  have h3 : den ρ (symNode .shl .u64 (cv .u64 (bN i)) (.int .i64 ((8 * i : Nat) : Int))) = some (.int .u64 ((by_ * 2 ^ (8 * i) : Nat) : Int)) := by
    refine den_node rfl h2 (den_lit _ _ _) ?_
    rw [ev_shl .u64 _ _ (by show 8 * i ≤ 64; omega)]
    have e : ((by_ : Nat) : Int) * 2 ^ (8 * i) = ((by_ * 2 ^ (8 * i) : Nat) : Int) := by
      rw [Int.natCast_mul, Int.natCast_pow]; rfl
    rw [e, IntWalk.u64_in _ (by omega)]
  exact den_node rfl h h3 (or_add lo _ (8 * i) by_ hlo rfl hlt)
theorem den_acc : ∀ i, i ≤ 8 → den ρ (acc i) = some (.int .u64 (((ρ 2) % 2 ^ (8 * i)).toNat : Int)) := by
  intro i hi
  have key : ∀ i, i < 8 → den ρ (acc i) = some (.int .u64 (((ρ 2) % 2 ^ (8 * i)).toNat : Int)) → den ρ (acc (i + 1)) = some (.int .u64 (((ρ 2) % 2 ^ (8 * (i + 1))).toNat : Int)) := by
    intro i hi h
    have hp : (0 : Int) < 2 ^ (8 * i) := Int.pow_pos (by decide)
    have hc : ((2 ^ (8 * i) : Nat) : Int) = 2 ^ (8 * i) := by rw [Int.natCast_pow]; rfl
    have h1 : 0 ≤ (ρ 2) % 2 ^ (8 * i) := Int.emod_nonneg _ (by omega)
    have h2 : (ρ 2) % 2 ^ (8 * i) < 2 ^ (8 * i) := Int.emod_lt_of_pos _ hp
    have h3 : 0 ≤ (ρ 2) / 2 ^ (8 * i) % 256 := by omega
    have h4 : (ρ 2) / 2 ^ (8 * i) % 256 < 256 := by omega
    have hfin : (((ρ 2) % 2 ^ (8 * i)).toNat + ((ρ 2) / 2 ^ (8 * i) % 256).toNat * 2 ^ (8 * i) : Nat) = ((ρ 2) % 2 ^ (8 * (i + 1))).toNat ∧ ((ρ 2) % 2 ^ (8 * i)).toNat + ((ρ 2) / 2 ^ (8 * i) % 256).toNat * 2 ^ (8 * i) < 2 ^ 64 := by
      have hcase : i = 0 ∨ i = 1 ∨ i = 2 ∨ i = 3 ∨ i = 4 ∨ i = 5 ∨ i = 6 ∨ i = 7 := by omega
      generalize ρ 2 = n
      rcases hcase with rfl | rfl | rfl | rfl | rfl | rfl | rfl | rfl <;> simp only [Nat.reduceMul, Nat.reduceAdd, Nat.reducePow, Int.reducePow] <;> omega
    rw [← hfin.1]
    exact acc_step i hi _ _ h (by omega) (by omega) hfin.2 (by omega)
  induction i with
  | zero => simp [acc, den]
  | succ i ih => exact key i (by omega) (ih (by omega))
end
end Go.Proofs.Ytcjfkbohgnopfaa
