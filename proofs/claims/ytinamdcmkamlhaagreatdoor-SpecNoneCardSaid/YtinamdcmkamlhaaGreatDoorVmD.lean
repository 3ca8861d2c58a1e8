/- What marks stand for, node by node. No condition. -/
import Derived.Test.YtinamdcmkamlhaaGreatDoorVmK
namespace Go.Proofs.YtinamdcmkamlhaaGreatDoor
open Go.RowKit
set_option linter.unusedVariables false
def cv (k : IntKind) (x : Value) : Value := .func (.yield 100) ⟨[.int k 0, x]⟩ ⟨[]⟩
theorem den_cv {ρ : Int → Int} {k k1 : IntKind} {x : Value} {a : Int} (h : den ρ x = some (.int k1 a)) : den ρ (cv k x) = some (.int k (k.wrap a)) := by
  simp [cv, den, dens, h, denN]
theorem den_node {ρ : Int → Int} {op : BinOp} {k k1 k2 : IntKind} {x y : Value} {a b c : Int} (hc : isCmp op = false) (hx : den ρ x = some (.int k1 a)) (hy : den ρ y = some (.int k2 b)) (h : evB2 op k1 a k2 b = some (.int k c)) : den ρ (symNode op k x y) = some (.int k c) := by
  simp [symNode, hc, den, dens, hx, hy, denN, bdec_bcode, h, asKind]
theorem den_cmp {ρ : Int → Int} {op : BinOp} {k k1 k2 : IntKind} {x y : Value} {a b : Int} {c : Bool} (hc : isCmp op = true) (hx : den ρ x = some (.int k1 a)) (hy : den ρ y = some (.int k2 b)) (h : evB2 op k1 a k2 b = some (.bool c)) : den ρ (symNode op k x y) = some (.bool c) := by
  simp [symNode, hc, den, dens, hx, hy, denN, bdec_bcode, h, asB]
theorem den_lit (ρ : Int → Int) (k : IntKind) (n : Int) : den ρ (.int k n) = some (.int k n) := by simp [den]
theorem den_mark (ρ : Int → Int) (k : IntKind) (i : Int) : den ρ (mark k i) = some (.int k (ρ i)) := by simp [mark, den, dens, denN]
theorem or_add (a b : Nat) (k c : Nat) (ha : a < 2 ^ k) (hb : b = c * 2 ^ k) (hlt : a + b < 2 ^ 64) : evB2 .or .u64 a .u64 b = some (.int .u64 ((a + b : Nat) : Int)) := by
  have e : (BitVec.ofInt 64 (a : Int) ||| BitVec.ofInt 64 (b : Int)).toNat = a + b := by
    rw [BitVec.ofInt_natCast, BitVec.ofInt_natCast, BitVec.toNat_or, BitVec.toNat_ofNat, BitVec.toNat_ofNat, Nat.mod_eq_of_lt (by omega), Nat.mod_eq_of_lt (by omega)]
    have := Nat.two_pow_add_eq_or_of_lt ha c
    rw [hb, Nat.or_comm, Nat.mul_comm c, ← this, Nat.add_comm]
  show some (Value.int .u64 (IntKind.u64.wrap ((BitVec.ofInt 64 (a : Int) ||| BitVec.ofInt 64 (b : Int)).toNat : Nat))) = _
  rw [e, IntWalk.u64_in _ (by omega)]
section
variable {ρ : Int → Int}
theorem ev_shr (k : IntKind) (a : Int) (s : Nat) (hs : s ≤ k.bits) : evB2 .shr k a .i64 (s : Nat) = some (.int k (a / 2 ^ s)) := by
  have h0 : ¬ ((s : Nat) : Int) < 0 := by omega
  have hm : min s k.bits = s := Nat.min_eq_left hs
  simp only [evB2, isShift, true_or, if_true, evB, h0, if_false, Int.toNat_natCast, hm]
  rw [Int.fdiv_eq_ediv_of_nonneg _ (Int.le_of_lt (Int.pow_pos (by decide)))]
theorem ev_shl (k : IntKind) (a : Int) (s : Nat) (hs : s ≤ k.bits) : evB2 .shl k a .i64 (s : Nat) = some (.int k (k.wrap (a * 2 ^ s))) := by
  have h0 : ¬ ((s : Nat) : Int) < 0 := by omega
  have hm : min s k.bits = s := Nat.min_eq_left hs
  simp only [evB2, isShift, true_or, if_true, evB, h0, if_false, Int.toNat_natCast, hm]
end
end Go.Proofs.YtinamdcmkamlhaaGreatDoor
