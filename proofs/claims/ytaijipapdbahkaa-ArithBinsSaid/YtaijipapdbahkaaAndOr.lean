/- Plain facts: of two numbers that fit, '&' and '|' fit. No condition. -/
import Derived.Test.YtaijipapdbahkaaRbin
namespace Go.Proofs.Ytaijipapdbahkaa
open Go.RowKit
theorem toInt_In (a : Int) (h : In64 a) : (BitVec.ofInt 64 a).toInt = a := by
  obtain ⟨h1, h2⟩ := h
  rw [BitVec.toInt_ofInt]
  unfold Int.bmod; simp only []; split <;> omega
theorem wrap_bmod (n : Nat) : wrap64 (n : Int) = (n : Int).bmod (2 ^ 64) := by
  unfold wrap64 Int.bmod; simp only []; split <;> omega
theorem and_bv (a b : Int) : bits .and .i64 a b = (BitVec.ofInt 64 a &&& BitVec.ofInt 64 b).toInt := by
  have : bits .and .i64 a b = IntKind.i64.wrap (((BitVec.ofInt 64 a &&& BitVec.ofInt 64 b : BitVec 64).toNat : Nat) : Int) := rfl
  rw [this, IntWalk.i64_left, wrap_bmod, BitVec.toInt_eq_toNat_bmod]
theorem or_bv (a b : Int) : bits .or .i64 a b = (BitVec.ofInt 64 a ||| BitVec.ofInt 64 b).toInt := by
  have : bits .or .i64 a b = IntKind.i64.wrap (((BitVec.ofInt 64 a ||| BitVec.ofInt 64 b : BitVec 64).toNat : Nat) : Int) := rfl
  rw [this, IntWalk.i64_left, wrap_bmod, BitVec.toInt_eq_toNat_bmod]
theorem div_In (a : Int) (k : Nat) (h : In64 a) : In64 (a / 2 ^ k) := ediv_In a k h
theorem ofInt_div (a : Int) (k : Nat) (h : In64 a) : BitVec.ofInt 64 (a / 2 ^ k) = (BitVec.ofInt 64 a).sshiftRight k := by
  apply BitVec.eq_of_toInt_eq
  rw [toInt_In _ (div_In a k h), BitVec.toInt_sshiftRight, toInt_In a h, Int.shiftRight_eq_div_pow]; simp
theorem and_div (a b : Int) (k : Nat) (ha : In64 a) (hb : In64 b) : bits .and .i64 a b / 2 ^ k = bits .and .i64 (a / 2 ^ k) (b / 2 ^ k) := by
  rw [and_bv, and_bv, ofInt_div a k ha, ofInt_div b k hb, ← BitVec.sshiftRight_and_distrib, BitVec.toInt_sshiftRight, Int.shiftRight_eq_div_pow]; simp
theorem or_div (a b : Int) (k : Nat) (ha : In64 a) (hb : In64 b) : bits .or .i64 a b / 2 ^ k = bits .or .i64 (a / 2 ^ k) (b / 2 ^ k) := by
  rw [or_bv, or_bv, ofInt_div a k ha, ofInt_div b k hb, ← BitVec.sshiftRight_or_distrib, BitVec.toInt_sshiftRight, Int.shiftRight_eq_div_pow]; simp
/-- what fits, by its high bits -/
def high (sz : Int) (sg : Bool) (x : Int) : Prop :=
  if sz = 8 then In64 x else if sg = true then (x / 2 ^ ((8 * sz).toNat - 1) = 0 ∨ x / 2 ^ ((8 * sz).toNat - 1) = -1) else x / 2 ^ (8 * sz).toNat = 0
theorem fit_high (sz : Int) (sg : Bool) (x : Int) (h : Size sz) : fitS sz sg x = x ↔ high sz sg x := by
  unfold fitS high In64
  rcases h with rfl | rfl | rfl | rfl <;> simp only [modS] <;> cases sg <;> simp <;> omega
theorem m1 {a b : Int} (ha : a = 0 ∨ a = -1) (hb : b = 0 ∨ b = -1) : (bits .and .i64 a b = 0 ∨ bits .and .i64 a b = -1) ∧ (bits .or .i64 a b = 0 ∨ bits .or .i64 a b = -1) := by
  rcases ha with rfl | rfl <;> rcases hb with rfl | rfl <;> decide
theorem fit_and (sz : Int) (sg : Bool) (x y : Int) (h : Size sz) (hx : fitS sz sg x = x) (hy : fitS sz sg y = y) : fitS sz sg (bits .and .i64 x y) = bits .and .i64 x y ∧ fitS sz sg (bits .or .i64 x y) = bits .or .i64 x y := by
  have ix : In64 x := by rw [← hx]; exact fitS_in h
  have iy : In64 y := by rw [← hy]; exact fitS_in h
  rw [fit_high _ _ _ h] at hx hy
  rw [fit_high _ _ _ h, fit_high _ _ _ h]
  unfold high at *
  by_cases h8 : sz = 8
  · rw [if_pos h8, if_pos h8]; exact ⟨bits_In _ _ _, bits_In _ _ _⟩
  · rw [if_neg h8] at hx hy ⊢
    rw [if_neg h8]
    by_cases hs : sg = true
    · rw [if_pos hs] at hx hy ⊢
      rw [if_pos hs, and_div _ _ _ ix iy, or_div _ _ _ ix iy]
      exact m1 hx hy
    · rw [if_neg hs] at hx hy ⊢
      rw [if_neg hs, and_div _ _ _ ix iy, or_div _ _ _ ix iy, hx, hy]
      decide
theorem bins_eq (op : Nat) (sz : Int) (sg : Bool) (x y : Int) (h : Size sz) (hx : fitS sz sg x = x) (hy : op = 6 ∨ op = 7 ∨ fitS sz sg y = y) : rbinS op sz sg x y = binS op sz sg x y := by
  unfold rbinS
  split
  · have hy' : fitS sz sg y = y := by omega
    rw [(fit_and sz sg x y h hx hy').1]; rfl
  · have hy' : fitS sz sg y = y := by omega
    rw [(fit_and sz sg x y h hx hy').2]; rfl
  · rfl
end Go.Proofs.Ytaijipapdbahkaa
