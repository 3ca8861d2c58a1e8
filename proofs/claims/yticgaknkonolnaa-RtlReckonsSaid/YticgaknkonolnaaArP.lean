/- Plain facts on operators of numbers. No condition. -/
import Derived.Test.YticgaknkonolnaaBits
namespace Go.Proofs.Yticgaknkonolnaa
open Go.RowKit
set_option linter.unusedVariables false

/-- how many numbers a type of sz bytes has -/
def modS (sz : Int) : Int := if sz = 1 then 256 else if sz = 2 then 65536 else if sz = 4 then 4294967296 else 18446744073709551616
/-- a number as one of a type of sz bytes, with a sign or without (of 8 bytes always with) -/
def fitS (sz : Int) (sg : Bool) (n : Int) : Int :=
  if sz = 8 ∨ sg = true then (n + modS sz / 2) % modS sz - modS sz / 2 else n % modS sz
def Size (sz : Int) : Prop := sz = 1 ∨ sz = 2 ∨ sz = 4 ∨ sz = 8
theorem fitS_congr {sz : Int} {sg : Bool} {n m : Int} (h : Size sz) (e : n % modS sz = m % modS sz) : fitS sz sg n = fitS sz sg m := by
  unfold fitS
  rcases h with rfl | rfl | rfl | rfl <;> simp only [modS] at * <;> cases sg <;> simp at * <;> omega
theorem fitS_mod {sz : Int} {sg : Bool} {n : Int} (h : Size sz) : fitS sz sg n % modS sz = n % modS sz := by
  unfold fitS
  rcases h with rfl | rfl | rfl | rfl <;> simp only [modS] at * <;> cases sg <;> simp at * <;> omega
theorem fitS_idem {sz : Int} {sg : Bool} {n : Int} (h : Size sz) : fitS sz sg (fitS sz sg n) = fitS sz sg n := fitS_congr h (fitS_mod h)
theorem fitS_in {sz : Int} {sg : Bool} {n : Int} (h : Size sz) : In64 (fitS sz sg n) := by
  unfold fitS In64
  rcases h with rfl | rfl | rfl | rfl <;> simp only [modS] at * <;> cases sg <;> simp at * <;> omega
theorem wrap64_mod {sz : Int} {n : Int} (h : Size sz) : wrap64 n % modS sz = n % modS sz := by
  unfold wrap64
  rcases h with rfl | rfl | rfl | rfl <;> simp only [modS] at * <;> simp at * <;> omega
theorem fitS_wrap {sz : Int} {sg : Bool} {n : Int} (h : Size sz) : fitS sz sg (wrap64 n) = fitS sz sg n := fitS_congr h (wrap64_mod h)

/-- a number of 64 bits without a sign -/
def uS (n : Int) : Int := n % 18446744073709551616
/-- how far is shifted -/
def shS (sz b : Int) : Nat := (b % (8 * sz)).toNat
/-- '/' (8) and '%' (9) -/
def quoS (op : Nat) (sz : Int) (sg : Bool) (a b : Int) : Int × Bool :=
  if b = 0 ∨ (op ≠ 8 ∧ op ≠ 9) then (0, false)
  else if sg = false then (if op = 8 then wrap64 (uS a / uS b) else wrap64 (uS a % uS b), true)
  else if sz = 8 ∧ a = -9223372036854775808 ∧ b = -1 then (0, false)
  else (if op = 8 then fitS sz sg (a.tdiv b) else fitS sz sg (a.tmod b), true)
/-- the names of the operators -/
def opB (op : Nat) : ByteArray :=
  match op with
  | 0 => ⟨#[43]⟩ | 1 => ⟨#[45]⟩ | 2 => ⟨#[42]⟩ | 3 => ⟨#[38]⟩ | 4 => ⟨#[124]⟩ | 5 => ⟨#[94]⟩
  | 6 => ⟨#[60, 60]⟩ | 7 => ⟨#[62, 62]⟩ | 8 => ⟨#[47]⟩ | 9 => ⟨#[37]⟩ | 10 => ⟨#[61, 61]⟩ | _ => ⟨#[63]⟩

set_option maxHeartbeats 400000
theorem wrap64_In (n : Int) : In64 (wrap64 n) := by unfold wrap64 In64; omega
theorem iwrap_In (n : Int) : In64 (IntKind.i64.wrap n) := by rw [IntWalk.i64_left]; exact wrap64_In n
theorem tmod_In (a b : Int) (ha : In64 a) : In64 (a.tmod b) := by
  unfold In64 at *
  have h1 := Int.natAbs_tmod a b
  have h2 : a.natAbs % b.natAbs ≤ a.natAbs := Nat.mod_le _ _
  have h3 : (a.tmod b).natAbs ≤ a.natAbs := by omega
  have h4 : 0 ≤ a → 0 ≤ a.tmod b := fun h => Int.tmod_nonneg _ h
  have h5 : a ≤ 0 → a.tmod b ≤ 0 := fun h => by
    have := Int.tmod_nonneg b (a := -a) (by omega); rw [Int.neg_tmod] at this; omega
  omega
theorem tdiv_In (a b : Int) (ha : In64 a) (h : ¬ (a = -9223372036854775808 ∧ b = -1)) : In64 (a.tdiv b) := by
  unfold In64 at *
  have h1 : (a.tdiv b).natAbs = a.natAbs / b.natAbs := Int.natAbs_tdiv a b
  by_cases hb : b = -1
  · subst hb; rw [Int.tdiv_neg, Int.tdiv_one]; omega
  · by_cases hb1 : b.natAbs ≤ 1
    · have : b = 0 ∨ b = 1 := by omega
      rcases this with rfl | rfl
      · simp
      · rw [Int.tdiv_one]; omega
    · have h2 : a.natAbs / b.natAbs ≤ a.natAbs / 2 := Nat.div_le_div_left (by omega) (by decide)
      omega
theorem wrap64_id {n : Int} (h : In64 n) : wrap64 n = n := by unfold In64 at h; unfold wrap64; omega
end Go.Proofs.Yticgaknkonolnaa
