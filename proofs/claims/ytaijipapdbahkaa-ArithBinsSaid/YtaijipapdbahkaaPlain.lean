/- Plain facts on whole numbers: what fitting a number to a type of 1, 2, 4 or 8 bytes does; no program is named here. No condition. -/
import Derived.Test.YtaijipapdbahkaaLib
namespace Go.Proofs.Ytaijipapdbahkaa
open Go.RowKit

/-- how many numbers a type of sz bytes has -/
def modS (sz : Int) : Int := if sz = 1 then 256 else if sz = 2 then 65536 else if sz = 4 then 4294967296 else 18446744073709551616
/-- a number as one of a type of sz bytes, with a sign or without (of 8 bytes always with) -/
def fitS (sz : Int) (sg : Bool) (n : Int) : Int :=
  if sz = 8 ∨ sg = true then (n + modS sz / 2) % modS sz - modS sz / 2 else n % modS sz
def Size (sz : Int) : Prop := sz = 1 ∨ sz = 2 ∨ sz = 4 ∨ sz = 8
def In64 (n : Int) : Prop := -9223372036854775808 ≤ n ∧ n ≤ 9223372036854775807

theorem fitS_congr {sz : Int} {sg : Bool} {n m : Int} (h : Size sz) (e : n % modS sz = m % modS sz) : fitS sz sg n = fitS sz sg m := by
  unfold fitS
  rcases h with rfl | rfl | rfl | rfl <;> simp only [modS] at * <;> cases sg <;> simp at * <;> omega
theorem fitS_mod {sz : Int} {sg : Bool} {n : Int} (h : Size sz) : fitS sz sg n % modS sz = n % modS sz := by
  unfold fitS
  rcases h with rfl | rfl | rfl | rfl <;> simp only [modS] at * <;> cases sg <;> simp at * <;> omega
theorem fitS_idem {sz : Int} {sg : Bool} {n : Int} (h : Size sz) : fitS sz sg (fitS sz sg n) = fitS sz sg n := fitS_congr h (fitS_mod h)
theorem fitS_in {sz : Int} {sg : Bool} {n : Int} (h : Size sz) : In64 (fitS sz sg n) := by
  unfold fitS In64
  rcases h with rfl | rfl | rfl | rfl <;> simp only [modS] at * <;> cases sg <;> simp at * <;> omega
theorem wrap64_mod {sz : Int} {n : Int} (h : Size sz) : wrap64 n % modS sz = n % modS sz := by
  unfold wrap64
  rcases h with rfl | rfl | rfl | rfl <;> simp only [modS] at * <;> simp at * <;> omega
theorem fitS_wrap {sz : Int} {sg : Bool} {n : Int} (h : Size sz) : fitS sz sg (wrap64 n) = fitS sz sg n := fitS_congr h (wrap64_mod h)

/-- a number of 64 bits without a sign -/
def uS (n : Int) : Int := n % 18446744073709551616
/-- how far is shifted -/
def shS (sz b : Int) : Nat := (b % (8 * sz)).toNat
/-- '/' (8) and '%' (9) -/
def quoS (op : Nat) (sz : Int) (sg : Bool) (a b : Int) : Int × Bool :=
  if b = 0 ∨ (op ≠ 8 ∧ op ≠ 9) then (0, false)
  else if sg = false then (if op = 8 then wrap64 (uS a / uS b) else wrap64 (uS a % uS b), true)
  else if sz = 8 ∧ a = -9223372036854775808 ∧ b = -1 then (0, false)
  else (if op = 8 then fitS sz sg (a.tdiv b) else fitS sz sg (a.tmod b), true)
/-- the names of the operators -/
def opB (op : Nat) : ByteArray :=
  match op with
  | 0 => ⟨#[43]⟩ | 1 => ⟨#[45]⟩ | 2 => ⟨#[42]⟩ | 3 => ⟨#[38]⟩ | 4 => ⟨#[124]⟩ | 5 => ⟨#[94]⟩
  | 6 => ⟨#[60, 60]⟩ | 7 => ⟨#[62, 62]⟩ | 8 => ⟨#[47]⟩ | 9 => ⟨#[37]⟩ | 10 => ⟨#[61, 61]⟩ | _ => ⟨#[63]⟩

end Go.Proofs.Ytaijipapdbahkaa
