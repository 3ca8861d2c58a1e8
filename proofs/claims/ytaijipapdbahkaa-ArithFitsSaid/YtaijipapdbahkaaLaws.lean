/- Plain facts: quotients and what is left, sums, shifts of fitted numbers; no program is named here. No condition. -/
import Derived.Test.YtaijipapdbahkaaBits
namespace Go.Proofs.Ytaijipapdbahkaa
open Go.RowKit
theorem cg_add {sz a b c d : Int} (h : a % modS sz = b % modS sz) (k : c % modS sz = d % modS sz) : (a + c) % modS sz = (b + d) % modS sz := by
  rw [Int.add_emod, h, k, ← Int.add_emod]
theorem cg_sub {sz a b c d : Int} (h : a % modS sz = b % modS sz) (k : c % modS sz = d % modS sz) : (a - c) % modS sz = (b - d) % modS sz := by
  rw [Int.sub_emod, h, k, ← Int.sub_emod]
theorem cg_mul {sz a b c d : Int} (h : a % modS sz = b % modS sz) (k : c % modS sz = d % modS sz) : (a * c) % modS sz = (b * d) % modS sz := by
  rw [Int.mul_emod, h, k, ← Int.mul_emod]
theorem uS_mod {sz n : Int} (h : Size sz) : uS n % modS sz = n % modS sz := by
  unfold uS
  rcases h with rfl | rfl | rfl | rfl <;> simp only [modS] <;> simp <;> omega
theorem quo_ok (sz : Int) (sg : Bool) (x y : Int) : (quoS 9 sz sg x y).2 = (quoS 8 sz sg x y).2 := by
  unfold quoS; simp only []
  split <;> split <;> simp_all <;> split <;> simp_all
theorem parts_s (sz : Int) (sg : Bool) (x y : Int) (h : Size sz) (hx : fitS sz sg x = x) (hok : (quoS 8 sz sg x y).2 = true) :
    fitS sz sg (fitS sz sg ((quoS 8 sz sg x y).1 * y) + (quoS 9 sz sg x y).1) = x := by
  conv => rhs; rw [← hx]
  refine fitS_congr h ?_
  have hy0 : y ≠ 0 := by intro e; subst e; simp [quoS] at hok
  cases sg with
  | false =>
    have e8 : quoS 8 sz false x y = (wrap64 (uS x / uS y), true) := by simp [quoS, hy0]
    have e9 : quoS 9 sz false x y = (wrap64 (uS x % uS y), true) := by simp [quoS, hy0]
    rw [e8, e9]; simp only []
    have h1 := cg_add (fitS_mod (sg := false) (n := wrap64 (uS x / uS y) * y) h) (wrap64_mod (n := uS x % uS y) h)
    rw [h1]
    have h2 := cg_add (cg_mul (wrap64_mod (n := uS x / uS y) h) (uS_mod (n := y) h).symm) (rfl : uS x % uS y % modS sz = uS x % uS y % modS sz)
    rw [h2, Int.ediv_mul_add_emod, uS_mod h]
  | true =>
    have h8 : ¬ (sz = 8 ∧ x = -9223372036854775808 ∧ y = -1) := by
      intro e; simp [quoS, e] at hok
    have e8 : quoS 8 sz true x y = (fitS sz true (x.tdiv y), true) := by simp [quoS, hy0, h8]
    have e9 : quoS 9 sz true x y = (fitS sz true (x.tmod y), true) := by simp [quoS, hy0, h8]
    rw [e8, e9]; simp only []
    have h1 := cg_add (fitS_mod (sg := true) (n := fitS sz true (x.tdiv y) * y) h) (fitS_mod (sg := true) (n := x.tmod y) h)
    rw [h1]
    have h2 := cg_add (cg_mul (fitS_mod (sg := true) (n := x.tdiv y) h) (rfl : y % modS sz = y % modS sz)) (rfl : x.tmod y % modS sz = x.tmod y % modS sz)
    rw [h2, Int.tdiv_mul_add_tmod]
theorem parts_w (sz : Int) (sg : Bool) (x y : Int) (h : Size sz) (hx : fitS sz sg x = x) : fitS sz sg (fitS sz sg (x + y) - y) = x := by
  conv => rhs; rw [← hx]
  refine fitS_congr h ?_
  rw [cg_sub (fitS_mod h) (rfl : y % modS sz = y % modS sz)]
  congr 1; omega
theorem quo_In (op : Nat) (sz : Int) (sg : Bool) (x y : Int) (h : Size sz) : In64 (quoS op sz sg x y).1 := by
  have hw : ∀ n, In64 (wrap64 n) := fun n => by unfold wrap64 In64; omega
  have hf : ∀ n, In64 (fitS sz sg n) := fun n => fitS_in h
  have h0 : In64 0 := by unfold In64; omega
  unfold quoS
  split
  · exact h0
  · split
    · simp only []; split <;> exact hw _
    · split
      · exact h0
      · simp only []; split <;> exact hf _
end Go.Proofs.Ytaijipapdbahkaa
