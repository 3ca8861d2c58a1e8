/- Plain facts: uses and copies counted from the front. No condition. -/
import Derived.Test.YtednnkhomfabaaaGrP
namespace Go.Proofs.Ytednnkhomfabaaa
set_option linter.unusedVariables false
def fU (us : List Int) (xs : List InsD) : List Int := xs.foldl insU us
def luU (R : Nat) (blk : Nat → BlockD) : Nat → List Int
  | 0 => List.replicate R 0
  | i + 1 => readU (fU (luU R blk i) (blk i).ins) (readsT (blk i).term)
def totU (blk : Nat → BlockD) (k : Nat) : Nat → Int
  | 0 => 0
  | i + 1 => totU blk k i + (bsN (blk i).ins k + readsN (readsT (blk i).term) k)
def totC (blk : Nat → BlockD) : Nat → Nat
  | 0 => 0
  | i + 1 => totC blk i + (blk i).ins.countP isCp
theorem fU_length (xs : List InsD) : ∀ us : List Int, (fU us xs).length = us.length := by
  induction xs with
  | nil => intro us; rfl
  | cons x xs ih => intro us; show (fU (insU us x) xs).length = _; rw [ih, insU_length]
theorem fU_at (xs : List InsD) (k : Nat) : ∀ us : List Int, k < us.length → (fU us xs).getD k 0 = us.getD k 0 + bsN xs k := by
  induction xs with
  | nil => intro us _; simp [fU, bsN]
  | cons x xs ih =>
    intro us hk
    show (fU (insU us x) xs).getD k 0 = _
    rw [ih _ (by rw [insU_length]; exact hk), insU_at _ _ _ hk]
    unfold bsN
    rw [List.map_cons, List.sum_cons]
    omega
theorem fU_take (us : List Int) {xs : List InsD} {k : Nat} {x : InsD} (h : xs[k]? = some x) : fU us (xs.take (k + 1)) = insU (fU us (xs.take k)) x := by
  unfold fU
  rw [List.take_add_one, h]
  simp
theorem luU_length (R : Nat) (blk : Nat → BlockD) : ∀ i, (luU R blk i).length = R
  | 0 => by simp [luU]
  | i + 1 => by show (readU (fU (luU R blk i) _) _).length = _; rw [readU_length, fU_length, luU_length R blk i]
theorem blU_length (R : Nat) (blk : Nat → BlockD) : ∀ i, (blU R blk i).length = R
  | 0 => by simp [blU]
  | i + 1 => by show (bsU (readU (blU R blk i) _) _).length = _; rw [bsU_length, readU_length, blU_length R blk i]
theorem luU_at (R : Nat) (blk : Nat → BlockD) (k : Nat) (hk : k < R) : ∀ i, (luU R blk i).getD k 0 = totU blk k i
  | 0 => by simp [luU, totU, List.getD_eq_getElem?_getD, List.getElem?_replicate, hk]
  | i + 1 => by
    show (readU (fU (luU R blk i) _) _).getD k 0 = _
    rw [readU_at _ _ _ (by rw [fU_length, luU_length]; exact hk), fU_at _ _ _ (by rw [luU_length]; exact hk), luU_at R blk k hk i]
    show _ = totU blk k i + _
    omega
theorem blU_at (R : Nat) (blk : Nat → BlockD) (k : Nat) (hk : k < R) : ∀ i, (blU R blk i).getD k 0 = totU blk k i
  | 0 => by simp [blU, totU, List.getD_eq_getElem?_getD, List.getElem?_replicate, hk]
  | i + 1 => by
    show (bsU (readU (blU R blk i) _) _).getD k 0 = _
    rw [bsU_at _ _ (by rw [readU_length, blU_length]; exact hk), readU_at _ _ _ (by rw [blU_length]; exact hk), blU_at R blk k hk i]
    show _ = totU blk k i + _
    omega
theorem luU_eq (R : Nat) (blk : Nat → BlockD) (i : Nat) : luU R blk i = blU R blk i := by
  refine List.ext_getElem? (fun k => ?_)
  by_cases hk : k < R
  · have h := (luU_at R blk k hk i).trans (blU_at R blk k hk i).symm
    have h1 : k < (luU R blk i).length := by rw [luU_length]; exact hk
    have h2 : k < (blU R blk i).length := by rw [blU_length]; exact hk
    rw [List.getD_eq_getElem?_getD, List.getD_eq_getElem?_getD, List.getElem?_eq_getElem h1, List.getElem?_eq_getElem h2] at h
    rw [List.getElem?_eq_getElem h1, List.getElem?_eq_getElem h2]
    exact congrArg some h
  · rw [List.getElem?_eq_none (by rw [luU_length]; omega), List.getElem?_eq_none (by rw [blU_length]; omega)]
theorem bsC_count (cp : List (Int × Int)) : ∀ xs, (bsC cp xs).length = cp.length + xs.countP isCp
  | [] => rfl
  | x :: xs => by
    show (insC (bsC cp xs) x).length = _
    have := bsC_count cp xs
    unfold insC
    rw [List.countP_cons]
    split
    · rw [List.length_append, this]; simp; omega
    · rw [this]; omega
theorem blC_count (blk : Nat → BlockD) : ∀ i, (blC blk i).length = totC blk i
  | 0 => rfl
  | i + 1 => by show (bsC (blC blk i) _).length = totC blk i + _; rw [bsC_count, blC_count blk i]
theorem countP_take {xs : List InsD} {k : Nat} {x : InsD} (h : xs[k]? = some x) : (xs.take (k + 1)).countP isCp = (xs.take k).countP isCp + (if isCp x then 1 else 0) := by
  rw [List.take_add_one, h]
  simp [List.countP_append, List.countP_cons]
theorem totC_le (blk : Nat → BlockD) (M : Nat) : ∀ i, (∀ j, j < i → (blk j).ins.length ≤ M) → totC blk i ≤ i * M
  | 0, _ => by simp [totC]
  | i + 1, h => by
    have h1 := totC_le blk M i (fun j hj => h j (by omega))
    have h2 := List.countP_le_length (p := isCp) (l := (blk i).ins)
    have h3 := h i (by omega)
    show totC blk i + _ ≤ _
    rw [Nat.succ_mul]; omega
theorem Ub.fU : ∀ (xs : List InsD) {us : List Int} {c : Int}, Ub us c → 0 ≤ c → (∀ x ∈ xs, x.args.length ≤ 1000000) → Ub (fU us xs) (c + xs.length * 1000003)
  | [], us, c, h, _, _ => by simpa [Go.Proofs.Ytednnkhomfabaaa.fU] using h
  | x :: xs, us, c, h, hc, hl => by
    have := Ub.fU xs (h.ins x hc (hl x (by simp))) (by omega) (fun y hy => hl y (by simp [hy]))
    rw [List.length_cons]
    exact this.mono (by omega)
end Go.Proofs.Ytednnkhomfabaaa
