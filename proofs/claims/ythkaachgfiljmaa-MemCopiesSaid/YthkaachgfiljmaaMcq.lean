/- Plain facts on bytes; a new memory of what came in; a call's address. No condition. -/
import Derived.Test.YthkaachgfiljmaaMcy
import Derived.Test.YthkaachgfiljmaaCor
import Derived.Test.YthkaachgfiljmaaMemFit
import Derived.Test.YthkaachgfiljmaaBits
namespace Go.Proofs.Ythkaachgfiljmaa
open Go.RowKit
set_option linter.unusedVariables false
set_option maxHeartbeats 4000000
theorem pow8 (k : Nat) : (2 : Int) ^ (8 * (k + 1)) = 2 ^ (8 * k) * 256 := by rw [show 8 * (k + 1) = 8 * k + 8 by omega, Int.pow_add]; rfl
theorem ld_byte (f : Int → Int) (a : Int) (hf : ∀ x, 0 ≤ f x ∧ f x ≤ 255) (i : Nat) : ∀ k, i < k → ldV f a k / 2 ^ (8 * i) % 256 = f (a + i)
  | 0, h => by omega
  | k + 1, h => by
    obtain ⟨h1, h2⟩ := hf (a + k)
    obtain ⟨h3, h4⟩ := ldV_in f a hf k
    have hp : (0 : Int) < 2 ^ (8 * i) := Int.pow_pos (by decide)
    simp only [ldV]
    by_cases hik : i = k
    · subst hik
      rw [Int.add_mul_ediv_right _ _ (by omega), Int.ediv_eq_zero_of_lt h3 h4]
      omega
    · obtain ⟨d, rfl⟩ : ∃ d, k = i + 1 + d := ⟨k - (i + 1), by omega⟩
      have e : (2 : Int) ^ (8 * (i + 1 + d)) = 2 ^ (8 * d) * 256 * 2 ^ (8 * i) := by
        rw [show 8 * (i + 1 + d) = 8 * d + 8 + 8 * i by omega, Int.pow_add, Int.pow_add]; rfl
      rw [e, ← Int.mul_assoc, Int.add_mul_ediv_right _ _ (by omega), ← Int.mul_assoc, Int.add_mul_emod_self_right]
      exact ld_byte f a hf i (i + 1 + d) (by omega)
theorem ld_congr (f g : Int → Int) (a : Int) : ∀ k : Nat, (∀ i, i < k → f (a + i) = g (a + i)) → ldV f a k = ldV g a k
  | 0, _ => rfl
  | k + 1, h => by simp only [ldV]; rw [ld_congr f g a k (fun i hi => h i (by omega)), h k (by omega)]
theorem ld_inj (f g : Int → Int) (a : Int) (hf : ∀ x, 0 ≤ f x ∧ f x ≤ 255) (hg : ∀ x, 0 ≤ g x ∧ g x ≤ 255) (k : Nat) (h : ldV f a k = ldV g a k) (i : Nat) (hi : i < k) : f (a + i) = g (a + i) := by
  rw [← ld_byte f a hf i k hi, ← ld_byte g a hg i k hi, h]
theorem st_back (f : Int → Int) (a v : Int) (k : Nat) (hf : ∀ x, 0 ≤ f x ∧ f x ≤ 255) (x : Int) : stV (stV f a k v) a k (ldV f a k) x = f x := by
  unfold stV
  by_cases h : a ≤ x ∧ x < a + k
  · rw [if_pos h, ld_byte f a hf _ k (by omega), show a + ((x - a).toNat : Int) = x by omega]
  · rw [if_neg h, if_neg h]
theorem st_same (f : Int → Int) (a v : Int) (k : Nat) (hf : ∀ x, 0 ≤ f x ∧ f x ≤ 255) : (∀ x, f x = stV f a k v x) ↔ ldV (stV f a k v) a k = ldV f a k := by
  constructor
  · intro h; exact ld_congr _ _ a k (fun i _ => (h _).symm)
  · intro h x
    by_cases hx : a ≤ x ∧ x < a + k
    · have := ld_inj (stV f a k v) f a (fun x => st_in f a k v hf x) hf k h (x - a).toNat (by omega)
      rw [show a + ((x - a).toNat : Int) = x by omega] at this
      exact this.symm
    · unfold stV; rw [if_neg hx]
theorem new_zero (w : World) (A : Option Addr) (cap : Nat) (d : Nat → Int) : Calls Try.prog 7 #[.slice A 0 cap] w (Newly w 0 (newF d 0)) := by
  have hmm := @run_makeMap Try.prog
  have hb0 : ((w.alloc (.map #[] 0)).alloc (.cells #[.int .u64 0, .map (some w.heap.size)] 42)).heap[w.heap.size + 1]? = some (.cells #[.int .u64 0, .map (some w.heap.size)] 42 (0, 0)) := by
    have := blk_new (w.alloc (.map #[] 0)) (.cells #[.int .u64 0, .map (some w.heap.size)] 42)
    simpa using this
  have hm0 : ((w.alloc (.map #[] 0)).alloc (.cells #[.int .u64 0, .map (some w.heap.size)] 42)).heap[w.heap.size]? = some (.map #[] 0) := blk_alloc (blk_new w _) _
  have hE := Lib.hid (Mem.empty 0 0 hb0 hm0)
  clear hb0 hm0
  go_enter Try.func7, Try.ntmps7
  go_wp2
  go_rounds 1
  go_returns
  exact ⟨_, _, rfl, by rw [newF_zero]; exact hE.out, (fun j hj => by rcases hj with rfl | rfl <;> omega), below_alloc _ (below_alloc _ (Below.refl _ _))⟩
/-- a new memory of the bytes that came in -/
theorem new_of (w : World) (v : Value) (xs : List Int) (h : SlR w 1 ByteR v xs) : ∃ f, Calls Try.prog 7 #[v] w (Newly w ((min xs.length 65536 : Nat) : Int) f) := by
  obtain ⟨A, cap, rfl, h1, h2, h3⟩ := h
  by_cases h0 : xs.length = 0
  · rw [h0]
    exact ⟨_, new_zero w A cap (fun _ => 0)⟩
  · obtain ⟨b, o, cs, rfl, g2, g3, g4⟩ := h3 0 xs[0] (List.getElem?_eq_getElem (by omega))
    have hcs : ∀ i, i < xs.length → w.cell? ⟨b, o + i, none⟩ = some (.int .u8 (xs.getD i 0)) ∧ 0 ≤ xs.getD i 0 ∧ xs.getD i 0 ≤ 255 := fun i hi => by
      obtain ⟨b', o', cs', e1, e2, e3, e4, e5⟩ := h3 i xs[i] (List.getElem?_eq_getElem hi)
      simp only [Option.some.injEq, Addr.mk.injEq, and_true] at e1
      obtain ⟨rfl, rfl⟩ := e1
      have := e3 0 (by decide)
      rw [e4] at this
      simp only [Nat.mul_one, Nat.add_zero, List.getElem?_cons_zero] at this
      rw [List.getD_eq_getElem?_getD, List.getElem?_eq_getElem hi]
      exact ⟨this, e5⟩
    exact ⟨_, new_walk w b o cap xs.length _ (fun i => xs.getD i 0) rfl h1 (by unfold maxLen at h2; omega) (World.block_lt_of_cell? w _ (hcs 0 (by omega)).1) hcs⟩
theorem u64_in (n : Int) : InU64 (IntKind.u64.wrap n) := by rw [IntKind.wrap_u64]; unfold InU64; omega
set_option maxRecDepth 100000 in
theorem at_any (x : CallD) (n : Int) : ∃ a, InU64 a ∧ ∀ w, Calls Try.prog 12 #[.agg #[.int .i64 x.kind, .int .i64 x.base, .int .i64 x.off, .int .i64 x.n, .int .u64 x.v], .int .i64 n] w
    fun e w' => e = .returned (.int .u64 a) ∧ Below w.heap.size w w' := by
  obtain ⟨a, ha, hal⟩ : ∃ a : Nat, (x.base.tmod 5 + 5) % 5 = (a : Int) ∧ a < 5 := ⟨((x.base.tmod 5 + 5) % 5).toNat, by omega, by omega⟩
  have hlo : -4 ≤ x.base.tmod 5 ∧ x.base.tmod 5 ≤ 4 := by rw [tmod_eq_if]; split <;> omega
  have hc : a = 0 ∨ a = 1 ∨ a = 2 ∨ a = 3 ∨ a = 4 := by omega
  clear hal
  rcases hc with rfl | rfl | rfl | rfl | rfl
  · have ha : (x.base.tmod 5 + 5) % 5 = 0 := ha
    refine ⟨IntKind.u64.wrap (65536 + IntKind.u64.wrap x.off), u64_in _, fun w => ?_⟩
    go_enter Try.func12, Try.ntmps12
    go_wp2_with fail
    go_returns
    exact ⟨ret_int (by first | rfl | simp), by go_grown⟩
  · have ha : (x.base.tmod 5 + 5) % 5 = 1 := ha
    refine ⟨IntKind.u64.wrap (IntKind.u64.wrap (65536 + IntKind.u64.wrap n) + IntKind.u64.wrap x.off), u64_in _, fun w => ?_⟩
    go_enter Try.func12, Try.ntmps12
    go_wp2_with fail
    go_returns
    exact ⟨ret_int (by first | rfl | simp), by go_grown⟩
  · have ha : (x.base.tmod 5 + 5) % 5 = 2 := ha
    refine ⟨IntKind.u64.wrap (67108864 + IntKind.u64.wrap x.off), u64_in _, fun w => ?_⟩
    go_enter Try.func12, Try.ntmps12
    go_wp2_with fail
    go_returns
    exact ⟨ret_int (by first | rfl | simp), by go_grown⟩
  · have ha : (x.base.tmod 5 + 5) % 5 = 3 := ha
    refine ⟨IntKind.u64.wrap (134217728 + IntKind.u64.wrap x.off), u64_in _, fun w => ?_⟩
    go_enter Try.func12, Try.ntmps12
    go_wp2_with fail
    go_returns
    exact ⟨ret_int (by first | rfl | simp), by go_grown⟩
  · have ha : (x.base.tmod 5 + 5) % 5 = 4 := ha
    refine ⟨IntKind.u64.wrap (0 + IntKind.u64.wrap x.off), u64_in _, fun w => ?_⟩
    go_enter Try.func12, Try.ntmps12
    go_wp2_with fail
    go_returns
    exact ⟨ret_int (by first | rfl | simp), by go_grown⟩
end Go.Proofs.Ythkaachgfiljmaa
