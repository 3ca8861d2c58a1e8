/- The listed tables stand in memory and stay; small facts on numbers. No condition. -/
import Derived.Test.YtpkbkmppkgeklaaDoorRegJ
import Derived.Test.YtpkbkmppkgeklaaDoorFitG
import Derived.Test.YtpkbkmppkgeklaaDoorBits
namespace Go.Proofs.YtpkbkmppkgeklaaDoor
open Go.RowKit
set_option linter.unusedVariables false
set_option maxHeartbeats 4000000
def GsOk (w : World) : Prop := NeedOk gs w ∧ gn ≤ w.heap.size
theorem GsOk.below {w w' : World} (h : GsOk w) (hb : Below w.heap.size w w') : GsOk w' := by
  refine ⟨fun g hg k v hv => ?_, Nat.le_trans h.2 (hb.size)⟩
  rw [(bcell hb).1 _ _ (Nat.lt_of_lt_of_le (gs_ok g hg).1 h.2)]
  exact h.1 g hg k v hv
theorem and_bits (a : Int) (k : Nat) (hk : k < 60) : ∃ r : Nat, r < 2 ^ k ∧ bits .and .i64 a ((2 ^ k - 1 : Nat) : Int) = (r : Int) := by
  obtain ⟨r, h1, h2⟩ := and_low a k hk
  have h3 : evB2 .and .i64 a .i64 ((2 ^ k - 1 : Nat) : Int) = some (.int .i64 (bits .and .i64 a ((2 ^ k - 1 : Nat) : Int))) := rfl
  rw [h3] at h2
  exact ⟨r, h1, by simpa using h2⟩
theorem shl_one (n : Nat) (hn : n < 4) (w : World) : (Op.shift .shl .i64 1 .i64 (n : Int)).run Tryd.prog w = .ok (.int .i64 ((2 ^ n : Nat) : Int)) w := by
  match n, hn with
  | 0, _ => rfl
  | 1, _ => rfl
  | 2, _ => rfl
  | 3, _ => rfl
  | n + 4, h => omega
theorem two_pow (n : Nat) (hn : n < 4) : wrap64 (2 ^ n) = ((2 ^ n : Nat) : Int) :=
  match n, hn with
  | 0, _ => by kernel_rfl
  | 1, _ => by kernel_rfl
  | 2, _ => by kernel_rfl
  | 3, _ => by kernel_rfl
  | n + 4, h => by omega
def sameB : Bool := (List.range 16).all fun r => (List.range 16).all fun s => (List.range 4).all fun k => (List.range 4).all fun m => (regN r k == regN s m) == (r == s && k == m)
theorem same_all : sameB = true := by kernel_rfl
theorem full_all : ((List.range 16).all fun r => (List.range 4).all fun k => !(regN r k).isEmpty) = true := by kernel_rfl
theorem same {r s k m : Nat} (hr : r < 16) (hs : s < 16) (hk : k < 4) (hm : m < 4) : (regN r k == regN s m) = (r == s && k == m) := by
  have h := same_all
  simp only [sameB, List.all_eq_true, List.mem_range] at h
  exact eq_of_beq (h r hr s hs k hk m hm)
theorem full {r k : Nat} (hr : r < 16) (hk : k < 4) : regN r k ≠ [] := by
  have h := full_all
  simp only [List.all_eq_true, List.mem_range] at h
  have := h r hr k hk
  intro e
  rw [e] at this
  cases this
theorem pow_all : ((List.range 4).all fun k => (List.range 4).all fun m => (wrap64 (2 ^ k) == wrap64 (2 ^ m)) == (k == m)) = true := by kernel_rfl
theorem pow_ne {k m : Nat} (hk : k < 4) (hm : m < 4) (h : k ≠ m) : (wrap64 (2 ^ k) == wrap64 (2 ^ m)) = false := by
  have h1 := pow_all
  simp only [List.all_eq_true, List.mem_range] at h1
  rw [eq_of_beq (h1 k hk m hm)]
  simpa using h
theorem reg_size (w : World) (hN : GsOk w) (r k : Nat) (hr : r < 16) (hk : k < 4) : Calls Tryd.prog 16 #[.int .i64 (r : Int), .int .i64 (wrap64 (2 ^ k))] w fun e w' => e = .returned (.string ⟨⟨regN r k⟩⟩) ∧ Below w.heap.size w w' := by
  rw [two_pow k hk]; exact reg_sizes w hN r k hr hk
end Go.Proofs.YtpkbkmppkgeklaaDoor
