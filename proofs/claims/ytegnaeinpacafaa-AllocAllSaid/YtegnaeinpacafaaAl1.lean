/- Walks: alloc's begins and keeps where each register has its own cell of memory. No condition. -/
import Derived.Test.YtegnaeinpacafaaFl7
namespace Go.Proofs.Ytegnaeinpacafaa
open Go.RowKit
set_option linter.unusedVariables false
set_option maxHeartbeats 2000000
/-- each register's own cell of memory -/
def ownP (R : Nat) : List Int := (List.range R).map fun (i : Nat) => (5 : Int) + (i : Int)
theorem ownP_len (R : Nat) : (ownP R).length = R := by simp [ownP]
theorem ownP_at {R i : Nat} (h : i < R) : (ownP R)[i]? = some ((5 : Int) + (i : Int)) := by simp [ownP, h]
theorem place_cell {w : World} {base R cap g i : Nat} (h : OwnI w base (.slice (some ⟨g, 0, none⟩) R cap) (ownP R)) (hi : i < R) : w.cell? ⟨g, i, none⟩ = some (.int .i64 ((5 : Int) + (i : Int))) :=
  OwnI.cell h (by rw [ownP_len]; exact hi) _ (ownP_at hi)
set_option maxRecDepth 100000 in
theorem begins_any (w : World) (fb fo : Nat) (P R : Nat) (c1 : w.cell? ⟨fb, fo + 1, none⟩ = some (.int .i64 (P : Nat))) (hP : P ≤ R) (hR : R ≤ 1000000) (base : Nat) (A : Option Addr) (cap : Nat) (hp : OwnI w base (.slice A R cap) (ownP R)) (cells : Int) (sv : Value) :
    Calls Try.prog 15 #[.pointer (some ⟨fb, fo, none⟩), .agg #[.slice A R cap, .int .i64 cells], sv] w fun e w' => e = .returned (.bool true) ∧ Below w.heap.size w w' := by
  have HP := Lib.hid hp
  have C1 := Lib.hid c1
  have hP6 : P ≤ 1000000 := by omega
  have HBB := Lib.hid (below_alloc (.cells #[.slice A R cap, .int .i64 cells] 45) (Below.refl w.heap.size w))
  have HBO := Lib.hid (blk_new w (.cells #[.slice A R cap, .int .i64 cells] 45))
  have hfl := World.block_lt_of_cell? _ _ c1
  clear hp
  go_enter Try.func15, Try.ntmps15
  go_wp2_with fail
  obtain ⟨wa, hwa⟩ : ∃ z, z = w.alloc (.cells #[.slice A R cap, .int .i64 cells] 45) := ⟨_, rfl⟩
  obtain ⟨ga, hga⟩ : ∃ z, z = w.heap.size := ⟨_, rfl⟩
  rw [← hwa] at HBB HBO ⊢
  rw [← hga] at HBO ⊢
  clear hwa hga c1 hfl
  go_loopw [13] (fun s wr => ∃ x : Nat, x ≤ P ∧ s = .int .i64 x ∧ Below wa.heap.size wa wr) (fun s _ => P - (intOf s).toNat)
  case atStart => exact ⟨0, by omega, rfl, Below.refl _ _⟩
  case round =>
    obtain ⟨x, hx, rfl, hB⟩ := hrel
    have HB := Lib.hid hB
    clear hB
    by_cases hltx : x < P
    · go_wp2_with fail
      obtain ⟨wx, rfl⟩ : ∃ z : World, z = wr := ⟨_, rfl⟩
      go_loopw [17] (fun s wr => ∃ y : Nat, y ≤ x ∧ s = .int .i64 y ∧ Below wx.heap.size wx wr) (fun s _ => x - (intOf s).toNat)
      case atStart => exact ⟨0, by omega, rfl, Below.refl _ _⟩
      case round =>
        obtain ⟨y, hy, rfl, hB⟩ := hrel
        have HBy := Lib.hid hB
        clear hB
        by_cases hlty : y < x
        · have HW := Lib.hid (HB.out.bt HBy.out)
          obtain ⟨g, cp, e, _⟩ := own_form HP.out (by rw [ownP_len]; omega)
          rw [ownP_len] at e
          cases e
          have k1 := later (place_cell HP.out (show x < R by omega)) (HBB.out.bt HW.out)
          have k2 := later (place_cell HP.out (show y < R by omega)) (HBB.out.bt HW.out)
          have ka : wr.cell? ⟨ga, 0, none⟩ = some (.slice (some ⟨g, 0, none⟩) R cap) := later (blk_cell HBO.out rfl) HW.out
          have l1 := World.block_lt_of_cell? _ _ k1
          have l2 := World.block_lt_of_cell? _ _ ka
          have hne : ((5 : Int) + (x : Int) == (5 : Int) + (y : Int)) = false := by simp; omega
          go_wp2_with fail
          go_quiet (fail)
          go_wp2_with fail
          go_roundw
          case rel => exact ⟨y + 1, by omega, by go_num, below_drewN HBy.out _⟩
          case measure => first | omega | (simp [intOf]; done) | (simp [intOf]; omega)
        · have e : y = x := by omega
          subst e
          go_wp2_with fail
          go_roundw
          case rel => exact ⟨y + 1, by omega, by go_num, HB.out.bt HBy.out⟩
          case measure => first | omega | (simp [intOf]; done) | (simp [intOf]; omega)
    · have e : x = P := by omega
      subst e
      go_wp2_with fail
      go_returns
      exact ⟨rfl, HBB.out.bt HB.out⟩
end Go.Proofs.Ytegnaeinpacafaa
