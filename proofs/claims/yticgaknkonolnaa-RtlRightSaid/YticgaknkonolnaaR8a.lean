/- Walks: the reference's regs; rtl.Right of no program. No condition. -/
import Derived.Test.YticgaknkonolnaaRl
namespace Go.Proofs.Yticgaknkonolnaa
open Go.RowKit
set_option linter.unusedVariables false
set_option maxHeartbeats 2000000
theorem block_box8 (w : World) (cs : Array Value) (T : TypeId) (i : Nat) (v : Value) (hi : cs[i]? = some v) : (w.alloc (.cells cs T)).cell? ⟨w.heap.size, i, none⟩ = some v := blk_cell (blk_new w (.cells cs T)) hi
set_option maxRecDepth 100000 in
theorem right_nil (w : World) : Calls Try.prog 14 #[.pointer none] w fun e w' => e = .returned (.int .i64 50) ∧ Below w.heap.size w w' := by
  go_enter Try.func14, Try.ntmps14
  go_wp2_with fail
  go_quiet (fail)
  go_wp2_with fail
  go_returns
  exact ⟨rfl, below_drewN (Below.refl _ _) _⟩
set_option maxRecDepth 100000 in
theorem regs8_any (w : World) (nm : ByteArray) (pa regs : Int) (A1 A2 A3 : Option Addr) (n1 n2 n3 c1 c2 c3 : Nat) (hr : In64 regs) (v : Value) (l : List ArgD) (hl : SlR w 2 ArgR v l) :
    Calls Try.prog 40 #[.agg #[.string nm, .int .i64 pa, .slice A1 n1 c1, .int .i64 regs, .slice A2 n2 c2, .slice A3 n3 c3], v] w fun e w' => e = .returned (.bool (argsB regs l)) ∧ Below w.heap.size w w' := by
  obtain ⟨A, cap, rfl, hl1, hl2, hl3⟩ := hl
  unfold maxLen at hl2
  have HL := Lib.hid hl3
  have hlen : l.length ≤ 9223372036854775807 := by omega
  obtain ⟨n, hn⟩ : ∃ n, n = l.length := ⟨_, rfl⟩
  rw [← hn] at hlen ⊢
  have HN := Lib.hid hn
  obtain ⟨hr1, hr2⟩ := hr
  have HBO := Lib.hid (block_box8 w #[.string nm, .int .i64 pa, .slice A1 n1 c1, .int .i64 regs, .slice A2 n2 c2, .slice A3 n3 c3] 95)
  have HBB := Lib.hid (below_alloc (.cells #[.string nm, .int .i64 pa, .slice A1 n1 c1, .int .i64 regs, .slice A2 n2 c2, .slice A3 n3 c3] 95) (Below.refl w.heap.size w))
  clear hl1 hl2 hl3 hn
  go_enter Try.func40, Try.ntmps40
  go_wp2_with fail
  obtain ⟨wa, hwa⟩ : ∃ z, z = w.alloc (.cells #[.string nm, .int .i64 pa, .slice A1 n1 c1, .int .i64 regs, .slice A2 n2 c2, .slice A3 n3 c3] 95) := ⟨_, rfl⟩
  obtain ⟨gf, hgf⟩ : ∃ z, z = w.heap.size := ⟨_, rfl⟩
  rw [← hwa] at HBO HBB ⊢
  rw [← hgf] at HBO ⊢
  clear hwa hgf
  go_loopw [5] (fun i wr => ∃ k : Nat, k ≤ n ∧ i = .int .i64 k ∧ argsB regs (l.take k) = true ∧ Below wa.heap.size wa wr) (fun i _ => n - (intOf i).toNat)
  case atStart => exact ⟨0, by omega, rfl, rfl, Below.refl _ _⟩
  case round =>
    obtain ⟨k, hk, rfl, hab, hb⟩ := hrel
    have HA := Lib.hid hab
    have HB := Lib.hid hb
    have HW := Lib.hid (HBB.out.bt hb)
    have kf := later (HBO.out 3 (.int .i64 regs) rfl) hb
    have hkf := World.block_lt_of_cell? _ _ kf
    clear hab hb
    by_cases hlt : k < n
    · have hlk : k < l.length := by rw [← HN.out]; exact hlt
      obtain ⟨a, ha⟩ : ∃ a, l[k]? = some a := ⟨_, List.getElem?_eq_getElem hlk⟩
      obtain ⟨lb, lo, cs, rfl, e1, e2, e3, e4, e5⟩ := HL.out k a ha
      subst e3
      have q0 := later (e2 0 (by omega)) HW.out
      rw [Nat.add_zero] at q0
      have hq0 := World.block_lt_of_cell? _ _ q0
      have HT := Lib.hid (argsB_take regs l k a ha)
      have HNo := Lib.hid (argsB_no regs l k a ha)
      obtain ⟨r1, r2⟩ := e4
      clear e1 e2 e5 hlk ha
      by_cases g1 : a.reg < -1
      · have d1 : decide (a.reg < -1) = true := decide_eq_true g1
        go_wp2_with fail
        go_quiet (fail)
        go_wp2_with fail
        go_returns
        exact ⟨ret_bool (by rw [HNo.out (by rw [d1]; rfl)]), below_drewN HW.out _⟩
      · have d1 : decide (a.reg < -1) = false := decide_eq_false g1
        by_cases g2 : regs ≤ a.reg
        · have d2 : decide (regs ≤ a.reg) = true := decide_eq_true g2
          go_wp2_with fail
          go_quiet (fail)
          go_wp2_with fail
          go_returns
          exact ⟨ret_bool (by rw [HNo.out (by rw [d1, d2]; rfl)]), below_drewN HW.out _⟩
        · have d2 : decide (regs ≤ a.reg) = false := decide_eq_false g2
          go_wp2_with fail
          go_quiet (fail)
          go_wp2_with fail
          go_roundw
          case rel => exact ⟨k + 1, by omega, by go_num, by rw [HT.out, HA.out, d1, d2]; rfl, below_drewN HB.out _⟩
          case measure => simp [intOf]; omega
    · have e : k = n := by omega
      subst e
      go_wp2_with fail
      go_returns
      refine ⟨ret_bool ?_, HW.out⟩
      rw [← HA.out, HN.out, List.take_length]
end Go.Proofs.Yticgaknkonolnaa
