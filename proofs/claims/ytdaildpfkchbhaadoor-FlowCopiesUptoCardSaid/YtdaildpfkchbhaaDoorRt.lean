/- Walks: an rtl program's arguments, what is read, where ends lead. No condition. -/
import Derived.Test.YtdaildpfkchbhaaDoorRp
import Derived.Test.YtdaildpfkchbhaaDoorStruct
import Derived.IntWalk
import Derived.Laws.OwnMore
import Derived.OwnWalk
namespace Go.Proofs.YtdaildpfkchbhaaDoor
open Go.RowKit
set_option linter.unusedVariables false
set_option maxHeartbeats 1000000
/-- are registers there? -/
def argsB (regs : Int) (l : List ArgD) : Bool := l.all fun a => !(decide (a.reg < -1) || decide (regs ≤ a.reg))
theorem argsB_take (regs : Int) (l : List ArgD) (k : Nat) (a : ArgD) (h : l[k]? = some a) : argsB regs (l.take (k + 1)) = (argsB regs (l.take k) && !(decide (a.reg < -1) || decide (regs ≤ a.reg))) := by
  unfold argsB
  rw [List.take_add_one, h]
  simp
theorem argsB_no (regs : Int) (l : List ArgD) (k : Nat) (a : ArgD) (h : l[k]? = some a) (hn : (decide (a.reg < -1) || decide (regs ≤ a.reg)) = true) : argsB regs l = false := by
  unfold argsB
  rw [List.all_eq_false]
  exact ⟨a, List.mem_of_getElem? h, by rw [hn]; decide⟩
/-- cells that stand, later on -/
theorem later {w w' : World} {a : Addr} {v : Value} (h : w.cell? a = some v) (hb : Below w.heap.size w w') : w'.cell? a = some v := (hb.cell (World.block_lt_of_cell? w _ h)).trans h
theorem SlR.later {α : Type} {w w' : World} {C : Nat} {R : List Value → α → Prop} {v : Value} {xs : List α} (h : SlR w C R v xs) (hC : 0 < C) (hb : Below w.heap.size w w') : SlR w' C R v xs := by
  obtain ⟨A, cap, h1, h2, h3, h4⟩ := h
  refine ⟨A, cap, h1, h2, h3, fun i x hi => ?_⟩
  obtain ⟨b, o, cs, g1, g2, g3, g4⟩ := h4 i x hi
  refine ⟨b, o, cs, g1, g2, fun j hj => ?_, g4⟩
  have hj2 : j < cs.length := by omega
  have e := g3 j hj
  rw [List.getElem?_eq_getElem hj2] at e ⊢
  exact Go.Proofs.YtdaildpfkchbhaaDoor.later e hb
set_option maxRecDepth 100000 in
theorem args_any (w : World) (fb fo : Nat) (regs : Int) (v : Value) (l : List ArgD) (hf : w.cell? ⟨fb, fo + 3, none⟩ = some (.int .i64 regs)) (hr : In64 regs) (hl : SlR w 2 ArgR v l) :
    Calls Tryd.prog 41 #[.pointer (some ⟨fb, fo, none⟩), v] w fun e w' => e = .returned (.bool (argsB regs l)) ∧ Below w.heap.size w w' := by
  obtain ⟨A, cap, rfl, hl1, hl2, hl3⟩ := hl
  unfold maxLen at hl2
  have HL := Lib.hid hl3
  have hlen : l.length ≤ 9223372036854775807 := by omega
  obtain ⟨n, hn⟩ : ∃ n, n = l.length := ⟨_, rfl⟩
  rw [← hn] at hlen ⊢
  have HN := Lib.hid hn
  obtain ⟨hr1, hr2⟩ := hr
  clear hl1 hl2 hl3 hn
  go_enter Tryd.func41, Tryd.ntmps41
  go_wp2_with fail
  go_loopw [9] (fun i wr => ∃ k : Nat, k ≤ n ∧ i = .int .i64 k ∧ argsB regs (l.take k) = true ∧ Below w.heap.size w wr) (fun i _ => n - (intOf i).toNat)
  case atStart => exact ⟨0, by omega, rfl, rfl, Below.refl _ _⟩
  case round =>
    obtain ⟨k, hk, rfl, hab, hb⟩ := hrel
    have HA := Lib.hid hab
    have HB := Lib.hid hb
    have hf' := later hf hb
    have hfl := World.block_lt_of_cell? _ _ hf'
    clear hab hb
    by_cases hlt : k < n
    · have hlk : k < l.length := by rw [← HN.out]; exact hlt
      obtain ⟨a, ha⟩ : ∃ a, l[k]? = some a := ⟨_, List.getElem?_eq_getElem hlk⟩
      obtain ⟨lb, lo, cs, rfl, e1, e2, e3, e4, e5⟩ := HL.out k a ha
      subst e3
      have q0 := later (e2 0 (by omega)) HB.out
      have q1 := later (e2 1 (by omega)) HB.out
      rw [Nat.add_zero] at q0
      have HT := Lib.hid (argsB_take regs l k a ha)
      have HNo := Lib.hid (argsB_no regs l k a ha)
      obtain ⟨r1, r2⟩ := e4
      clear e1 e2 e5 hlk ha
      by_cases g1 : a.reg < -1
      · have d1 : decide (a.reg < -1) = true := decide_eq_true g1
        go_wp2_with fail
        go_quiet (fail)
        go_wp2_with fail
        go_returns
        exact ⟨ret_bool (by rw [HNo.out (by rw [d1]; rfl)]), below_drewN (below_alloc _ HB.out) _⟩
      · have d1 : decide (a.reg < -1) = false := decide_eq_false g1
        by_cases g2 : regs ≤ a.reg
        · have d2 : decide (regs ≤ a.reg) = true := decide_eq_true g2
          go_wp2_with fail
          go_quiet (fail)
          go_wp2_with fail
          go_returns
          exact ⟨ret_bool (by rw [HNo.out (by rw [d1, d2]; rfl)]), below_drewN (below_alloc _ HB.out) _⟩
        · have d2 : decide (regs ≤ a.reg) = false := decide_eq_false g2
          go_wp2_with fail
          go_quiet (fail)
          go_wp2_with fail
          go_roundw
          case rel => exact ⟨k + 1, by omega, by go_num, by rw [HT.out, HA.out, d1, d2]; rfl, below_drewN (below_alloc _ HB.out) _⟩
          case measure => simp [intOf]; omega
    · have e : k = n := by omega
      subst e
      go_wp2_with fail
      go_returns
      refine ⟨ret_bool ?_, HB.out⟩
      rw [← HA.out, HN.out, List.take_length]
theorem sized_any (w : World) (n : Int) (hn : In64 n) : Calls Tryd.prog 42 #[.int .i64 n] w fun e w' => e = .returned (.bool (decide (n = 1 ∨ n = 2 ∨ n = 4 ∨ n = 8))) ∧ w = w' := by
  obtain ⟨h1, h2⟩ := hn
  go_enter Tryd.func42, Tryd.ntmps42
  go_wp2
  all_goals go_returns
  all_goals refine ⟨ret_bool ?_, rfl⟩
  all_goals
    rw [Bool.eq_iff_iff]
    simp only [Bool.or_eq_true, beq_iff_eq, decide_eq_true_eq]
    first | omega | (simp_all; done) | (simp_all; omega)
theorem two_any (w : World) (n : Int) (hn : In64 n) : Calls Tryd.prog 44 #[.int .i64 n] w fun e w' => e = .returned (.bool (decide (3 ≤ n ∧ n ≤ 21))) ∧ w = w' := by
  obtain ⟨h1, h2⟩ := hn
  go_enter Tryd.func44, Tryd.ntmps44
  go_wp2
  all_goals go_returns
  all_goals refine ⟨ret_bool ?_, rfl⟩
  all_goals
    rw [Bool.eq_iff_iff]
    simp only [Bool.and_eq_true, decide_eq_true_eq]
    first | omega | (simp_all; done) | (simp_all; omega)
end Go.Proofs.YtdaildpfkchbhaaDoor
