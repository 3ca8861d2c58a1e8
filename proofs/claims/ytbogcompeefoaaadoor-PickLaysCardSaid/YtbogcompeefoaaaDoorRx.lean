/- Walks: may an end be?. No condition. -/
import Derived.Test.YtbogcompeefoaaaDoorRw
namespace Go.Proofs.YtbogcompeefoaaaDoor
open Go.RowKit
set_option linter.unusedVariables false
set_option maxHeartbeats 2000000
/-- may an end be, where there are so many registers and blocks -/
def TI (nb : Nat) (regs : Int) (t : TermD) : Prop :=
  1 ≤ t.kind ∧ t.kind ≤ 3 ∧ argsB regs (readsT t) = true ∧ (t.kind = 2 → 16 ≤ t.op ∧ t.op ≤ 21) ∧ ∀ n ∈ nextT t, 0 ≤ n ∧ n < nb
def BoxT (w : World) (g : Nat) (t : TermD) : Prop :=
  w.cell? ⟨g, 0, none⟩ = some (.int .i64 t.kind) ∧ w.cell? ⟨g, 1, none⟩ = some (.int .i64 t.op) ∧ w.cell? ⟨g, 2, none⟩ = some (.int .i64 t.a.reg) ∧ w.cell? ⟨g, 3, none⟩ = some (.int .i64 t.a.num) ∧
  w.cell? ⟨g, 4, none⟩ = some (.int .i64 t.b.reg) ∧ w.cell? ⟨g, 5, none⟩ = some (.int .i64 t.b.num) ∧ w.cell? ⟨g, 6, none⟩ = some (.int .i64 t.to_) ∧ w.cell? ⟨g, 7, none⟩ = some (.int .i64 t.els)
theorem BoxT.later {w w' : World} {g : Nat} {t : TermD} (h : BoxT w g t) (hb : Below w.heap.size w w') : BoxT w' g t := by
  obtain ⟨h0, h1, h2, h3, h4, h5, h6, h7⟩ := h
  exact ⟨Go.Proofs.YtbogcompeefoaaaDoor.later h0 hb, Go.Proofs.YtbogcompeefoaaaDoor.later h1 hb, Go.Proofs.YtbogcompeefoaaaDoor.later h2 hb, Go.Proofs.YtbogcompeefoaaaDoor.later h3 hb, Go.Proofs.YtbogcompeefoaaaDoor.later h4 hb, Go.Proofs.YtbogcompeefoaaaDoor.later h5 hb, Go.Proofs.YtbogcompeefoaaaDoor.later h6 hb, Go.Proofs.YtbogcompeefoaaaDoor.later h7 hb⟩
theorem boxT_new (w : World) (t : TermD) (T : TypeId) : BoxT (w.alloc (.cells #[.int .i64 t.kind, .int .i64 t.op, .int .i64 t.a.reg, .int .i64 t.a.num, .int .i64 t.b.reg, .int .i64 t.b.num, .int .i64 t.to_, .int .i64 t.els] T)) w.heap.size t := by
  have h := blk_new w (.cells #[.int .i64 t.kind, .int .i64 t.op, .int .i64 t.a.reg, .int .i64 t.a.num, .int .i64 t.b.reg, .int .i64 t.b.num, .int .i64 t.to_, .int .i64 t.els] T)
  exact ⟨blk_cell h rfl, blk_cell h rfl, blk_cell h rfl, blk_cell h rfl, blk_cell h rfl, blk_cell h rfl, blk_cell h rfl, blk_cell h rfl⟩
theorem ends_kind (w : World) (g0 : Nat) (hg0 : g0 = w.heap.size) (fb fo nb : Nat) (t : TermD) (regs : Int) (hk : In64 t.kind) (k : t.kind < 1 ∨ 3 < t.kind) :
    Calls Tryd.prog 19 #[.pointer (some ⟨fb, fo, none⟩), termV t] w fun e w' => RIs (TI nb regs t) e ∧ Below g0 w w' := by
  have hno : ¬ TI nb regs t := by unfold TI; omega
  have HNo := Lib.hid hno
  have HG := Lib.hid hg0
  have hd : decide (t.kind < 1) = true ∨ (decide (t.kind < 1) = false ∧ decide (3 < t.kind) = true) := by
    by_cases h : t.kind < 1
    · exact Or.inl (decide_eq_true h)
    · exact Or.inr ⟨decide_eq_false h, decide_eq_true (by omega)⟩
  clear hno k hg0
  rcases hd with d1 | ⟨d1, d2⟩
  all_goals
    go_enter Tryd.func19, Tryd.ntmps19
    go_wp2_with fail
    go_returns
    exact ⟨ris_of (by simp [HNo.out]), by rw [HG.out]; exact below_alloc _ (Below.refl _ _)⟩
theorem all_take {n : Nat} {l : List Int} {k : Nat} {x : Int} (h : l[k]? = some x) (ha : ∀ y ∈ l.take k, 0 ≤ y ∧ y < n) (hx : 0 ≤ x ∧ x < n) : ∀ y ∈ l.take (k + 1), 0 ≤ y ∧ y < (n : Int) := by
  rw [List.take_add_one, h]
  intro y hy
  rcases List.mem_append.1 hy with hy | hy
  · exact ha y hy
  · simp at hy; subst hy; exact hx
theorem nextT_in (t : TermD) (h1 : In64 t.to_) (h2 : In64 t.els) : ∀ x ∈ nextT t, In64 x := by
  intro x hx
  unfold nextT at hx
  split at hx
  · simp at hx; subst hx; exact h1
  · split at hx
    · simp at hx; rcases hx with rfl | rfl
      · exact h1
      · exact h2
    · cases hx
set_option maxRecDepth 100000 in
theorem ends_in (w : World) (g0 : Nat) (hg0 : g0 = w.heap.size) (fb fo nb : Nat) (t : TermD) (regs : Int) (hfr : w.cell? ⟨fb, fo + 3, none⟩ = some (.int .i64 regs)) (hrin : In64 regs) (A : Option Addr) (cb : Nat) (hfb : w.cell? ⟨fb, fo + 5, none⟩ = some (.slice A nb cb)) (hnb : nb ≤ 9223372036854775807)
    (ha : In64 t.a.reg ∧ In64 t.a.num) (hb : In64 t.b.reg ∧ In64 t.b.num) (h1 : In64 t.to_) (h2 : In64 t.els) (hk : In64 t.kind) (ho : In64 t.op) (k1 : 1 ≤ t.kind) (k3 : t.kind ≤ 3) :
    Calls Tryd.prog 19 #[.pointer (some ⟨fb, fo, none⟩), termV t] w fun e w' => RIs (TI nb regs t) e ∧ Below g0 w w' := by
  have HR := Lib.hid (fun w => treads_any w t ha hb)
  have HN := Lib.hid (fun w => next_any w t h1 h2)
  have HA := Lib.hid (fun w' v (h : w'.cell? ⟨fb, fo + 3, none⟩ = some (.int .i64 regs)) hv => args_any w' fb fo regs v (readsT t) h hrin hv)
  have HG := Lib.hid hg0
  have HI := Lib.hid (nextT_in t h1 h2)
  have hbx := Lib.hid (boxT_new w t 55)
  have d1 : decide (t.kind < 1) = false := decide_eq_false (by omega)
  have d2 : decide (3 < t.kind) = false := decide_eq_false (by omega)
  have hf0 := Lib.hid hfr
  have hf1 := Lib.hid hfb
  obtain ⟨o1, o2⟩ := ho
  obtain ⟨q1, q2⟩ := hk
  clear hg0 hfr hfb
  go_enter Tryd.func19, Tryd.ntmps19
  go_wp2_with fail
  refine (HR.out _).mono ?_
  rintro e w2 ⟨v2, rfl, hs2, hb2⟩
  have HB2 := Lib.hid ((below_alloc (.cells #[.int .i64 t.kind, .int .i64 t.op, .int .i64 t.a.reg, .int .i64 t.a.num, .int .i64 t.b.reg, .int .i64 t.b.num, .int .i64 t.to_, .int .i64 t.els] 55) (Below.refl w.heap.size w)).trans (hb2.mono (by simp)))
  have hx2 := Lib.hid (hbx.out.later hb2)
  have HS2 := Lib.hid hs2
  clear hs2 hb2 hbx
  go_wp2_with fail
  refine (HA.out _ _ (later hf0.out HB2.out) HS2.out).mono ?_
  rintro e w3 ⟨rfl, hb3⟩
  have HB3 := Lib.hid (HB2.out.trans (hb3.mono HB2.out.size))
  have HX3 := Lib.hid (hx2.out.later hb3)
  have hf2 := later hf1.out HB3.out
  obtain ⟨c0, c1, c2, c3, c4, c5, c6, c7⟩ := hx2.out.later hb3
  clear hb3 hx2 HB2
  cases hab : argsB regs (readsT t) with
  | false =>
    have HNo := Lib.hid (show ¬ TI nb regs t by unfold TI; rw [hab]; simp)
    go_wp2_with fail
    go_returns
    exact ⟨ris_of (by simp [HNo.out]), by rw [HG.out]; exact HB3.out⟩
  | true =>
    have HAB := Lib.hid hab
    clear hab
    by_cases hop : t.kind = 2 ∧ ¬ (16 ≤ t.op ∧ t.op ≤ 21)
    · have HNo := Lib.hid (show ¬ TI nb regs t by unfold TI; omega)
      obtain ⟨z1, z2⟩ := hop
      have hd : decide (t.op < 16) = true ∨ (decide (t.op < 16) = false ∧ decide (21 < t.op) = true) := by
        by_cases h : t.op < 16
        · exact Or.inl (decide_eq_true h)
        · exact Or.inr ⟨decide_eq_false h, decide_eq_true (by omega)⟩
      have e2 : (t.kind == 2) = true := by simpa using z1
      clear z2 z1
      rcases hd with d5 | ⟨d5, d6⟩
      all_goals
        go_wp2_with fail
        go_returns
        exact ⟨ris_of (by simp [HNo.out]), by rw [HG.out]; exact HB3.out⟩
    · have HOP := Lib.hid (show t.kind = 2 → 16 ≤ t.op ∧ t.op ≤ 21 by omega)
      have hd : (t.kind == 2) = false ∨ ((t.kind == 2) = true ∧ decide (t.op < 16) = false ∧ decide (21 < t.op) = false) := by
        by_cases h : t.kind = 2
        · exact Or.inr ⟨by simpa using h, decide_eq_false (by omega), decide_eq_false (by omega)⟩
        · exact Or.inl (by simpa using h)
      clear hop
      rcases hd with d5 | ⟨d5, d6, d7⟩
      all_goals
        go_wp2_with fail
        refine (HN.out _).mono ?_
        rintro e w4 ⟨v4, rfl, hs4, hb4⟩
        have HB4 := Lib.hid (HB3.out.trans (hb4.mono HB3.out.size))
        obtain ⟨A4, cap4, rfl, g1, g2, g3⟩ := hs4
        have HL := Lib.hid g3
        have hln : (nextT t).length ≤ 9223372036854775807 := by unfold maxLen at g2; omega
        clear g3 g1 g2 hb4 c0 c1 c2 c3 c4 c5 c6 c7 hf2
        obtain ⟨m, hm⟩ : ∃ m, m = (nextT t).length := ⟨_, rfl⟩
        rw [← hm] at hln ⊢
        have HM := Lib.hid hm
        clear hm
        go_wp2_with fail
        go_loop [40] (fun i => ∃ k : Nat, k ≤ m ∧ i = .int .i64 k ∧ ∀ y ∈ (nextT t).take k, 0 ≤ y ∧ y < nb) (fun i => m - (intOf i).toNat)
        case atStart => exact ⟨0, by omega, rfl, fun y hy => by simp at hy⟩
        case round =>
          obtain ⟨k, hk, rfl, hall⟩ := hrel
          have HAL := Lib.hid hall
          have hf5 := later hf1.out HB4.out
          clear hall
          by_cases hlt : k < m
          · obtain ⟨x, hx⟩ : ∃ x, (nextT t)[k]? = some x := ⟨_, List.getElem?_eq_getElem (by rw [← HM.out]; exact hlt)⟩
            obtain ⟨lb, lo, cs, rfl, e1, e2, e3, e4⟩ := HL.out k x hx
            subst e3
            have r0 := e2 0 (by omega)
            rw [Nat.add_zero, Nat.mul_one] at r0
            have HX := Lib.hid hx
            obtain ⟨x1, x2⟩ := e4
            clear e1 e2 hx
            by_cases hb0 : 0 ≤ x ∧ x < nb
            · have d8 : decide (x < 0) = false := decide_eq_false (by omega)
              have d9 : decide ((nb : Int) ≤ x) = false := decide_eq_false (by omega)
              have HXB := Lib.hid hb0
              clear hb0
              go_wp2_with fail
              go_round
              case rel => exact ⟨k + 1, by omega, by go_num, all_take HX.out HAL.out HXB.out⟩
              case measure => simp [intOf]; omega
            · have HNo := Lib.hid (show ¬ TI nb regs t by
                unfold TI
                rintro ⟨_, _, _, _, h⟩
                exact hb0 (h x (List.mem_of_getElem? HX.out)))
              have hd2 : decide (x < 0) = true ∨ (decide (x < 0) = false ∧ decide ((nb : Int) ≤ x) = true) := by
                by_cases h : x < 0
                · exact Or.inl (decide_eq_true h)
                · exact Or.inr ⟨decide_eq_false h, decide_eq_true (by omega)⟩
              clear hb0
              rcases hd2 with d8 | ⟨d8, d9⟩
              all_goals
                go_wp2_with fail
                go_returns
                exact ⟨ris_of (by simp [HNo.out]), by rw [HG.out]; exact HB4.out⟩
          · have e : k = m := by omega
            subst e
            go_wp2_with fail
            go_returns
            refine ⟨ris_of ?_, by rw [HG.out]; exact HB4.out⟩
            simp only [true_iff]
            have hall := HAL.out
            rw [HM.out, List.take_length] at hall
            exact ⟨k1, k3, HAB.out, HOP.out, hall⟩
end Go.Proofs.YtbogcompeefoaaaDoor
