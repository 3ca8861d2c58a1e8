/- Walks: may a global be? (only that it is answered). No condition. -/
import Derived.Test.YtdaildpfkchbhaaDoorRt
namespace Go.Proofs.YtdaildpfkchbhaaDoor
open Go.RowKit
set_option linter.unusedVariables false
set_option maxHeartbeats 2000000
def SomeB (w : World) (e : Ending) (w' : World) : Prop := ∃ b : Bool, e = .returned (.bool b) ∧ Below w.heap.size w w'
theorem someB {w w' : World} (b : Bool) (h : Below w.heap.size w w') : SomeB w (.returned (.bool b)) w' := ⟨b, rfl, h⟩
set_option maxRecDepth 100000 in
theorem placed_any (W0 w : World) (h0 : Below W0.heap.size W0 w) (pb : Nat) (g : GlobD) (vp : Value) (data : Int) (vf : Value) (fs : List FuncD) (c0 : w.cell? ⟨pb, 0, none⟩ = some vf) (c2 : w.cell? ⟨pb, 2, none⟩ = some (.int .i64 data)) (hd : In64 data)
    (hf : SlR W0 6 (FuncR W0) vf fs) (hat : In64 g.at_) (hsz : In64 g.size) (hp : SlR W0 3 (PartR W0) vp g.parts) (hpl : g.parts.length ≤ 140737488351232) :
    Calls Tryd.prog 31 #[.pointer (some ⟨pb, 0, none⟩), .agg #[.string g.name, .int .i64 g.at_, .int .i64 g.size, vp]] w (SomeB w) := by
  obtain ⟨A, cap, rfl, l1, l2, l3⟩ := hp
  obtain ⟨A2, cap2, rfl, m1, m2, _⟩ := hf
  have hln : fs.length ≤ 9223372036854775807 := by unfold maxLen at m2; omega
  have HL := Lib.hid l3
  have H0 := Lib.hid h0
  obtain ⟨q1, q2⟩ := hat
  obtain ⟨q3, q4⟩ := hsz
  obtain ⟨q5, q6⟩ := hd
  have K0 := Lib.hid c0
  have b0 := World.block_lt_of_cell? _ _ c0
  have hcase : (decide (g.at_ < 0) = true) ∨ (decide (g.at_ < 0) = false ∧ decide (g.size < 0) = true) ∨ (decide (g.at_ < 0) = false ∧ decide (g.size < 0) = false ∧ decide (data < g.size) = true) ∨
      (0 ≤ g.size ∧ g.size ≤ data ∧ decide (g.at_ < 0) = false ∧ decide (g.size < 0) = false ∧ decide (data < g.size) = false ∧ decide (data - g.size < g.at_) = true) ∨ (0 ≤ g.size ∧ g.size ≤ data ∧ decide (g.at_ < 0) = false ∧ decide (g.size < 0) = false ∧ decide (data < g.size) = false ∧ decide (data - g.size < g.at_) = false) := by
    by_cases h1 : g.at_ < 0
    · exact Or.inl (decide_eq_true h1)
    · by_cases h2 : g.size < 0
      · exact Or.inr (Or.inl ⟨decide_eq_false h1, decide_eq_true h2⟩)
      · by_cases h3 : data < g.size
        · exact Or.inr (Or.inr (Or.inl ⟨decide_eq_false h1, decide_eq_false h2, decide_eq_true h3⟩))
        · by_cases h4 : data - g.size < g.at_
          · exact Or.inr (Or.inr (Or.inr (Or.inl ⟨by omega, by omega, decide_eq_false h1, decide_eq_false h2, decide_eq_false h3, decide_eq_true h4⟩)))
          · exact Or.inr (Or.inr (Or.inr (Or.inr ⟨by omega, by omega, decide_eq_false h1, decide_eq_false h2, decide_eq_false h3, decide_eq_false h4⟩)))
  clear l3 h0 l1 m1
  rcases hcase with d1 | ⟨d1, d2⟩ | ⟨d1, d2, d3⟩ | ⟨s1, s2, d1, d2, d3, d4⟩ | ⟨s1, s2, d1, d2, d3, d4⟩
  · go_enter Tryd.func31, Tryd.ntmps31
    go_wp2_with fail
    go_quiet (fail)
    go_wp2_with fail
    go_returns
    exact someB _ (below_drewN (below_alloc _ (Below.refl _ _)) _)
  · go_enter Tryd.func31, Tryd.ntmps31
    go_wp2_with fail
    go_quiet (fail)
    go_wp2_with fail
    go_returns
    exact someB _ (below_drewN (below_alloc _ (Below.refl _ _)) _)
  · go_enter Tryd.func31, Tryd.ntmps31
    go_wp2_with fail
    go_quiet (fail)
    go_wp2_with fail
    go_returns
    exact someB _ (below_drewN (below_alloc _ (Below.refl _ _)) _)
  · have hw := IntWalk.i64_in (data - g.size) (by omega)
    go_enter Tryd.func31, Tryd.ntmps31
    go_wp2_with fail
    go_quiet (fail)
    go_wp2_with fail
    go_returns
    exact someB _ (below_drewN (below_alloc _ (Below.refl _ _)) _)
  · have hw := IntWalk.i64_in (data - g.size) (by omega)
    go_enter Tryd.func31, Tryd.ntmps31
    go_wp2_with fail
    go_quiet (fail)
    clear hw
    obtain ⟨n, hn⟩ : ∃ n, n = g.parts.length := ⟨_, rfl⟩
    rw [← hn] at hpl ⊢
    have HN := Lib.hid hn
    clear hn
    go_wp2_with fail
    go_loopw [5, 43] (fun l i wr => ∃ (k : Nat) (x : Int), k ≤ n ∧ i = .int .i64 k ∧ l = .int .i64 x ∧ Below w.heap.size w wr) (fun _ i _ => n - (intOf i).toNat)
    case atStart => exact ⟨0, g.size, by omega, rfl, rfl, below_drewN (below_alloc _ (Below.refl _ _)) _⟩
    case round =>
      obtain ⟨k, x, hk, rfl, rfl, hb⟩ := hrel
      have HB := Lib.hid hb
      have k0 := later K0.out hb
      have b1 := World.block_lt_of_cell? _ _ k0
      clear hb
      by_cases hlt : k < n
      · obtain ⟨y, hy⟩ : ∃ y, g.parts[k]? = some y := ⟨_, List.getElem?_eq_getElem (by rw [← HN.out]; exact hlt)⟩
        obtain ⟨lb, lo, cs, rfl, e1, e2, vd, e3, n1, n2, n3, n4⟩ := HL.out k y hy
        subst e3
        have HB0 := Lib.hid (H0.out.trans (HB.out.mono H0.out.size))
        have r0 := later (e2 0 (by omega)) HB0.out
        have r1 := later (e2 1 (by omega)) HB0.out
        have r2 := later (e2 2 (by omega)) HB0.out
        rw [Nat.add_zero] at r0
        obtain ⟨A3, cap3, rfl, z1, z2, _⟩ := n2
        have hdl : y.data.length ≤ 9223372036854775807 := by omega
        clear e1 e2 hy
        go_wp2_with fail
        all_goals first
          | (go_returns; exact someB _ (below_alloc _ HB.out))
          | (go_roundw
             case rel => exact ⟨k + 1, _, by omega, by go_num, rfl, below_alloc _ HB.out⟩
             case measure => simp [intOf]; omega)
      · have e : k = n := by omega
        subst e
        go_wp2_with fail
        go_returns
        exact someB _ HB.out
end Go.Proofs.YtdaildpfkchbhaaDoor
