/- The walk of AllocFew. No condition. -/
import Derived.Test.YtegnaeinpacafaaFw2
import Derived.Test.YtegnaeinpacafaaAm4
import Derived.Test.YtegnaeinpacafaaAm2
import Derived.Test.YtegnaeinpacafaaFit17
namespace Go.Proofs.Ytegnaeinpacafaa
open Go.RowKit
set_option linter.unusedVariables false
set_option maxHeartbeats 4000000
theorem r_walk (n : Int) (w : World) : Calls Try.prog 8 #[.int .i64 n] w fun e w' => e = .returned (.agg #[.int .i64 n, .int .i64 0]) ∧ Below w.heap.size w w' := by
  go_enter Try.func8, Try.ntmps8
  go_wp2
  go_returns
  exact ⟨rfl, below_alloc _ (Below.refl _ _)⟩
theorem n_walk (n : Int) (w : World) : Calls Try.prog 7 #[.int .i64 n] w fun e w' => e = .returned (.agg #[.int .i64 (-1), .int .i64 n]) ∧ Below w.heap.size w w' := by
  go_enter Try.func7, Try.ntmps7
  go_wp2
  go_returns
  exact ⟨rfl, below_alloc _ (Below.refl _ _)⟩
theorem mod60 (n : Int) : ∃ m : Int, n.tmod 60 = m ∧ -60 < m ∧ m < 60 := by
  refine ⟨_, rfl, ?_, Int.tmod_lt_of_pos n (by decide)⟩
  rcases Int.le_total 0 n with h | h
  · have := Int.tmod_nonneg 60 h; omega
  · have h1 := Int.tmod_lt_of_pos (-n) (show (0 : Int) < 60 by decide)
    rw [Int.neg_tmod] at h1
    omega
theorem Try.infoIns : (Try.prog.info? 28).map (fun i => (i.zero, i.size, i.bytes)) = some (some (.agg #[.int .i64 0, .int .i64 0, .int .i64 0, .int .i64 0, .int .i64 0, .int .i64 0, .int .i64 0, .bool false, .bool false, .int .i64 0, .int .i64 0, .slice none 0 0]), 12, 104) := by kernel_rfl
/-- what is built after k rounds -/
structure FewS (w0 w : World) (B gB gF N k : Nat) (v : Value) : Prop where
  own : w.ownsRow B 28 12 v (k + 1) (flatI (fewL k))
  blk : w.heap[gB]? = some (.cells #[v, .int .i64 0, .int .i64 0, .int .i64 0, .int .i64 0, .int .i64 0, .int .i64 0, .int .i64 0, .int .i64 0] 33 (0, 0))
  fn : w.heap[gF]? = some (.cells #[.string ⟨#[102]⟩, .int .i64 0, .slice none 0 0, .int .i64 ((N : Int) + 1), .slice none 0 0, .slice (some ⟨gB, 0, none⟩) 1 1] 38 (0, 0))
  ne : gB ≠ gF
  le : w0.heap.size ≤ B ∧ B ≤ gB
  bel : Below w0.heap.size w0 w
  top : B ≤ w.heap.size
theorem FewS.app {w0 w w4 : World} {B gB gF N k : Nat} {v : Value} (h : FewS w0 w B gB gF N k v) (hb : Below w.heap.size w w4) (hk : k < 60) (y : Int) (hy : y = (k : Int) + 1) :
    ∃ v' w', (Builtin.append_ #[29, 29] 29 #[v, .slice (some ⟨w4.heap.size, 0, none⟩) 1 1]).run Try.prog (w4.alloc (.cells #[.int .i64 3, .int .i64 y, .int .i64 (k : Nat), .int .i64 0, .int .i64 (-1), .int .i64 1, .int .i64 0, .bool false, .bool false, .int .i64 0, .int .i64 0, .slice none 0 0] 28)) = .ok v' w' ∧ (∃ A c, v' = .slice A (k + 2) c) ∧ w'.cell? ⟨gB, 0, none⟩ = some v ∧ w'.frozen? ⟨gB, 0, none⟩ = false ∧ gB < w'.heap.size ∧ FewS w0 (w'.setCell ⟨gB, 0, none⟩ v') B gB gF N (k + 1) v' := by
  obtain ⟨i0, hi, hz0, hz1, hz2⟩ := info_parts Try.infoIns
  have o4 := own_below h.own hb
  have b4 := (hb.block gB (blk_lt h.blk)).trans h.blk
  have f4 := (hb.block gF (blk_lt h.fn)).trans h.fn
  obtain ⟨v', w', hr, ho, hg, _⟩ := append_oneC (P := Try.prog) (w := w4) B 29 28 i0 _ 12 104 Try.underlying29 hi hz0 hz1 hz2 rfl (by decide) v (k + 1) (flatI (fewL k)) o4 #[.int .i64 3, .int .i64 y, .int .i64 (k : Nat), .int .i64 0, .int .i64 (-1), .int .i64 1, .int .i64 0, .bool false, .bool false, .int .i64 0, .int .i64 0, .slice none 0 0] rfl _ rfl (by simp [Value.oneCell']) (by unfold maxLen; omega) (by omega) (Nat.le_trans h.top hb.size)
  have ho2 : w'.ownsRow B 28 12 v' (k + 1 + 1) (flatI (fewL (k + 1))) := by
    show w'.ownsRow B _ 12 v' (k + 1 + 1) (flatI (fewL k ++ [fewI k]))
    rw [flatI_snoc]
    subst hy
    exact ho
  have b5 := blk_kept b4 hg (own_blk o4 b4 (by decide))
  have f5 := blk_kept f4 hg (own_blk o4 f4 (by decide))
  obtain ⟨A, c, hv, _⟩ := own_slice ho2
  have g1 : w'.grownBy (w'.setCell ⟨gB, 0, none⟩ v') (some gB) := ⟨rfl, rfl, rfl, by simp [World.setCell], fun k hk hne => Below.heap_setCell _ ⟨gB, 0, none⟩ _ k (fun e => hne (by rw [e]))⟩
  have hbw : Below w0.heap.size w0 w' := below_of_grown (h.bel.trans (hb.mono h.bel.size)) (Nat.le_refl _) hg (fun k hk => Nat.le_trans h.le.1 (World.ownsRow.lt o4 k hk).1)
  refine ⟨v', w', hr, ⟨A, c, hv⟩, blk_cell b5 rfl, blk_free b5, blk_lt b5, World.ownsRow.kept ho2 g1 (own_blk ho2 b5 (by decide)), by rw [blk_setCell b5 _]; rfl, ?_, h.ne, h.le, below_of_grown hbw (Nat.le_refl _) g1 (fun k hk => by cases hk; exact Nat.le_trans h.le.1 h.le.2), ?_⟩
  · exact (Below.heap_setCell _ ⟨gB, 0, none⟩ _ gF (fun e => h.ne e.symm)).trans f5
  · have := hg.size
    have h2 := hb.size
    have h3 := h.top
    simp [World.setCell]
    omega
theorem wpList_store_1 {P : Program} {ops : Array Oper} {rest : List Oper} {op : Oper} {a : Act} {w : World} {Q : Exit → Act → World → Prop} {v : Value} {zs : List Value} {cs : Array Value} {T : TypeId} (hgd : op.guard = none) (ty : TypeId) (x y : Operand) (ho : op.op = .store ty x y)
    (g : Nat) (hx : a.eval x = .pointer (some ⟨g, 1, none⟩)) (hy : a.eval y = .agg cs) (hg : w.heap[g]? = some (.cells ([v] ++ zs).toArray T (0, 0))) (hsz : zs.length = cs.size) (hi : (P.info? ty).map (·.size) = some cs.size) (h1 : cs.all (·.oneCell') = true)
    (h : ∀ w', w'.heap[g]? = some (.cells ([v] ++ cs.toList).toArray T (0, 0)) → w.grownBy w' (some g) → wpList P ops Q rest (a.put op.dst undef) w') : wpList P ops Q (op :: rest) a w := by
  refine wpList_store_mid hgd ty x y ho g 1 cs hx hy (fun j hj => ?_) hi h1 ?_
  · have hj' : 1 + j < ([v] ++ zs).toArray.size := by simp; omega
    exact ⟨by rw [blk_cell hg (Array.getElem?_eq_getElem hj')]; rfl, blk_free hg⟩
  · have e := setCells_block g cs.toList [v] zs w T (0, 0) hg (by simpa using hsz.symm)
    simp only [List.length_singleton] at e
    rw [e]
    refine h _ ?_ ⟨rfl, rfl, rfl, by simp, fun k hk hne => ?_⟩
    · show (w.heap.setIfInBounds g _)[g]? = _
      rw [Array.getElem?_setIfInBounds_self_of_lt (blk_lt hg)]
    · show (w.heap.setIfInBounds g _)[k]? = _
      rw [Array.getElem?_setIfInBounds_ne (fun e => hne (by rw [e]))]
theorem Try.callR (v : Value) (w : World) : (callFunc 8 #[v]).run Try.prog w = .ok (.enter 8 #[v]) w := by kernel_rfl
theorem Try.callN (v : Value) (w : World) : (callFunc 7 #[v]).run Try.prog w = .ok (.enter 7 #[v]) w := by kernel_rfl
theorem few_start {w : World} (w3 : World) (hb : Below w.heap.size w w3) (N : Nat) :
    FewS w (((w3.alloc (.cells #[.int .i64 1, .int .i64 0, .int .i64 (-1), .int .i64 1, .int .i64 0, .int .i64 0, .int .i64 0, .bool false, .bool false, .int .i64 0, .int .i64 0, .slice none 0 0] 28)).alloc (.cells #[.slice (some ⟨w3.heap.size, 0, none⟩) 1 1, .int .i64 0, .int .i64 0, .int .i64 0, .int .i64 0, .int .i64 0, .int .i64 0, .int .i64 0, .int .i64 0] 33)).alloc (.cells #[.string ⟨#[102]⟩, .int .i64 0, .slice none 0 0, .int .i64 ((N : Int) + 1), .slice none 0 0, .slice (some ⟨w3.heap.size + 1, 0, none⟩) 1 1] 38)) w3.heap.size (w3.heap.size + 1) (w3.heap.size + 1 + 1) N 0 (.slice (some ⟨w3.heap.size, 0, none⟩) 1 1) := by
  refine ⟨⟨rfl, Or.inr ⟨w3.heap.size, 1, _, rfl, Nat.le_refl _, blk_alloc (blk_alloc (blk_new w3 (.cells #[.int .i64 1, .int .i64 0, .int .i64 (-1), .int .i64 1, .int .i64 0, .int .i64 0, .int .i64 0, .bool false, .bool false, .int .i64 0, .int .i64 0, .slice none 0 0] 28)) _) _, Nat.le_refl _, by unfold maxLen; omega, rfl, rfl⟩⟩, blk_alloc ?_ _, ?_, by omega, ⟨hb.size, by omega⟩, below_alloc _ (below_alloc _ (below_alloc _ hb)), (below_alloc _ (below_alloc _ (below_alloc _ (Below.refl w3.heap.size w3)))).size⟩
  · have := blk_new (w3.alloc (.cells #[.int .i64 1, .int .i64 0, .int .i64 (-1), .int .i64 1, .int .i64 0, .int .i64 0, .int .i64 0, .bool false, .bool false, .int .i64 0, .int .i64 0, .slice none 0 0] 28)) (.cells #[.slice (some ⟨w3.heap.size, 0, none⟩) 1 1, .int .i64 0, .int .i64 0, .int .i64 0, .int .i64 0, .int .i64 0, .int .i64 0, .int .i64 0, .int .i64 0] 33)
    simpa using this
  · have := blk_new ((w3.alloc (.cells #[.int .i64 1, .int .i64 0, .int .i64 (-1), .int .i64 1, .int .i64 0, .int .i64 0, .int .i64 0, .bool false, .bool false, .int .i64 0, .int .i64 0, .slice none 0 0] 28)).alloc (.cells #[.slice (some ⟨w3.heap.size, 0, none⟩) 1 1, .int .i64 0, .int .i64 0, .int .i64 0, .int .i64 0, .int .i64 0, .int .i64 0, .int .i64 0, .int .i64 0] 33)) (.cells #[.string ⟨#[102]⟩, .int .i64 0, .slice none 0 0, .int .i64 ((N : Int) + 1), .slice none 0 0, .slice (some ⟨w3.heap.size + 1, 0, none⟩) 1 1] 38)
    simpa using this
set_option maxRecDepth 100000 in
theorem fewlaw (w : World) (n : Int) :
    Calls Try.prog 3 #[.int .i64 n] w fun e w' => e = .returned (.bool true) ∧ Below w.heap.size w w' := by
  obtain ⟨m, hm, hm1, hm2⟩ := mod60 n
  go_enter Try.func3, Try.ntmps3
  go_wp2_with fail
  refine (fit_vm _).mono ?_
  rintro e w2 ⟨rfl, hb2⟩
  have HB2 := Lib.hid hb2
  clear hb2
  go_wp2_with fail
  obtain ⟨N, hN⟩ : ∃ N : Nat, m % 60 + 1 = (N : Int) := ⟨(m % 60 + 1).toNat, by omega⟩
  have hN1 : 1 ≤ N ∧ N ≤ 60 := by omega
  rw [hN]
  clear hN
  refine (n_walk 1 _).mono ?_
  rintro e w3 ⟨rfl, hb3⟩
  have HB3 := Lib.hid (HB2.out.bt hb3)
  clear hb3
  have HS := Lib.hid (few_start (w := w) w3 HB3.out N)
  go_wp2_with fail
  obtain ⟨wd, hwd⟩ : ∃ z, z = ((w3.alloc (.cells #[.int .i64 1, .int .i64 0, .int .i64 (-1), .int .i64 1, .int .i64 0, .int .i64 0, .int .i64 0, .bool false, .bool false, .int .i64 0, .int .i64 0, .slice none 0 0] 28)).alloc (.cells #[.slice (some ⟨w3.heap.size, 0, none⟩) 1 1, .int .i64 0, .int .i64 0, .int .i64 0, .int .i64 0, .int .i64 0, .int .i64 0, .int .i64 0, .int .i64 0] 33)).alloc (.cells #[.string ⟨#[102]⟩, .int .i64 0, .slice none 0 0, .int .i64 ((N : Int) + 1), .slice none 0 0, .slice (some ⟨w3.heap.size + 1, 0, none⟩) 1 1] 38) := ⟨_, rfl⟩
  rw [← hwd] at HS ⊢
  obtain ⟨B, hB⟩ : ∃ z, z = w3.heap.size := ⟨_, rfl⟩
  rw [← hB] at HS ⊢
  obtain ⟨gB, hgB⟩ : ∃ z, z = B + 1 := ⟨_, rfl⟩
  rw [← hgB] at HS ⊢
  obtain ⟨gF, hgF⟩ : ∃ z, z = gB + 1 := ⟨_, rfl⟩
  rw [← hgF] at HS ⊢
  clear hwd hB hgB hgF
  go_loopw [25] (fun s wr => ∃ (k : Nat) (v : Value), k ≤ N ∧ s = .int .i64 k ∧ FewS w wr B gB gF N k v) (fun s _ => N - (intOf s).toNat)
  case atStart => exact ⟨0, _, by omega, rfl, HS.out⟩
  case round =>
    obtain ⟨k, v, hk, rfl, hS⟩ := hrel
    have H := Lib.hid hS
    obtain ⟨Av, cv, hv, _⟩ := own_slice hS.own
    subst hv
    clear hS
    by_cases hlt : k < N
    · have kB : wr.cell? ⟨gB, 0, none⟩ = some (.slice Av (k + 1) cv) := blk_cell H.out.blk rfl
      have lB := blk_lt H.out.blk
      have hk60 : k < 60 := by omega
      have hwr : IntKind.i64.wrap ((k : Int) + 1) = (k : Int) + 1 := by first | go_num | (simp [IntKind.wrap, IntKind.bits, IntKind.signed]; omega)
      go_wp2_with fail
      go_region_law (first
          | (refine step_append_eq rfl (.tmp 32) (.tmp 39) 29 rfl _ _ _ _ (by simp [Act.eval, Act.put]) (by simp [Act.eval, Act.put]) hr3 ?_)
          | (refine step_call rfl 8 Try.callR (.tmp 35) 3 rfl (.int .i64 (k : Nat)) (by simp [Act.eval, Act.put]) _ (r_walk _ _) ?_
             rintro e w4 ⟨rfl, hb4⟩
             have hbd : Below wr.heap.size wr w4 := by first | exact hbc.bt hb4 | exact (drew_below' wr).bt hb4
             have hbc := hbd
             obtain ⟨v', w', hr3, ⟨A9, c9, rfl⟩, kc3, kf3, kl3, hS3⟩ := H.out.app hbc hk60 _ rfl
             have ka4 := later kB hbc
             have la4 := World.block_lt_of_cell? _ _ ka4
             refine ⟨_, rfl, ?_⟩)
          | (refine step_call rfl 7 Try.callN (.const (.int .i64 1)) 2 rfl (.int .i64 1) (by simp [Act.eval, Act.put]) _ (n_walk _ _) ?_
             rintro e w4 ⟨rfl, hb4⟩
             have hbd : Below wr.heap.size wr w4 := by first | exact hbc.bt hb4 | exact (drew_below' wr).bt hb4
             have hbc := hbd
             obtain ⟨v', w', hr3, ⟨A9, c9, rfl⟩, kc3, kf3, kl3, hS3⟩ := H.out.app hbc hk60 _ rfl
             have ka4 := later kB hbc
             have la4 := World.block_lt_of_cell? _ _ ka4
             refine ⟨_, rfl, ?_⟩))
      all_goals go_wp2_with fail
      all_goals go_roundw
      all_goals first | exact ⟨k + 1, _, by omega, by go_num, hS3⟩ | (simp [intOf]; omega)
    · have e : k = N := by omega
      subst e
      go_wp2_with fail
      refine (r_walk _ _).mono ?_
      rintro e w4 ⟨rfl, hb4⟩
      have HO4 := Lib.hid (own_below H.out.own hb4)
      have HK4 := Lib.hid ((hb4.block gB (blk_lt H.out.blk)).trans H.out.blk)
      have HF4 := Lib.hid ((hb4.block gF (blk_lt H.out.fn)).trans H.out.fn)
      have HB4 := Lib.hid (H.out.bel.trans (hb4.mono H.out.bel.size))
      clear hb4
      go_wp2_with (refine wpList_store_1 (v := .slice Av (k + 1) cv) (zs := [.int .i64 0, .int .i64 0, .int .i64 0, .int .i64 0, .int .i64 0, .int .i64 0, .int .i64 0, .int .i64 0]) (by rfl) 31 _ _ (by rfl) gB (by rfl) (by rfl) HK4.out (by rfl) (by kernel_rfl) (by kernel_rfl) ?_; intro w5 k5 g5)
      have HB5 := Lib.hid (below_of_grown HB4.out (Nat.le_refl _) g5 (fun q hq => by cases hq; exact Nat.le_trans H.out.le.1 H.out.le.2))
      have o5 := World.ownsRow.kept HO4.out g5 (own_blk HO4.out HK4.out (by decide))
      have HF5 := Lib.hid (blk_kept HF4.out g5 (Or.inr (fun e => H.out.ne (Option.some.inj e))))
      have HSl := Lib.hid (few_block (nm := ⟨#[102]⟩) (T := 33) (by omega) o5 rfl k5)
      have HFO := Lib.hid (few_ok ⟨#[102]⟩ k (by omega))
      have HC3 := Lib.hid (show w5.cell? ⟨gF, 3, none⟩ = some (.int .i64 ((k + 1 : Nat) : Int)) by rw [show ((k + 1 : Nat) : Int) = (k : Int) + 1 by omega]; exact blk_cell HF5.out rfl)
      clear k5 g5 o5
      refine (alloc_of w5 w5 (Below.refl _ _) gF 0 (fewF ⟨#[102]⟩ k) (k + 1) 0 HFO.out _ (blk_cell HF5.out rfl) HC3.out (blk_cell HF5.out rfl) HSl.out).mono ?_
      rintro e w6 ⟨gp, pl, cells, rfl, hp, hA, hb6⟩
      have HP := Lib.hid hp
      have HA := Lib.hid hA
      have HB6 := Lib.hid hb6
      clear hp hA hb6
      go_wp2_with fail
      refine (check_g w5 w6 HB6.out gF 0 (fewF ⟨#[102]⟩ k) _ (later (blk_cell HF5.out rfl) HB6.out) (k + 1) 0 (later HC3.out HB6.out) (later (blk_cell HF5.out rfl) HB6.out) HFO.out HSl.out _ gp pl HP.out cells HA.out).mono ?_
      rintro e w7 ⟨rfl, hb7⟩
      go_wp2_with fail
      go_returns
      exact ⟨rfl, (HB5.out.trans (HB6.out.mono HB5.out.size)).trans (hb7.mono (HB5.out.trans (HB6.out.mono HB5.out.size)).size)⟩
end Go.Proofs.Ytegnaeinpacafaa
