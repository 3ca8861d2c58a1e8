/- SpecNone: the law, run with marks for its arguments. No condition. -/
import Derived.Test.YtinamdcmkamlhaaGreatDoorSnF
namespace Go.Proofs.YtinamdcmkamlhaaGreatDoor
open Go.RowKit
set_option linter.unusedVariables false
theorem kn_nil (ρ : Int → Int) : KnowOk ρ [] := fun p hp => by cases hp
theorem kn_cons {ρ : Int → Int} {n : Value} {b : Bool} {H : Know} (h : den ρ n = some (.bool b)) (hH : KnowOk ρ H) : KnowOk ρ ((n, .bool b) :: H) := by
  intro p hp
  rcases List.mem_cons.1 hp with rfl | hp
  · exact ⟨h, rfl⟩
  · exact hH p hp
theorem kn_lss {ρ : Int → Int} (m l : Int) (b : Bool) (h : decide (ρ m < l) = b) : den ρ (symNode .lss .i64 (mark .i64 m) (.int .i64 l)) = some (.bool b) := den_cmp rfl (den_mark _ _ _) (den_lit _ _ _) (by simp only [evB2, isShift, evB, h]; rfl)
theorem kn_gtr {ρ : Int → Int} (m l : Int) (b : Bool) (h : decide (ρ m > l) = b) : den ρ (symNode .gtr .i64 (mark .i64 m) (.int .i64 l)) = some (.bool b) := den_cmp rfl (den_mark _ _ _) (den_lit _ _ _) (by simp only [evB2, isShift, evB, h]; rfl)
theorem kn_geq {ρ : Int → Int} (m l : Int) (b : Bool) (h : decide (ρ m ≥ l) = b) : den ρ (symNode .geq .i64 (mark .i64 m) (.int .i64 l)) = some (.bool b) := den_cmp rfl (den_mark _ _ _) (den_lit _ _ _) (by simp only [evB2, isShift, evB, h]; rfl)
theorem kn_leq {ρ : Int → Int} (m l : Int) (b : Bool) (h : decide (ρ m ≤ l) = b) : den ρ (symNode .leq .i64 (mark .i64 m) (.int .i64 l)) = some (.bool b) := den_cmp rfl (den_mark _ _ _) (den_lit _ _ _) (by simp only [evB2, isShift, evB, h]; rfl)
def m4 (w a b m : Int) : Int → Int := fun k => if k = 0 then w else if k = 1 then a else if k = 9 then m else b
theorem dir_vr (w a b m : Int) (β : Place) : VR (den (m4 w a b m)) β (.agg #[mark .i64 1, mark .i64 2]) (.agg #[.int .i64 a, .int .i64 b]) := by
  refine .agg [mark .i64 1, mark .i64 2] [.int .i64 a, .int .i64 b] rfl ?_
  intro j x y hx hy
  match j, hx, hy with
  | 0, hx, hy => cases hx; cases hy; exact mark_vr (m4 w a b m) β .i64 1
  | 1, hx, hy => cases hx; cases hy; exact mark_vr (m4 w a b m) β .i64 2
theorem none_of {n a b m : Int} (H : Know) (hH : KnowOk (m4 n a b m) H) (h : (vcall (Sy.ints Tryz.prog (m4 n a b m) H hH tabX gn) 100000 80 gn 3 [mark .i64 0, .agg #[mark .i64 1, mark .i64 2]] (globW gn gsM)).map (·.1) = some (.bool true)) (w : World) (hN : NeedOk gs w ∧ gn ≤ w.heap.size) (hm : w.cell? ⟨0, 0, none⟩ = some (.int .i64 m)) :
    Calls Tryz.prog 3 #[.int .i64 n, .agg #[.int .i64 a, .int .i64 b]] w fun e w' => e = .returned (.bool true) ∧ Below w.heap.size w w' :=
  vrunR _ mixed 100000 80 3 gn gsM _ [.int .i64 n, .agg #[.int .i64 a, .int .i64 b]] (.bool true) (fun g hg => Nat.blt_eq.mp hg) w hN.2 gsM_lt (gsM_ok (ρ := m4 n a b m) hN.1 hm) (fun β => LR.cons (mark_vr (m4 n a b m) β .i64 0) (LR.cons (dir_vr n a b m β) LR.nil)) rfl h
theorem none_low (n a b m : Int) (h : n < 1) (w : World) (hN : NeedOk gs w ∧ gn ≤ w.heap.size) (hm : w.cell? ⟨0, 0, none⟩ = some (.int .i64 m)) :
    Calls Tryz.prog 3 #[.int .i64 n, .agg #[.int .i64 a, .int .i64 b]] w fun e w' => e = .returned (.bool true) ∧ Below w.heap.size w w' :=
  none_of _ (kn_cons (kn_lss 0 1 true (decide_eq_true h)) (kn_cons (kn_geq 0 1 false (decide_eq_false (show ¬ (n ≥ 1) by omega))) (kn_nil (m4 n a b m)))) (by kernel_rfl) w hN hm
theorem none_high (n a b m : Int) (h : n > 256) (w : World) (hN : NeedOk gs w ∧ gn ≤ w.heap.size) (hm : w.cell? ⟨0, 0, none⟩ = some (.int .i64 m)) :
    Calls Tryz.prog 3 #[.int .i64 n, .agg #[.int .i64 a, .int .i64 b]] w fun e w' => e = .returned (.bool true) ∧ Below w.heap.size w w' :=
  none_of _ (kn_cons (kn_lss 0 1 false (decide_eq_false (show ¬ (n < 1) by omega))) (kn_cons (kn_geq 0 1 true (decide_eq_true (show n ≥ 1 by omega))) (kn_cons (kn_gtr 0 256 true (decide_eq_true h)) (kn_cons (kn_leq 0 256 false (decide_eq_false (show ¬ (n ≤ 256) by omega))) (kn_nil (m4 n a b m)))))) (by kernel_rfl) w hN hm
theorem none_mid (n a b m : Int) (h1 : 1 ≤ n) (h2 : n ≤ 256) (w : World) (hN : NeedOk gs w ∧ gn ≤ w.heap.size) (hm : w.cell? ⟨0, 0, none⟩ = some (.int .i64 m)) :
    Calls Tryz.prog 3 #[.int .i64 n, .agg #[.int .i64 a, .int .i64 b]] w fun e w' => e = .returned (.bool true) ∧ Below w.heap.size w w' :=
  none_of _ (kn_cons (kn_lss 0 1 false (decide_eq_false (show ¬ (n < 1) by omega))) (kn_cons (kn_geq 0 1 true (decide_eq_true (show n ≥ 1 by omega))) (kn_cons (kn_gtr 0 256 false (decide_eq_false (show ¬ (n > 256) by omega))) (kn_cons (kn_leq 0 256 true (decide_eq_true (show n ≤ 256 by omega))) (kn_nil (m4 n a b m)))))) (by kernel_rfl) w hN hm
theorem none_law (n a b : Int) (w : World) (hN : NeedOk gs w ∧ gn ≤ w.heap.size) (hI : NeedI [0] w) :
    Calls Tryz.prog 3 #[.int .i64 n, .agg #[.int .i64 a, .int .i64 b]] w fun e w' => e = .returned (.bool true) ∧ Below w.heap.size w w' := by
  obtain ⟨m, hm⟩ := hI 0 (by simp)
  by_cases h1 : n < 1
  · exact none_low n a b m h1 w hN hm
  by_cases h2 : n > 256
  · exact none_high n a b m h2 w hN hm
  · exact none_mid n a b m (by omega) (by omega) w hN hm
end Go.Proofs.YtinamdcmkamlhaaGreatDoor
