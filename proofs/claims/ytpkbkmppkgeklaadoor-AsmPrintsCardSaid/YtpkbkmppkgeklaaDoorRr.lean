/- What is known of an instruction's fields, and of the letters. No condition. -/
import Derived.Test.YtpkbkmppkgeklaaDoorCpuV
import Derived.Test.YtpkbkmppkgeklaaDoorVmD
namespace Go.Proofs.YtpkbkmppkgeklaaDoor
open Go.RowKit
set_option linter.unusedVariables false
theorem mixedR : Tryd.prog.follows .mixedOrders = true := by kernel_rfl
/-- calls that are known, by what they are given -/
def Tab.fn (P : Program) (g : FuncId) (F : List Value → Option Value) (hF : ∀ xs v, F xs = some v → pf v = true ∧ pfs xs = true ∧ ∀ w, Calls P g xs.toArray w fun e w' => e = .returned v ∧ Below w.heap.size w w') : Tab P :=
  ⟨fun f' xs => bif f'.beq g then F xs else Option.none, [], fun f' xs v hv => by
    cases hb : Nat.beq f' g with
    | false => rw [hb] at hv; cases hv
    | true =>
      rw [hb] at hv
      simp only [cond_true] at hv
      have := Nat.eq_of_beq_eq_true hb
      subst this
      obtain ⟨h1, h2, h3⟩ := hF xs v hv
      refine ⟨h1, fun D β xs' w _ hl => ?_⟩
      rw [pfs_LR_eq h2 hl]
      exact h3 w⟩
def usesF : List Value → Option Value
  | [.int k op] => if k = .i64 ∧ 1 ≤ op ∧ op ≤ 41 then some (.string (usesS op)) else Option.none
  | _ => Option.none
def hasF : List Value → Option Value
  | [.string s, .int k c] => if k = .u8 ∧ s.size ≤ 100 then some (.bool (hasL s c)) else Option.none
  | _ => Option.none
theorem usesF_ok : ∀ xs v, usesF xs = some v → pf v = true ∧ pfs xs = true ∧ ∀ w, Calls Tryd.prog 37 xs.toArray w fun e w' => e = .returned v ∧ Below w.heap.size w w' := by
  intro xs v hv
  unfold usesF at hv
  split at hv
  · split at hv
    · rename_i h
      simp only [Option.some.injEq] at hv
      subst hv
      obtain ⟨rfl, h1, h2⟩ := h
      refine ⟨rfl, rfl, fun w => (uses_walk _ w ⟨h1, h2⟩).mono ?_⟩
      rintro e w' ⟨rfl, rfl⟩
      exact ⟨rfl, Below.refl _ _⟩
    · cases hv
  · cases hv
theorem hasF_ok : ∀ xs v, hasF xs = some v → pf v = true ∧ pfs xs = true ∧ ∀ w, Calls Tryd.prog 38 xs.toArray w fun e w' => e = .returned v ∧ Below w.heap.size w w' := by
  intro xs v hv
  unfold hasF at hv
  split at hv
  · split at hv
    · rename_i h
      simp only [Option.some.injEq] at hv
      subst hv
      obtain ⟨rfl, h1⟩ := h
      refine ⟨rfl, rfl, fun w => (has_walk _ _ w h1).mono ?_⟩
      rintro e w' ⟨rfl, rfl⟩
      exact ⟨rfl, Below.refl _ _⟩
    · cases hv
  · cases hv
noncomputable def tabR : Tab Tryd.prog := Tab.and (Tab.fn Tryd.prog 37 usesF usesF_ok) (Tab.fn Tryd.prog 38 hasF hasF_ok) rfl
def m5 (d s i z c : Int) : Int → Int := fun k => if k = 0 then d else if k = 1 then s else if k = 2 then i else if k = 3 then z else c
def argR (op : Int) (sg : Bool) (to_ : ByteArray) : Value := .agg #[.int .i64 op, mark .i64 0, mark .i64 1, mark .i64 2, mark .i64 3, .bool sg, mark .i64 4, .string to_]
theorem argR_vr (op : Int) (sg : Bool) (to_ : ByteArray) (d s i z c : Int) (β : Place) : VR (den (m5 d s i z c)) β (argR op sg to_) (.agg #[.int .i64 op, .int .i64 d, .int .i64 s, .int .i64 i, .int .i64 z, .bool sg, .int .i64 c, .string to_]) := by
  refine .agg [.int .i64 op, mark .i64 0, mark .i64 1, mark .i64 2, mark .i64 3, .bool sg, mark .i64 4, .string to_] [.int .i64 op, .int .i64 d, .int .i64 s, .int .i64 i, .int .i64 z, .bool sg, .int .i64 c, .string to_] rfl ?_
  intro j x y hx hy
  match j, hx, hy with
  | 0, hx, hy => cases hx; cases hy; exact .int .i64 op
  | 1, hx, hy => cases hx; cases hy; exact mark_vr (m5 d s i z c) β .i64 0
  | 2, hx, hy => cases hx; cases hy; exact mark_vr (m5 d s i z c) β .i64 1
  | 3, hx, hy => cases hx; cases hy; exact mark_vr (m5 d s i z c) β .i64 2
  | 4, hx, hy => cases hx; cases hy; exact mark_vr (m5 d s i z c) β .i64 3
  | 5, hx, hy => cases hx; cases hy; exact .bool sg
  | 6, hx, hy => cases hx; cases hy; exact mark_vr (m5 d s i z c) β .i64 4
  | 7, hx, hy => cases hx; cases hy; exact .string to_
theorem rr_of {d s i z c : Int} (H : Know) (hH : KnowOk (m5 d s i z c) H) (op : Int) (sg : Bool) (to_ : ByteArray) (b : Bool) (h : (vcall (Sy.ints Tryd.prog (m5 d s i z c) H hH tabR) 100000 60 0 11 [argR op sg to_] (globW 0 [])).map (·.1) = some (.bool b)) (w : World) :
    Calls Tryd.prog 11 #[.agg #[.int .i64 op, .int .i64 d, .int .i64 s, .int .i64 i, .int .i64 z, .bool sg, .int .i64 c, .string to_]] w fun e w' => e = .returned (.bool b) ∧ Below w.heap.size w w' :=
  vrunS _ (fun _ => rfl) mixedR 100000 60 11 _ [.agg #[.int .i64 op, .int .i64 d, .int .i64 s, .int .i64 i, .int .i64 z, .bool sg, .int .i64 c, .string to_]] (.bool b) (fun β => LR.cons (argR_vr op sg to_ d s i z c β) LR.nil) rfl h w
/-- what is known, one by one -/
theorem kn_nil (ρ : Int → Int) : KnowOk ρ [] := fun p hp => by cases hp
theorem kn_cons {ρ : Int → Int} {n : Value} {b : Bool} {H : Know} (h : den ρ n = some (.bool b)) (hH : KnowOk ρ H) : KnowOk ρ ((n, .bool b) :: H) := by
  intro p hp
  rcases List.mem_cons.1 hp with rfl | hp
  · exact ⟨h, rfl⟩
  · exact hH p hp
theorem kn_lss {ρ : Int → Int} (m l : Int) (b : Bool) (h : decide (ρ m < l) = b) : den ρ (symNode .lss .i64 (mark .i64 m) (.int .i64 l)) = some (.bool b) := den_cmp rfl (den_mark _ _ _) (den_lit _ _ _) (by simp only [evB2, isShift, evB, h]; rfl)
theorem kn_gtr {ρ : Int → Int} (m l : Int) (b : Bool) (h : decide (ρ m > l) = b) : den ρ (symNode .gtr .i64 (mark .i64 m) (.int .i64 l)) = some (.bool b) := den_cmp rfl (den_mark _ _ _) (den_lit _ _ _) (by simp only [evB2, isShift, evB, h]; rfl)
theorem kn_geq {ρ : Int → Int} (m l : Int) (b : Bool) (h : decide (ρ m ≥ l) = b) : den ρ (symNode .geq .i64 (mark .i64 m) (.int .i64 l)) = some (.bool b) := den_cmp rfl (den_mark _ _ _) (den_lit _ _ _) (by simp only [evB2, isShift, evB, h]; rfl)
theorem kn_leq {ρ : Int → Int} (m l : Int) (b : Bool) (h : decide (ρ m ≤ l) = b) : den ρ (symNode .leq .i64 (mark .i64 m) (.int .i64 l)) = some (.bool b) := den_cmp rfl (den_mark _ _ _) (den_lit _ _ _) (by simp only [evB2, isShift, evB, h]; rfl)
theorem kn_neq {ρ : Int → Int} (m l : Int) (b : Bool) (h : decide (ρ m ≠ l) = b) : den ρ (symNode .neq .i64 (mark .i64 m) (.int .i64 l)) = some (.bool b) := den_cmp rfl (den_mark _ _ _) (den_lit _ _ _) (by subst h; by_cases hh : ρ m = l <;> simp [evB2, isShift, evB, hh])
theorem kn_eql {ρ : Int → Int} (m l : Int) (b : Bool) (h : decide (ρ m = l) = b) : den ρ (symNode .eql .i64 (mark .i64 m) (.int .i64 l)) = some (.bool b) := den_cmp rfl (den_mark _ _ _) (den_lit _ _ _) (by subst h; by_cases hh : ρ m = l <;> simp [evB2, isShift, evB, hh])
theorem nT {ρ : Int → Int} {H : Know} (m l : Int) (h : ρ m ≠ l) (hH : KnowOk ρ H) : KnowOk ρ ((symNode .neq .i64 (mark .i64 m) (.int .i64 l), .bool true) :: H) := kn_cons (kn_neq m l true (decide_eq_true h)) hH
theorem nF {ρ : Int → Int} {H : Know} (m l : Int) (h : ¬ ρ m ≠ l) (hH : KnowOk ρ H) : KnowOk ρ ((symNode .neq .i64 (mark .i64 m) (.int .i64 l), .bool false) :: H) := kn_cons (kn_neq m l false (decide_eq_false h)) hH
theorem rbase (dst src imm size cond : Int) (d1 : 0 ≤ dst) (d2 : dst ≤ 15) (s1 : 0 ≤ src) (s2 : src ≤ 15) (i1 : -2147483648 ≤ imm) (i2 : imm ≤ 2147483647) :
    KnowOk (m5 dst src imm size cond) [(symNode .lss .i64 (mark .i64 0) (.int .i64 0), .bool false), (symNode .gtr .i64 (mark .i64 0) (.int .i64 15), .bool false), (symNode .lss .i64 (mark .i64 1) (.int .i64 0), .bool false), (symNode .gtr .i64 (mark .i64 1) (.int .i64 15), .bool false), (symNode .lss .i64 (mark .i64 2) (.int .i64 (-2147483648)), .bool false), (symNode .gtr .i64 (mark .i64 2) (.int .i64 2147483647), .bool false)] := (kn_cons (kn_lss 0 0 false (decide_eq_false (show ¬ (dst < 0) by omega))) (kn_cons (kn_gtr 0 15 false (decide_eq_false (show ¬ (dst > 15) by omega))) (kn_cons (kn_lss 1 0 false (decide_eq_false (show ¬ (src < 0) by omega))) (kn_cons (kn_gtr 1 15 false (decide_eq_false (show ¬ (src > 15) by omega))) (kn_cons (kn_lss 2 (-2147483648) false (decide_eq_false (show ¬ (imm < (-2147483648)) by omega))) (kn_cons (kn_gtr 2 2147483647 false (decide_eq_false (show ¬ (imm > 2147483647) by omega))) (kn_nil (m5 dst src imm size cond))))))))
theorem fin_true {args : Array Value} {f : FuncId} {w : World} {n : Nat} {R : Prop} (h : Calls Tryd.prog f args w fun e w' => e = .returned (.bool true) ∧ Below n w w') (hr : R) : Calls Tryd.prog f args w fun e w' => RightIs R e ∧ Below n w w' := h.mono fun _ _ hh => ⟨by rw [hh.1]; exact ret_rp_true hr, hh.2⟩
theorem fin_false {args : Array Value} {f : FuncId} {w : World} {n : Nat} {R : Prop} (h : Calls Tryd.prog f args w fun e w' => e = .returned (.bool false) ∧ Below n w w') (hr : ¬ R) : Calls Tryd.prog f args w fun e w' => RightIs R e ∧ Below n w w' := h.mono fun _ _ hh => ⟨by rw [hh.1]; exact ret_rp_false hr, hh.2⟩
end Go.Proofs.YtpkbkmppkgeklaaDoor
