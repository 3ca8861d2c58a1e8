/- Two objects of 80 bytes: Load, told by words. No condition. -/
import Derived.Test.YtcjfkbohgnopfaaKmE
namespace Go.Proofs.Ytcjfkbohgnopfaa
open Go.RowKit
set_option linter.unusedVariables false
set_option maxHeartbeats 2000000
theorem bool_vr {D : Den} {β : Place} {b : Bool} {v' : Value} (h : VR D β (.bool b) v') : v' = .bool b := pf_eq rfl h
theorem vr_tup2 {D : Den} {β : Place} {a b : Value} {x' : Value} (h : VR D β (.tuple ⟨[a, b]⟩) x') : ∃ a' b', x' = .tuple #[a', b'] ∧ VR D β a a' ∧ VR D β b b' := by
  generalize hx : Value.tuple ⟨[a, b]⟩ = x at h
  cases h with
  | sym _ _ h1 => rw [← hx] at h1; cases h1
  | tuple xs ys hl hv =>
    simp only [Value.tuple.injEq] at hx
    have hx2 : xs = [a, b] := by have := congrArg Array.toList hx; simpa using this.symm
    subst hx2
    match ys, hl, hv with
    | [a', b'], _, hv => exact ⟨a', b', rfl, hv 0 _ _ rfl rfl, hv 1 _ _ rfl rfl⟩
  | _ => cases hx
theorem vr_agg5 {D : Den} {β : Place} {a b c d e : Value} {x' : Value} (h : VR D β (.agg ⟨[a, b, c, d, e]⟩) x') : ∃ a' b' c' d' e', x' = .agg #[a', b', c', d', e'] ∧ VR D β a a' ∧ VR D β b b' ∧ VR D β c c' ∧ VR D β d d' ∧ VR D β e e' := by
  generalize hx : Value.agg ⟨[a, b, c, d, e]⟩ = x at h
  cases h with
  | sym _ _ h1 => rw [← hx] at h1; cases h1
  | agg xs ys hl hv =>
    simp only [Value.agg.injEq] at hx
    have hx2 : xs = [a, b, c, d, e] := by have := congrArg Array.toList hx; simpa using this.symm
    subst hx2
    match ys, hl, hv with
    | [a', b', c', d', e'], _, hv => exact ⟨a', b', c', d', e', rfl, hv 0 _ _ rfl rfl, hv 1 _ _ rfl rfl, hv 2 _ _ rfl rfl, hv 3 _ _ rfl rfl, hv 4 _ _ rfl rfl⟩
  | _ => cases hx
def resL (x a b c : Int) (p ok : Bool) : Value := .tuple #[.agg #[.int .i64 x, .int .i64 a, .int .i64 b, .int .i64 c, .bool p], .bool ok]
theorem isRes_vr {ρ : Int → Int} {β : Place} {x q0 q1 q2 v v' : Value} {p ok : Bool} {nx n0 n1 n2 : Int} (h : isRes x q0 q1 q2 p ok v = true) (hv : VR (den ρ) β v v') (hx : den ρ x = some (.int .i64 nx)) (h0 : den ρ q0 = some (.int .i64 n0)) (h1 : den ρ q1 = some (.int .i64 n1)) (h2 : den ρ q2 = some (.int .i64 n2)) : v' = resL nx n0 n1 n2 p ok := by
  unfold isRes at h
  split at h
  · rename_i y r0 r1 r2 p' ok'
    simp only [Bool.and_eq_true] at h
    obtain ⟨e1, e2, e3, e4, e5, e6⟩ := h
    obtain rfl := sameV_eq e1
    obtain rfl := sameV_eq e2
    obtain rfl := sameV_eq e3
    obtain rfl := sameV_eq e4
    obtain rfl := eq_of_beq e5
    obtain rfl := eq_of_beq e6
    obtain ⟨a', b', rfl, k1, k2⟩ := vr_tup2 hv
    obtain ⟨a1, a2, a3, a4, a5, rfl, m1, m2, m3, m4, m5⟩ := vr_agg5 k1
    rw [vr_of_den hx m1, vr_of_den h0 m2, vr_of_den h1 m3, vr_of_den h2 m4, bool_vr m5, bool_vr k2]
    rfl
  · cases h
theorem den_got8 {ρ : Int → Int} (h : In64 (ρ 2)) : den ρ got8 = some (.int .i64 (ρ 2)) := by
  obtain ⟨h1, h2⟩ := h
  have ha := den_cv (k := .i64) (den_acc (ρ := ρ) 8 (by decide))
  have e : IntKind.i64.wrap (((ρ 2) % 2 ^ (8 * 8)).toNat : Int) = ρ 2 := by
    rw [IntKind.wrap_i64]
    simp only [Nat.reduceMul, Int.reducePow]
    omega
  rw [e] at ha
  have hs := den_node (op := .shl) (k := .i64) rfl ha (den_lit ρ .i64 0) (ev_shl .i64 (ρ 2) 0 (by decide))
  rw [Int.pow_zero, Int.mul_one, IntWalk.i64_in _ (by omega)] at hs
  have hr := den_node (op := .shr) (k := .i64) rfl hs (den_lit ρ .i64 0) (ev_shr .i64 (ρ 2) 0 (by decide))
  rw [Int.pow_zero, Int.ediv_one] at hr
  exact hr
theorem noW_den {ρ : Int → Int} {k i : Nat} (hk : k < 2) (hi : i < 10) (h : WordIs ρ k i .no) (m : Nat) : den ρ (noW k i m) = some (.int (kd m) (ρ ((m : Int) + 10))) := by
  unfold noW
  rcases inW_cases (1000 * k + 100 + 8 * i) 8 m with ⟨e, h1, h2⟩ | ⟨e, _⟩
  · rw [e, kd_u8 (by omega)]
    have := h (m - (1000 * k + 100 + 8 * i)) (by omega)
    rw [show 1000 * k + 100 + 8 * i + (m - (1000 * k + 100 + 8 * i)) = m by omega] at this
    rw [this]; exact den_lit _ _ _
  · rw [e]; exact den_sym _ _
theorem numW_den {ρ : Int → Int} {k i : Nat} (hk : k < 2) (hi : i < 10) (h : WordIs ρ k i (.num (ρ 2))) (m : Nat) : den ρ (numW k i m) = some (.int (kd m) (ρ ((m : Int) + 10))) := by
  unfold numW
  rcases inW_cases (1000 * k + 8 * i) 8 m with ⟨e, h1, h2⟩ | ⟨e, _⟩
  · rw [e, kd_u8 (by omega)]
    have := (h (m - (1000 * k + 8 * i)) (by omega)).2
    rw [show 1000 * k + 8 * i + (m - (1000 * k + 8 * i)) = m by omega] at this
    rw [this]
    show den ρ (bN ((m - 1000 * k) % 8)) = _
    rw [show (m - 1000 * k) % 8 = m - (1000 * k + 8 * i) by omega]
    exact den_bN _ (by omega)
  · rw [e]
    rcases inW_cases (1000 * k + 100 + 8 * i) 8 m with ⟨e, h1, h2⟩ | ⟨e, _⟩
    · rw [e, kd_u8 (by omega)]
      have := (h (m - (1000 * k + 100 + 8 * i)) (by omega)).1
      rw [show 1000 * k + 100 + 8 * i + (m - (1000 * k + 100 + 8 * i)) = m by omega] at this
      rw [this]; exact den_lit _ _ _
    · rw [e]; exact den_sym _ _
theorem ptrW_den {ρ : Int → Int} {k i : Nat} (hk : k < 2) (hi : i < 10) (h : WordIs ρ k i (.ptr (ρ 3))) (m : Nat) : den ρ (ptrW k i m) = some (.int (kd m) (ρ ((m : Int) + 10))) := by
  unfold ptrW
  rcases inW_cases (1000 * k + 100 + 8 * i) 8 m with ⟨e, h1, h2⟩ | ⟨e, _⟩
  · rw [e, kd_u8 (by omega)]
    have := h.1 (m - (1000 * k + 100 + 8 * i)) (by omega)
    rw [show 1000 * k + 100 + 8 * i + (m - (1000 * k + 100 + 8 * i)) = m by omega] at this
    rw [this]
    by_cases hm : m = 1000 * k + 100 + 8 * i
    · rw [if_pos (by omega), show m.beq (1000 * k + 100 + 8 * i) = true by rw [hm]; exact Nat.beq_refl _]; exact den_lit _ _ _
    · rw [if_neg (by omega), nbeq hm]; exact den_lit _ _ _
  · rw [e]
    rcases inW_cases (1000 * k + 200 + 24 * i) 24 m with ⟨e, h1, h2⟩ | ⟨e, _⟩
    · have h9 : 200 ≤ m % 1000 := by
        have hk2 : k = 0 ∨ k = 1 := by omega
        rcases hk2 with rfl | rfl
        · rw [Nat.mod_eq_of_lt (by omega)]; omega
        · rw [Nat.mod_eq_sub_mod (by omega), Nat.mod_eq_of_lt (by omega)]; omega
      rw [e, kd_i64 h9]
      have := h.2 (m - (1000 * k + 200 + 24 * i)) (by omega)
      rw [show 1000 * k + 200 + 24 * i + (m - (1000 * k + 200 + 24 * i)) = m by omega] at this
      rw [this]
      by_cases hm : (m - 1000 * k - 200) % 3 = 2
      · rw [if_pos (by omega), show ((m - 1000 * k - 200) % 3).beq 2 = true by rw [hm]; rfl]; exact den_mark _ _ _
      · rw [if_neg (by omega), nbeq hm]; exact den_lit _ _ _
    · rw [e]; exact den_sym _ _
def LoadV (ρ : Int → Int) (β : Place) (B pm : Nat) (w : World) (x a b c : Int) (p ok : Bool) (r : Ending) (w' : World) : Prop := r = .returned (resL x a b c p ok) ∧ ∃ ρ' β', MR ρ' β' B pm w' ∧ (Below B w w' ∧ KeepB w β w' β') ∧ KeepW ρ ρ'
theorem argR_word {ρ : Int → Int} {n q : Int} {k i : Nat} {x : Wd} (h : WordIs ρ k i x) : WordIs (argR ρ n q) k i x := h.like (fun j hj => argR_hi _ _ _ _ (by omega)) (fun j hj => argR_hi _ _ _ _ (by omega)) (fun j hj => argR_hi _ _ _ _ (by omega))
theorem load_any {ρ : Int → Int} {β : Place} {B pm : Nat} {w : World} (h : MR ρ β B pm w) (k i : Nat) (hk : k < 2) (hi : i < 4) (c : Nat → Value) (n q : Int) (t t' : Value) (ht : VR (den (argR ρ n q)) β t t') (hc : ∀ m, den (argR ρ n q) (c m) = some (.int (kd m) (argR ρ n q ((m : Int) + 10)))) {x q0 q1 q2 : Value} {p ok : Bool} {nx n0 n1 n2 : Int}
    (hr : run1 (argR ρ n q) 11 (loadOf k (5 + i) t) (LSof c) 15 (isRes x q0 q1 q2 p ok) (LSof c) 15 = true) (hx : den (argR ρ n q) x = some (.int .i64 nx)) (h0 : den (argR ρ n q) q0 = some (.int .i64 n0)) (h1 : den (argR ρ n q) q1 = some (.int .i64 n1)) (h2 : den (argR ρ n q) q2 = some (.int .i64 n2)) :
    Calls Try.prog 11 #[.pointer (some ⟨pm, 0, none⟩), pat k (8 * (5 + i)), t'] w (LoadV ρ β B pm w nx n0 n1 n2 p ok) := by
  have hm := h.marks (ρ' := argR ρ n q) (fun j hj => argR_hi _ _ _ _ hj)
  refine (callK (xs' := [.pointer (some ⟨pm, 0, none⟩), pat k (8 * (5 + i)), t']) hm (fun m _ => hc m) (fun m _ => ⟨_, hc m⟩) (LR.cons (vr_m hm) (LR.cons (vr_pat _ _ k _) (LR.cons ht LR.nil))) hr).mono ?_
  rintro r w' ⟨v, v', β', rfl, e2, e3, e4, e5⟩
  rw [isRes_vr e2 e3 hx h0 h1 h2]
  exact ⟨rfl, _, _, e4, e5, fun k' i' x hk' hi' hw => sym_same _ (fun m _ => hc m) hk' hi' (argR_word hw)⟩
theorem zI_den (ρ : Int → Int) : den ρ zI = some (.int .i64 0) := den_lit _ _ _
theorem load_no {ρ : Int → Int} {β : Place} {B pm : Nat} {w : World} (h : MR ρ β B pm w) (k i : Nat) (hk : k < 2) (hi : i < 4) (hw : WordIs ρ k (5 + i) .no) (a : Addr) :
    (Calls Try.prog 11 #[.pointer (some ⟨pm, 0, none⟩), pat k (8 * (5 + i)), tyI] w (LoadV ρ β B pm w 0 0 0 0 false false)) ∧ Calls Try.prog 11 #[.pointer (some ⟨pm, 0, none⟩), pat k (8 * (5 + i)), tyQ' a] w (LoadV ρ β B pm w 0 0 0 0 false false) := by
  have hr := List.all_eq_true.1 (List.all_eq_true.1 (loads_no (argR ρ 0 0)) k (List.mem_range.2 hk)) i (List.mem_range.2 hi)
  rw [Bool.and_eq_true] at hr
  have hc := noW_den hk (by omega) (argR_word (n := 0) (q := 0) hw)
  exact ⟨load_any h k i hk hi _ 0 0 _ _ (vr_tyI _ _) hc hr.1 (zI_den _) (zI_den _) (zI_den _) (zI_den _), load_any h k i hk hi _ 0 0 _ _ (vr_tyQ h.dead a) hc hr.2 (zI_den _) (zI_den _) (zI_den _) (zI_den _)⟩
theorem load_num {ρ : Int → Int} {β : Place} {B pm : Nat} {w : World} (h : MR ρ β B pm w) (k i : Nat) (hk : k < 2) (hi : i < 4) (n : Int) (hn : In64 n) (hw : WordIs ρ k (5 + i) (.num n)) (a : Addr) :
    (Calls Try.prog 11 #[.pointer (some ⟨pm, 0, none⟩), pat k (8 * (5 + i)), tyI] w (LoadV ρ β B pm w n 0 0 0 false true)) ∧ Calls Try.prog 11 #[.pointer (some ⟨pm, 0, none⟩), pat k (8 * (5 + i)), tyQ' a] w (LoadV ρ β B pm w 0 0 0 0 false false) := by
  have hr := List.all_eq_true.1 (List.all_eq_true.1 (loads_num (argR ρ n 0)) k (List.mem_range.2 hk)) i (List.mem_range.2 hi)
  rw [Bool.and_eq_true] at hr
  have hn2 : argR ρ n 0 2 = n := rfl
  have hc := numW_den hk (by omega) (show WordIs (argR ρ n 0) k (5 + i) (.num (argR ρ n 0 2)) by rw [hn2]; exact argR_word hw)
  have hg : den (argR ρ n 0) got8 = some (.int .i64 n) := by have := den_got8 (ρ := argR ρ n 0) (by rw [hn2]; exact hn); rwa [hn2] at this
  exact ⟨load_any h k i hk hi _ n 0 _ _ (vr_tyI _ _) hc hr.1 hg (zI_den _) (zI_den _) (zI_den _), load_any h k i hk hi _ n 0 _ _ (vr_tyQ h.dead a) hc hr.2 (zI_den _) (zI_den _) (zI_den _) (zI_den _)⟩
theorem load_ptr {ρ : Int → Int} {β : Place} {B pm : Nat} {w : World} (h : MR ρ β B pm w) (k i : Nat) (hk : k < 2) (hi : i < 4) (q : Int) (hw : WordIs ρ k (5 + i) (.ptr q)) (a : Addr) :
    (Calls Try.prog 11 #[.pointer (some ⟨pm, 0, none⟩), pat k (8 * (5 + i)), tyI] w (LoadV ρ β B pm w 0 0 0 0 false false)) ∧ Calls Try.prog 11 #[.pointer (some ⟨pm, 0, none⟩), pat k (8 * (5 + i)), tyQ' a] w (LoadV ρ β B pm w 0 1 1 q true true) := by
  have hr := List.all_eq_true.1 (List.all_eq_true.1 (loads_ptr (argR ρ 0 q)) k (List.mem_range.2 hk)) i (List.mem_range.2 hi)
  rw [Bool.and_eq_true] at hr
  have hq : argR ρ 0 q 3 = q := rfl
  have hc := ptrW_den hk (by omega) (show WordIs (argR ρ 0 q) k (5 + i) (.ptr (argR ρ 0 q 3)) by rw [hq]; exact argR_word hw)
  have hm : den (argR ρ 0 q) (mark .i64 3) = some (.int .i64 q) := den_mark _ _ _
  exact ⟨load_any h k i hk hi _ 0 q _ _ (vr_tyI _ _) hc hr.1 (zI_den _) (zI_den _) (zI_den _) (zI_den _), load_any h k i hk hi _ 0 q _ _ (vr_tyQ h.dead a) hc hr.2 (zI_den _) (den_lit _ _ _) (den_lit _ _ _) hm⟩
end Go.Proofs.Ytcjfkbohgnopfaa
