/- Two objects of 80 bytes: Store of a pointer, Copy and Load, told by words. No condition. -/
import Derived.Test.YtcjfkbohgnopfaaKmD
namespace Go.Proofs.Ytcjfkbohgnopfaa
open Go.RowKit
set_option linter.unusedVariables false
set_option maxHeartbeats 2000000
theorem okB {b : Bool} {ρ : Int → Int} {β : Place} {v v' : Value} (h : isB b v = true) (h3 : VR (den ρ) β v v') : v' = .bool b := by
  unfold isB at h
  split at h
  · rename_i c
    rw [eq_of_beq h] at h3
    exact pf_eq rfl h3
  · cases h
theorem ptrC_cases (c : Nat → Value) (i m : Nat) : (100 + 8 * i ≤ m ∧ m < 108 + 8 * i ∧ ptrC c i m = .int .u8 (if m = 100 + 8 * i then 2 else 3)) ∨ (200 + 24 * i ≤ m ∧ m < 224 + 24 * i ∧ ¬ (100 + 8 * i ≤ m ∧ m < 108 + 8 * i) ∧ ptrC c i m = if (m - 200) % 3 = 2 then mark .i64 3 else .int .i64 1) ∨ ((m < 100 + 8 * i ∨ 108 + 8 * i ≤ m) ∧ (m < 200 + 24 * i ∨ 224 + 24 * i ≤ m) ∧ ptrC c i m = c m) := by
  unfold ptrC
  rcases inW_cases (100 + 8 * i) 8 m with ⟨e, h1, h2⟩ | ⟨e, h1⟩
  · refine Or.inl ⟨h1, by omega, ?_⟩
    rw [e]
    by_cases h : m = 100 + 8 * i
    · rw [if_pos h, show m.beq (100 + 8 * i) = true by rw [h]; exact Nat.beq_refl _]; rfl
    · rw [if_neg h, nbeq h]; rfl
  · rw [e]
    rcases inW_cases (200 + 24 * i) 24 m with ⟨e2, h3, h4⟩ | ⟨e2, h3⟩
    · refine Or.inr (Or.inl ⟨h3, by omega, by omega, ?_⟩)
      rw [e2]
      by_cases h : (m - 200) % 3 = 2
      · rw [if_pos h, show ((m - 200) % 3).beq 2 = true by rw [h]; rfl]; rfl
      · rw [if_neg h, nbeq h]; rfl
    · exact Or.inr (Or.inr ⟨by omega, by omega, by rw [e2]; rfl⟩)
theorem ptrC_den (ρ : Int → Int) (i : Nat) (hi : i < 4) (m : Nat) : den ρ (ptrC sym i m) = some (.int (kd m) (valI (den ρ (ptrC sym i m)))) := by
  rcases ptrC_cases sym i m with ⟨h1, h2, e⟩ | ⟨h1, h2, _, e⟩ | ⟨_, _, e⟩
  · rw [e, kd_u8 (by omega), den_lit]; rfl
  · have h8 : m < 1000 := by omega
    have h9 : 200 ≤ m % 1000 := by rw [Nat.mod_eq_of_lt h8]; omega
    rw [e, kd_i64 h9]
    split
    · rw [den_mark]; rfl
    · rw [den_lit]; rfl
  · rw [e, den_sym]; rfl
theorem store_ptr {ρ : Int → Int} {β : Place} {B pm : Nat} {w : World} (h : MR ρ β B pm w) (i : Nat) (hi : i < 4) (q : Int) (a : Addr) :
    Calls Try.prog 9 #[.pointer (some ⟨pm, 0, none⟩), pat 0 (8 * i), tyQ' a, .agg #[.int .i64 0, .int .i64 1, .int .i64 1, .int .i64 q, .bool true]] w fun r w' => r = .returned (.bool true) ∧ ∃ ρ' β', MR ρ' β' B pm w' ∧ (Below B w w' ∧ KeepB w β w' β') ∧ WordIs ρ' 0 i (.ptr q) ∧ ∀ k' i' x, k' < 2 → i' < 10 → (k' ≠ 0 ∨ i' ≠ i) → WordIs ρ k' i' x → WordIs ρ' k' i' x := by
  have hm := h.marks (ρ' := argR ρ 0 q) (fun j hj => argR_hi _ _ _ _ hj)
  have hr := List.all_eq_true.1 (stores_ptr (argR ρ 0 q)) i (List.mem_range.2 hi)
  have := callK (xs' := [.pointer (some ⟨pm, 0, none⟩), pat 0 (8 * i), tyQ' a, .agg #[.int .i64 0, .int .i64 1, .int .i64 1, .int .i64 q, .bool true]]) hm (fun m hm => den_sym _ _) (fun m _ => ⟨_, ptrC_den _ i hi m⟩) (LR.cons (vr_m hm) (LR.cons (vr_pat _ _ 0 _) (LR.cons (vr_tyQ hm.dead a) (LR.cons (vr_vPtr (argR ρ 0 q) β) LR.nil)))) hr
  refine this.mono ?_
  rintro r w' ⟨v, v', β', rfl, h2, h3, h4, h5⟩
  obtain rfl := okB h2 h3
  have hsame : ∀ m, m < 2000 → (m < 100 + 8 * i ∨ 108 + 8 * i ≤ m) → (m < 200 + 24 * i ∨ 224 + 24 * i ≤ m) → newR (argR ρ 0 q) (ptrC sym i) ((m : Int) + 10) = ρ ((m : Int) + 10) := fun m hm h1 h2 => by
    rw [newR_at hm]
    rcases ptrC_cases sym i m with ⟨g1, g2, e⟩ | ⟨g1, g2, _, e⟩ | ⟨_, _, e⟩
    · omega
    · omega
    · rw [e, den_sym]
      exact argR_hi _ _ _ _ (by omega)
  refine ⟨rfl, _, _, h4, h5, ⟨fun j hj => ?_, fun j hj => ?_⟩, fun k' i' x hk hi' hne hw => by
    have hk2 : k' = 0 ∨ k' = 1 := by omega
    rcases hk2 with rfl | rfl <;> exact hw.like (fun j hj => hsame _ (by omega) (by omega) (by omega)) (fun j hj => hsame _ (by omega) (by omega) (by omega)) (fun j hj => hsame _ (by omega) (by omega) (by omega))⟩
  · rw [newR_at (by omega)]
    rcases ptrC_cases sym i (1000 * 0 + 100 + 8 * i + j) with ⟨g1, g2, e⟩ | ⟨g1, g2, g3, e⟩ | ⟨g1, g2, e⟩
    · rw [e, den_lit]
      show (if _ then (2 : Int) else 3) = _
      by_cases hj0 : j = 0
      · rw [if_pos (by omega), if_pos hj0]
      · rw [if_neg (by omega), if_neg hj0]
    · omega
    · omega
  · rw [newR_at (by omega)]
    rcases ptrC_cases sym i (1000 * 0 + 200 + 24 * i + j) with ⟨g1, g2, e⟩ | ⟨g1, g2, g3, e⟩ | ⟨g1, g2, e⟩
    · omega
    · rw [e]
      by_cases hj2 : j % 3 = 2
      · rw [if_pos (by omega), if_pos hj2, den_mark]; rfl
      · rw [if_neg (by omega), if_neg hj2, den_lit]; rfl
    · omega
/-! ### Copy -/
theorem copC_cases (c : Nat → Value) (k m : Nat) : (((1000 * k + 40 ≤ m ∧ m < 1000 * k + 80) ∨ (1000 * k + 140 ≤ m ∧ m < 1000 * k + 180)) ∧ copC c k m = c (m - 1000 * k - 40)) ∨ (1000 * k + 320 ≤ m ∧ m < 1000 * k + 440 ∧ copC c k m = c (m - 1000 * k - 120)) ∨
    ((m < 1000 * k + 40 ∨ 1000 * k + 80 ≤ m) ∧ (m < 1000 * k + 140 ∨ 1000 * k + 180 ≤ m) ∧ (m < 1000 * k + 320 ∨ 1000 * k + 440 ≤ m) ∧ copC c k m = c m) := by
  unfold copC
  rcases inW_cases (1000 * k + 40) 40 m with ⟨e, h1, h2⟩ | ⟨e, h1⟩
  · exact Or.inl ⟨by omega, by rw [e]; rfl⟩
  · rcases inW_cases (1000 * k + 140) 40 m with ⟨e2, h3, h4⟩ | ⟨e2, h3⟩
    · exact Or.inl ⟨by omega, by rw [e, e2]; rfl⟩
    · rcases inW_cases (1000 * k + 320) 120 m with ⟨e3, h5, h6⟩ | ⟨e3, h5⟩
      · exact Or.inr (Or.inl ⟨by omega, by omega, by rw [e, e2, e3]; rfl⟩)
      · exact Or.inr (Or.inr ⟨by omega, by omega, by omega, by rw [e, e2, e3]; rfl⟩)
theorem kd_like {m m' : Nat} (h : (m % 1000 < 200 ∧ m' % 1000 < 200) ∨ (200 ≤ m % 1000 ∧ 200 ≤ m' % 1000)) : kd m = kd m' := by
  rcases h with ⟨a, b⟩ | ⟨a, b⟩
  · rw [kd_u8 a, kd_u8 b]
  · rw [kd_i64 a, kd_i64 b]
theorem copC_den (ρ : Int → Int) (k : Nat) (hk : k < 2) (m : Nat) (hm : m < 2000) : den ρ (copC sym k m) = some (.int (kd m) (valI (den ρ (copC sym k m)))) := by
  rcases copC_cases sym k m with ⟨h, e⟩ | ⟨h1, h2, e⟩ | ⟨_, _, _, e⟩
  · rw [e, den_sym, kd_like (m := m - 1000 * k - 40) (m' := m) (by omega)]; rfl
  · rw [e, den_sym, kd_like (m := m - 1000 * k - 120) (m' := m) (by omega)]; rfl
  · rw [e, den_sym]; rfl
theorem copy_ok {ρ : Int → Int} {β : Place} {B pm : Nat} {w : World} (h : MR ρ β B pm w) (k : Nat) (hk : k < 2) :
    Calls Try.prog 10 #[.pointer (some ⟨pm, 0, none⟩), pat k 40, pat 0 0, .int .i64 40] w fun r w' => r = .returned (.bool true) ∧ ∃ ρ' β', MR ρ' β' B pm w' ∧ (Below B w w' ∧ KeepB w β w' β') ∧ ∀ i x, i < 5 → WordIs ρ 0 i x → WordIs ρ' k (5 + i) x := by
  have hr := List.all_eq_true.1 (copies ρ) k (List.mem_range.2 hk)
  have := callK (xs' := [.pointer (some ⟨pm, 0, none⟩), pat k 40, pat 0 0, .int .i64 40]) h (fun m hm => den_sym _ _) (fun m hm => ⟨_, copC_den _ k hk m hm⟩) (LR.cons (vr_m h) (LR.cons (vr_pat _ _ k _) (LR.cons (vr_pat _ _ 0 _) (LR.cons (.int _ _) LR.nil)))) hr
  refine this.mono ?_
  rintro r w' ⟨v, v', β', rfl, h2, h3, h4, h5⟩
  obtain rfl := okB h2 h3
  refine ⟨rfl, _, _, h4, h5, fun i x hi hw => hw.like (fun j hj => ?_) (fun j hj => ?_) (fun j hj => ?_)⟩
  · rw [newR_at (by omega)]
    rcases copC_cases sym k (1000 * k + 100 + 8 * (5 + i) + j) with ⟨g, e⟩ | ⟨g1, g2, e⟩ | ⟨g1, g2, g3, e⟩
    · rw [e, den_sym, show 1000 * k + 100 + 8 * (5 + i) + j - 1000 * k - 40 = 1000 * 0 + 100 + 8 * i + j by omega]; rfl
    · omega
    · omega
  · rw [newR_at (by omega)]
    rcases copC_cases sym k (1000 * k + 8 * (5 + i) + j) with ⟨g, e⟩ | ⟨g1, g2, e⟩ | ⟨g1, g2, g3, e⟩
    · rw [e, den_sym, show 1000 * k + 8 * (5 + i) + j - 1000 * k - 40 = 1000 * 0 + 8 * i + j by omega]; rfl
    · omega
    · omega
  · rw [newR_at (by omega)]
    rcases copC_cases sym k (1000 * k + 200 + 24 * (5 + i) + j) with ⟨g, e⟩ | ⟨g1, g2, e⟩ | ⟨g1, g2, g3, e⟩
    · omega
    · rw [e, den_sym, show 1000 * k + 200 + 24 * (5 + i) + j - 1000 * k - 120 = 1000 * 0 + 200 + 24 * i + j by omega]; rfl
    · omega
theorem sym_same (ρ : Int → Int) {k i : Nat} {x : Wd} {e : Nat → Value} (he : ∀ m, m < 2000 → den ρ (e m) = some (.int (kd m) (ρ ((m : Int) + 10)))) (hk : k < 2) (hi : i < 10) (h : WordIs ρ k i x) : WordIs (newR ρ e) k i x := by
  have key : ∀ m : Nat, m < 2000 → newR ρ e ((m : Int) + 10) = ρ ((m : Int) + 10) := fun m hm => by rw [newR_at hm, he m hm]; rfl
  exact h.like (fun j hj => key _ (by omega)) (fun j hj => key _ (by omega)) (fun j hj => key _ (by omega))
def KeepW (ρ ρ' : Int → Int) : Prop := ∀ k i x, k < 2 → i < 10 → WordIs ρ k i x → WordIs ρ' k i x
theorem copy_no {ρ : Int → Int} {β : Place} {B pm : Nat} {w : World} (h : MR ρ β B pm w) (k : Nat) (hk : k < 2) :
    (Calls Try.prog 10 #[.pointer (some ⟨pm, 0, none⟩), pat k 40, pat 0 0, .int .i64 41] w fun r w' => r = .returned (.bool false) ∧ ∃ ρ' β', MR ρ' β' B pm w' ∧ (Below B w w' ∧ KeepB w β w' β')) ∧
    (Calls Try.prog 10 #[.pointer (some ⟨pm, 0, none⟩), pat k 40, pat 0 1, .int .i64 8] w fun r w' => r = .returned (.bool false) ∧ ∃ ρ' β', MR ρ' β' B pm w' ∧ (Below B w w' ∧ KeepB w β w' β')) := by
  have hr := List.all_eq_true.1 (copies_no ρ) k (List.mem_range.2 hk)
  rw [Bool.and_eq_true] at hr
  constructor
  · refine (callK (xs' := [.pointer (some ⟨pm, 0, none⟩), pat k 40, pat 0 0, .int .i64 41]) h (fun m hm => den_sym _ _) (fun m hm => ⟨_, den_sym _ _⟩) (LR.cons (vr_m h) (LR.cons (vr_pat _ _ k _) (LR.cons (vr_pat _ _ 0 _) (LR.cons (.int _ _) LR.nil)))) hr.1).mono ?_
    rintro r w' ⟨v, v', β', rfl, h2, h3, h4, h5⟩
    obtain rfl := okB h2 h3
    exact ⟨rfl, _, _, h4, h5⟩
  · refine (callK (xs' := [.pointer (some ⟨pm, 0, none⟩), pat k 40, pat 0 1, .int .i64 8]) h (fun m hm => den_sym _ _) (fun m hm => ⟨_, den_sym _ _⟩) (LR.cons (vr_m h) (LR.cons (vr_pat _ _ k _) (LR.cons (vr_pat _ _ 0 1) (LR.cons (.int _ _) LR.nil)))) hr.2).mono ?_
    rintro r w' ⟨v, v', β', rfl, h2, h3, h4, h5⟩
    obtain rfl := okB h2 h3
    exact ⟨rfl, _, _, h4, h5⟩
end Go.Proofs.Ytcjfkbohgnopfaa
