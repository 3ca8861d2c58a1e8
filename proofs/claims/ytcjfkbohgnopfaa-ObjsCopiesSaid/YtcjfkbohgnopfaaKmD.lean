/- Two objects of 80 bytes: Store, Copy and Load, told by words. No condition. -/
import Derived.Test.YtcjfkbohgnopfaaKmC
namespace Go.Proofs.Ytcjfkbohgnopfaa
open Go.RowKit
set_option linter.unusedVariables false
set_option maxHeartbeats 2000000
structure MR (ρ : Int → Int) (β : Place) (B pm : Nat) (w : World) : Prop where
  rel : Rel Try.prog (den ρ) β (wOf (LSof sym) 15) w
  far : Far β B
  dead : β 13 = .dead
  at0 : β 0 = .live pm 0 0
  hB : B ≤ w.heap.size
/-- a block that is none of the memory's -/
def Out (β : Place) (b : Nat) : Prop := ∀ i d x, β i ≠ .live b d x
def KeepB (w : World) (β : Place) (w' : World) (β' : Place) : Prop := ∀ b, b < w.heap.size → Out β b → Out β' b ∧ w'.heap[b]? = w.heap[b]?
theorem keepB_ext {w w' : World} {β β' : Place} {N : Nat} (h : Ext 0 β β' w w') : KeepB w β w' (resB β' N) := fun b hb ho => by
  refine ⟨fun i d x hi => ?_, h.only.block b hb (fun ⟨i, d, x, _, hi⟩ => ho i d x hi)⟩
  obtain ⟨j, d', x', _, hj⟩ := h.new b hb ⟨i, d, x, Nat.zero_le _, live_res hi⟩
  exact ho j d' x' hj
theorem KeepB.blk {w w' : World} {β β' : Place} (h : KeepB w β w' β') {b : Nat} {o : Obj} (ho : Out β b) (hb : w.heap[b]? = some o) : Out β' b ∧ w'.heap[b]? = some o := by
  obtain ⟨h1, h2⟩ := h b (blk_lt hb) ho
  exact ⟨h1, h2.trans hb⟩
theorem kd_u8 {m : Nat} (h : m % 1000 < 200) : kd m = .u8 := by
  unfold kd
  rw [show (m % 1000).blt 200 = true by rw [Nat.blt_eq]; exact h]; rfl
theorem kd_i64 {m : Nat} (h : 200 ≤ m % 1000) : kd m = .i64 := by
  unfold kd
  have : (m % 1000).blt 200 = false := by
    cases e : (m % 1000).blt 200 with
    | false => rfl
    | true => rw [Nat.blt_eq] at e; omega
  rw [this]; rfl
theorem inW_t {b w m : Nat} (h1 : b ≤ m) (h2 : m < b + w) : inW b w m = true := by
  unfold inW
  rw [Bool.and_eq_true, Nat.ble_eq, Nat.blt_eq]
  exact ⟨h1, h2⟩
theorem inW_f {b w m : Nat} (h : m < b ∨ b + w ≤ m) : inW b w m = false := by
  cases e : inW b w m with
  | false => rfl
  | true =>
    unfold inW at e
    rw [Bool.and_eq_true, Nat.ble_eq, Nat.blt_eq] at e
    omega
theorem inW_cases (b w m : Nat) : (inW b w m = true ∧ b ≤ m ∧ m < b + w) ∨ (inW b w m = false ∧ (m < b ∨ b + w ≤ m)) := by
  by_cases h : b ≤ m ∧ m < b + w
  · exact Or.inl ⟨inW_t h.1 h.2, h⟩
  · exact Or.inr ⟨inW_f (by omega), by omega⟩
theorem den_sym (ρ : Int → Int) (m : Nat) : den ρ (sym m) = some (.int (kd m) (ρ ((m : Int) + 10))) := den_mark _ _ _
/-- contents behind a call -/
def valI : Option Value → Int
  | some (.int _ n) => n
  | _ => 0
def newR (ρ : Int → Int) (e : Nat → Value) : Int → Int := fun i => if 10 ≤ i ∧ i < 2010 then valI (den ρ (e (i - 10).toNat)) else ρ i
theorem newR_at {ρ : Int → Int} {e : Nat → Value} {m : Nat} (hm : m < 2000) : newR ρ e ((m : Int) + 10) = valI (den ρ (e m)) := by
  unfold newR
  rw [if_pos (by omega), show ((m : Int) + 10 - 10).toNat = m by omega]
theorem back_sym {ρ : Int → Int} {β : Place} {e : Nat → Value} {w : World} (h : Rel Try.prog (den ρ) β (wOf (LSof e) 15) w) (he : ∀ m, m < 2000 → ∃ n, den ρ (e m) = some (.int (kd m) n)) : Rel Try.prog (den (newR ρ e)) β (wOf (LSof sym) 15) w :=
  tellC h fun m hm => by
    obtain ⟨n, hn⟩ := he m hm
    exact ⟨n, hn, by rw [den_sym, newR_at hm, hn]; rfl⟩
/-- arguments' marks may be chosen -/
theorem MR.marks {ρ ρ' : Int → Int} {β : Place} {B pm : Nat} {w : World} (h : MR ρ β B pm w) (hl : ∀ i, 10 ≤ i → ρ' i = ρ i) : MR ρ' β B pm w :=
  ⟨tellC h.rel fun m hm => ⟨_, den_sym _ _, by rw [den_sym, hl _ (by omega)]⟩, h.far, h.dead, h.at0, h.hB⟩
theorem MR.later {ρ : Int → Int} {β : Place} {B pm : Nat} {w w' : World} (h : MR ρ β B pm w) (hb : Below w.heap.size w w') : MR ρ β B pm w' := ⟨h.rel.grow hb, h.far, h.dead, h.at0, Nat.le_trans h.hB hb.size⟩
def argR (ρ : Int → Int) (n q : Int) : Int → Int := fun i => if i = 2 then n else if i = 3 then q else ρ i
theorem argR_hi (ρ : Int → Int) (n q : Int) (i : Int) (h : 10 ≤ i) : argR ρ n q i = ρ i := by
  unfold argR
  rw [if_neg (by omega), if_neg (by omega)]
theorem vr_m {ρ : Int → Int} {β : Place} {B pm : Nat} {w : World} (h : MR ρ β B pm w) : VR (den ρ) β mp0 (.pointer (some ⟨pm, 0, none⟩)) := by
  refine .ptr _ _ _ ?_
  unfold AR
  rw [h.at0]
theorem vr_pat (ρ : Int → Int) (β : Place) (k o : Nat) : VR (den ρ) β (pat k o) (pat k o) := .agg [_, _, _] [_, _, _] rfl (LR.cons (.int _ _) (LR.cons (.int _ _) (LR.cons (.int _ _) LR.nil))).2
def tyQ' (a : Addr) : Value := .agg #[.int .i64 2, .int .i64 8, .bool false, .bool false, .pointer (some a), .int .i64 0, .int .i64 0, .slice none 0 0, .pointer none]
theorem vr_tyI (ρ : Int → Int) (β : Place) : VR (den ρ) β tyI tyI := .agg [_, _, _, _, _, _, _, _, _] [_, _, _, _, _, _, _, _, _] rfl (LR.cons (.int _ _) (LR.cons (.int _ _) (LR.cons (.bool _) (LR.cons (.bool _) (LR.cons .nilPtr (LR.cons (.int _ _) (LR.cons (.int _ _) (LR.cons .nilSlice (LR.cons .nilPtr LR.nil))))))))).2
theorem vr_tyQ {ρ : Int → Int} {β : Place} (h : β 13 = .dead) (a : Addr) : VR (den ρ) β tyQ (tyQ' a) := .agg [_, _, _, _, _, _, _, _, _] [_, _, _, _, _, _, _, _, _] rfl (LR.cons (.int _ _) (LR.cons (.int _ _) (LR.cons (.bool _) (LR.cons (.bool _) (LR.cons (.ptr _ _ _ (by unfold AR; rw [h]; trivial)) (LR.cons (.int _ _) (LR.cons (.int _ _) (LR.cons .nilSlice (LR.cons .nilPtr LR.nil))))))))).2
theorem vr_vNum (ρ : Int → Int) (β : Place) : VR (den ρ) β vNum (.agg #[.int .i64 (ρ 2), .int .i64 0, .int .i64 0, .int .i64 0, .bool false]) := .agg [_, _, _, _, _] [_, _, _, _, _] rfl (LR.cons (mark_vr ρ β .i64 2) (LR.cons (.int _ _) (LR.cons (.int _ _) (LR.cons (.int _ _) (LR.cons (.bool _) LR.nil))))).2
theorem vr_vPtr (ρ : Int → Int) (β : Place) : VR (den ρ) β vPtr (.agg #[.int .i64 0, .int .i64 1, .int .i64 1, .int .i64 (ρ 3), .bool true]) := .agg [_, _, _, _, _] [_, _, _, _, _] rfl (LR.cons (.int _ _) (LR.cons (.int _ _) (LR.cons (.int _ _) (LR.cons (mark_vr ρ β .i64 3) (LR.cons (.bool _) LR.nil))))).2
/-- a call on this memory -/
theorem callK {ρ : Int → Int} {β : Place} {B pm f : Nat} {w : World} {xs xs' : List Value} {c e : Nat → Value} {ok : Value → Bool} (h : MR ρ β B pm w) (hc : ∀ m, m < 2000 → den ρ (c m) = some (.int (kd m) (ρ ((m : Int) + 10)))) (he : ∀ m, m < 2000 → ∃ n, den ρ (e m) = some (.int (kd m) n)) (hx : LR (den ρ) β xs xs')
    (hr : run1 ρ f xs (LSof c) 15 ok (LSof e) 15 = true) : Calls Try.prog f xs'.toArray w fun r w' => ∃ v v' β', r = .returned v' ∧ ok v = true ∧ VR (den ρ) β' v v' ∧ MR (newR ρ e) (resB β' 15) B pm w' ∧ (Below B w w' ∧ KeepB w β w' (resB β' 15)) := by
  have h0 : Rel Try.prog (den ρ) β (wOf (LSof c) 15) w := tellC h.rel fun m hm => ⟨_, den_sym _ _, hc m hm⟩
  refine (callL (sy := syK ρ) (fun _ => rfl) mixed f h0 hx h.far h.hB hr).mono ?_
  rintro r w' ⟨v, v', β', h1, h2, h3, h4, h5, h6, h7, h8⟩
  have hsz : B ≤ w'.heap.size := Nat.le_trans h.hB h7.size
  have hat : resB β' 15 0 = .live pm 0 0 := by
    obtain ⟨b, d, x, q1, _⟩ := h4.live 0 _ (show (wH (LSof e)).at 0 = some (.cells (trOf 0 [.slice (some ⟨14, 0, none⟩) 2 2] .nil) 1 45) by kernel_rfl)
    rcases h5 0 with q | q | ⟨_, q⟩
    · rw [h.at0] at q; cases q
    · show (if 0 < 15 then β' 0 else _) = _
      rw [if_pos (by decide), q, h.at0]
    · have : resB β' 15 0 = β' 0 := if_pos (by decide)
      rw [this, q] at q1; cases q1
  have hd : resB β' 15 13 = .dead := by
    show (if 13 < 15 then β' 13 else _) = _
    rw [if_pos (by decide)]
    rcases h5 13 with q | q | ⟨_, q⟩
    · rw [h.dead] at q; cases q
    · rw [q, h.dead]
    · exact q
  exact ⟨v, v', β', h1, h2, h3, ⟨back_sym h4 he, h6, hd, hat, hsz⟩, h7, keepB_ext h8⟩
/-! ### Words -/
inductive Wd where
  | no
  | num (n : Int)
  | ptr (q : Int)
/-- what word i of object k keeps -/
def WordIs (ρ : Int → Int) (k i : Nat) : Wd → Prop
  | .no => ∀ j, j < 8 → ρ (((1000 * k + 100 + 8 * i + j : Nat) : Int) + 10) = 0
  | .num n => ∀ j, j < 8 → ρ (((1000 * k + 100 + 8 * i + j : Nat) : Int) + 10) = 1 ∧ ρ (((1000 * k + 8 * i + j : Nat) : Int) + 10) = n / 2 ^ (8 * j) % 256
  | .ptr q => (∀ j, j < 8 → ρ (((1000 * k + 100 + 8 * i + j : Nat) : Int) + 10) = if j = 0 then 2 else 3) ∧ ∀ j, j < 24 → ρ (((1000 * k + 200 + 24 * i + j : Nat) : Int) + 10) = if j % 3 = 2 then q else 1
theorem WordIs.like {ρ ρ' : Int → Int} {k i k' i' : Nat} {x : Wd} (h : WordIs ρ k i x) (h1 : ∀ j, j < 8 → ρ' (((1000 * k' + 100 + 8 * i' + j : Nat) : Int) + 10) = ρ (((1000 * k + 100 + 8 * i + j : Nat) : Int) + 10)) (h2 : ∀ j, j < 8 → ρ' (((1000 * k' + 8 * i' + j : Nat) : Int) + 10) = ρ (((1000 * k + 8 * i + j : Nat) : Int) + 10))
    (h3 : ∀ j, j < 24 → ρ' (((1000 * k' + 200 + 24 * i' + j : Nat) : Int) + 10) = ρ (((1000 * k + 200 + 24 * i + j : Nat) : Int) + 10)) : WordIs ρ' k' i' x := by
  cases x with
  | no => exact fun j hj => by rw [h1 j hj]; exact h j hj
  | num n => exact fun j hj => by rw [h1 j hj, h2 j hj]; exact h j hj
  | ptr q => exact ⟨fun j hj => by rw [h1 j hj]; exact h.1 j hj, fun j hj => by rw [h3 j hj]; exact h.2 j hj⟩
/-! ### Store -/
theorem numC_cases (c : Nat → Value) (i m : Nat) : (m / 8 = i ∧ numC c i m = bN (m % 8)) ∨ (m / 8 ≠ i ∧ 100 + 8 * i ≤ m ∧ m < 108 + 8 * i ∧ numC c i m = .int .u8 1) ∨ (m / 8 ≠ i ∧ (m < 100 + 8 * i ∨ 108 + 8 * i ≤ m) ∧ numC c i m = c m) := by
  unfold numC
  by_cases h : m / 8 = i
  · exact Or.inl ⟨h, by rw [show (m / 8).beq i = true by rw [h]; exact Nat.beq_refl i]; rfl⟩
  · refine Or.inr ?_
    rw [nbeq h]
    by_cases h2 : 100 + 8 * i ≤ m ∧ m < 108 + 8 * i
    · exact Or.inl ⟨h, h2.1, h2.2, by rw [show ((100 + 8 * i).ble m && m.blt (108 + 8 * i)) = true by rw [Bool.and_eq_true, Nat.ble_eq, Nat.blt_eq]; exact h2]; rfl⟩
    · refine Or.inr ⟨h, by omega, ?_⟩
      have : ((100 + 8 * i).ble m && m.blt (108 + 8 * i)) = false := by
        cases e : ((100 + 8 * i).ble m && m.blt (108 + 8 * i)) with
        | false => rfl
        | true => rw [Bool.and_eq_true, Nat.ble_eq, Nat.blt_eq] at e; exact absurd e h2
      rw [this]; rfl
theorem numC_den (ρ : Int → Int) (i : Nat) (hi : i < 4) (m : Nat) : den ρ (numC sym i m) = some (.int (kd m) (valI (den ρ (numC sym i m)))) := by
  rcases numC_cases sym i m with ⟨h, e⟩ | ⟨h, h1, h2, e⟩ | ⟨h, _, e⟩
  · rw [e, den_bN _ (by omega), kd_u8 (by omega)]; rfl
  · rw [e, kd_u8 (by omega), den_lit]; rfl
  · rw [e, den_sym]; rfl
theorem store_num {ρ : Int → Int} {β : Place} {B pm : Nat} {w : World} (h : MR ρ β B pm w) (i : Nat) (hi : i < 4) (n : Int) :
    Calls Try.prog 9 #[.pointer (some ⟨pm, 0, none⟩), pat 0 (8 * i), tyI, .agg #[.int .i64 n, .int .i64 0, .int .i64 0, .int .i64 0, .bool false]] w fun r w' => r = .returned (.bool true) ∧ ∃ ρ' β', MR ρ' β' B pm w' ∧ (Below B w w' ∧ KeepB w β w' β') ∧ WordIs ρ' 0 i (.num n) ∧ ∀ k' i' x, k' < 2 → i' < 10 → (k' ≠ 0 ∨ i' ≠ i) → WordIs ρ k' i' x → WordIs ρ' k' i' x := by
  have hm := h.marks (ρ' := argR ρ n 0) (fun j hj => argR_hi _ _ _ _ hj)
  have hr := List.all_eq_true.1 (stores_num (argR ρ n 0)) i (List.mem_range.2 hi)
  have := callK (xs' := [.pointer (some ⟨pm, 0, none⟩), pat 0 (8 * i), tyI, .agg #[.int .i64 n, .int .i64 0, .int .i64 0, .int .i64 0, .bool false]]) hm (fun m hm => den_sym _ _) (fun m _ => ⟨_, numC_den _ i hi m⟩) (LR.cons (vr_m hm) (LR.cons (vr_pat _ _ 0 _) (LR.cons (vr_tyI _ _) (LR.cons (vr_vNum (argR ρ n 0) β) LR.nil)))) hr
  refine this.mono ?_
  rintro r w' ⟨v, v', β', rfl, h2, h3, h4, h5⟩
  have hv : v' = .bool true := by
    unfold isB at h2
    split at h2
    · rename_i c
      rw [eq_of_beq h2] at h3
      exact pf_eq rfl h3
    · cases h2
  subst hv
  have hsame : ∀ m, m < 2000 → m / 8 ≠ i → (m < 100 + 8 * i ∨ 108 + 8 * i ≤ m) → newR (argR ρ n 0) (numC sym i) ((m : Int) + 10) = ρ ((m : Int) + 10) := fun m hm h1 h2 => by
    rw [newR_at hm]
    rcases numC_cases sym i m with ⟨h, e⟩ | ⟨h, g1, g2, e⟩ | ⟨h, _, e⟩
    · exact absurd h h1
    · omega
    · rw [e, den_sym]
      exact argR_hi _ _ _ _ (by omega)
  refine ⟨rfl, _, _, h4, h5, fun j hj => ⟨?_, ?_⟩, fun k' i' x hk hi' hne hw => hw.like (fun j hj => hsame _ (by omega) (by omega) (by omega)) (fun j hj => hsame _ (by omega) (by omega) (by omega)) (fun j hj => hsame _ (by omega) (by omega) (by omega))⟩
  · rw [newR_at (by omega)]
    rcases numC_cases sym i (1000 * 0 + 100 + 8 * i + j) with ⟨h, e⟩ | ⟨h, g1, g2, e⟩ | ⟨h, g1, e⟩
    · omega
    · rw [e, den_lit]; rfl
    · omega
  · rw [newR_at (by omega)]
    rcases numC_cases sym i (1000 * 0 + 8 * i + j) with ⟨h, e⟩ | ⟨h, g1, g2, e⟩ | ⟨h, g1, e⟩
    · rw [e, show (1000 * 0 + 8 * i + j) % 8 = j by omega, den_bN _ hj]; rfl
    · omega
    · omega
end Go.Proofs.Ytcjfkbohgnopfaa
