/- Two objects of 80 bytes are made. No condition. -/
import Derived.Test.YtcjfkbohgnopfaaKmF
namespace Go.Proofs.Ytcjfkbohgnopfaa
open Go.RowKit
set_option linter.unusedVariables false
set_option maxHeartbeats 2000000
theorem okI {n : Int} {ρ : Int → Int} {β : Place} {v v' : Value} (h : isI n v = true) (h3 : VR (den ρ) β v v') : v' = .int .i64 n := by
  unfold isI at h
  split at h
  · rename_i c
    rw [of_decide_eq_true h] at h3
    exact pf_eq rfl h3
  · cases h
def zR : Int → Int := fun _ => 0
def lab80 : Array Value := Array.replicate 80 (.bool false)
theorem lab_cells {D : Den} (k : Nat) (v : Value) (h : z80[k]? = some v) : ∃ v', lab80[k]? = some v' ∧ ∀ β, VR D β v v' := by
  unfold z80 at h
  rw [List.getElem?_replicate] at h
  split at h
  · rename_i hlt
    cases h
    exact ⟨.bool false, by unfold lab80; rw [Array.getElem?_replicate]; simp [hlt], fun β => .bool _⟩
  · cases h
/-- one object is there -/
structure M1 (β : Place) (B pm : Nat) (w : World) : Prop where
  rel : Rel Try.prog (den zR) β (wOf L1 8) w
  far : Far β B
  at0 : β 0 = .live pm 0 0
  hB : B ≤ w.heap.size
theorem M1.later {β : Place} {B pm : Nat} {w w' : World} (h : M1 β B pm w) (hb : Below w.heap.size w w') : M1 β B pm w' := ⟨h.rel.grow hb, h.far, h.at0, Nat.le_trans h.hB hb.size⟩
def b2 (x y : Nat) : Place := fun i => if i = 0 then .live x 0 0 else if i = 1 then .live y 0 0 else .unborn
theorem rel_two {w : World} {pm l : Nat} (hne : pm ≠ l) (hp : w.heap[pm]? = some (.cells #[.slice none 0 0] 45 (0, 0))) (hl : w.heap[l]? = some (.cells lab80 4 (0, 0))) : Rel Try.prog (den zR) (b2 pm l) (wOf L0 2) w := by
  refine ⟨fun i hi => ?_, fun i o ho => ?_, fun i j b d x d' x' hi hj => ?_, fun i b d x hi => ?_⟩
  · have : 2 ≤ i := hi
    unfold b2
    rw [if_neg (by omega), if_neg (by omega)]
  · obtain ⟨cs, T, hm, rfl⟩ := wH_at L0 i o ho
    simp only [L0, List.mem_cons, Prod.mk.injEq, List.not_mem_nil, or_false] at hm
    rcases hm with ⟨rfl, rfl, rfl⟩ | ⟨rfl, rfl, rfl⟩
    · refine ⟨pm, 0, 0, rfl, _, hp, by simp, fun k v hk hv => ?_⟩
      rcases trOf_at _ 0 .nil k v hv with ⟨_, q⟩ | ⟨_, q⟩
      · match k, q with
        | 0, q => cases q; exact ⟨_, rfl, .nilSlice⟩
      · rw [show (Tr.nil : Tr Value).at k = none from Tr.get_nil _ _] at q; cases q
    · refine ⟨l, 0, 0, rfl, _, hl, by simp [z80, lab80], fun k v hk hv => ?_⟩
      rcases trOf_at _ 0 .nil k v hv with ⟨_, q⟩ | ⟨_, q⟩
      · rw [Nat.sub_zero] at q
        obtain ⟨v', e1, e2⟩ := lab_cells (D := den zR) k v q
        exact ⟨v', by rw [Nat.zero_add]; exact e1, e2 _⟩
      · rw [show (Tr.nil : Tr Value).at k = none from Tr.get_nil _ _] at q; cases q
  · unfold b2 at hi hj
    split at hi <;> split at hj
    · omega
    · split at hj
      · cases hi; cases hj; exact absurd rfl hne
      · cases hj
    · split at hi
      · cases hi; cases hj; exact absurd rfl hne
      · cases hi
    · split at hi <;> split at hj
      · omega
      · cases hj
      · cases hi
      · cases hi
  · unfold b2 at hi
    split at hi
    · cases hi; exact blk_lt hp
    · split at hi
      · cases hi; exact blk_lt hl
      · cases hi
theorem make_one {w : World} {B pm l : Nat} (hne : pm ≠ l) (hp : w.heap[pm]? = some (.cells #[.slice none 0 0] 45 (0, 0))) (hl : w.heap[l]? = some (.cells lab80 4 (0, 0))) (hBp : B ≤ pm) (hBl : B ≤ l) :
    Calls Try.prog 8 #[.pointer (some ⟨pm, 0, none⟩), .slice (some ⟨l, 0, none⟩) 80 80] w fun r w' => r = .returned (.int .i64 0) ∧ ∃ β, M1 β B pm w' ∧ Below B w w' ∧ ∀ b, b < w.heap.size → b ≠ pm → b ≠ l → Out β b ∧ w'.heap[b]? = w.heap[b]? := by
  have hrel := rel_two hne hp hl
  have hF : Far (b2 pm l) B := fun k ⟨i, d, x, _, hi⟩ => by
    unfold b2 at hi
    split at hi
    · cases hi; exact hBp
    · split at hi
      · cases hi; exact hBl
      · cases hi
  have hB : B ≤ w.heap.size := by have := blk_lt hp; omega
  refine (callL (sy := syK zR) (xs' := [.pointer (some ⟨pm, 0, none⟩), .slice (some ⟨l, 0, none⟩) 80 80]) (fun _ => rfl) mixed _ hrel (LR.cons (.ptr _ _ _ (by unfold AR b2; simp)) (LR.cons (.slice _ _ _ _ _ _ (by unfold AR b2; simp) (by unfold CR b2; simp) (Nat.le_refl _)) LR.nil)) hF hB (make1 zR)).mono ?_
  rintro r w' ⟨v, v', β', rfl, h2, h3, h4, h5, h6, h7, h8⟩
  obtain rfl := okI h2 h3
  have hat : resB β' 8 0 = .live pm 0 0 := by
    obtain ⟨b, d, x, q1, _⟩ := h4.live 0 _ (show (wH L1).at 0 = some (.cells (trOf 0 [.slice (some ⟨7, 0, none⟩) 1 1] .nil) 1 45) by kernel_rfl)
    have e0 : resB β' 8 0 = β' 0 := if_pos (by decide)
    rcases h5 0 with q | q | ⟨_, q⟩
    · cases q
    · rw [e0, q]; rfl
    · rw [e0, q] at q1; cases q1
  refine ⟨rfl, _, ⟨h4, h6, hat, Nat.le_trans hB h7.size⟩, h7, fun b hb h1 h2 => keepB_ext h8 b hb (fun i d x hi => ?_)⟩
  unfold b2 at hi
  split at hi
  · cases hi; exact h1 rfl
  · split at hi
    · cases hi; exact h2 rfl
    · cases hi
theorem make_two {w : World} {β : Place} {B pm l : Nat} (h : M1 β B pm w) (hl : w.heap[l]? = some (.cells lab80 4 (0, 0))) (hBl : B ≤ l) (ho : Out β l) :
    Calls Try.prog 8 #[.pointer (some ⟨pm, 0, none⟩), .slice (some ⟨l, 0, none⟩) 80 80] w fun r w' => r = .returned (.int .i64 1) ∧ ∃ β', MR zR β' B pm w' ∧ Below B w w' ∧ ∀ b, b < w.heap.size → b ≠ l → Out β b → Out β' b ∧ w'.heap[b]? = w.heap[b]? := by
  have hrel := rel_more h.rel (Below.refl _ _) (blk_lt hl) ho z80 lab80 4 hl (by simp [z80, lab80]) (fun k v hk => lab_cells k v hk)
  have hF : Far (fun i => if i = 8 then Slot.live l 0 0 else β i) B := fun k ⟨i, d, x, h0, hi⟩ => by
    have hi : (if i = 8 then Slot.live l 0 0 else β i) = .live k d x := hi
    split at hi
    · cases hi; exact hBl
    · exact h.far k ⟨i, d, x, h0, hi⟩
  refine (callL (sy := syK zR) (xs' := [.pointer (some ⟨pm, 0, none⟩), .slice (some ⟨l, 0, none⟩) 80 80]) (fun _ => rfl) mixed _ hrel (LR.cons (.ptr _ _ _ (by unfold AR; simp [h.at0])) (LR.cons (.slice _ _ _ _ _ _ (by unfold AR; simp) (by unfold CR; simp) (Nat.le_refl _)) LR.nil)) hF h.hB (make2 zR)).mono ?_
  rintro r w' ⟨v, v', β', rfl, h2, h3, h4, h5, h6, h7, h8⟩
  obtain rfl := okI h2 h3
  have hat : resB β' 15 0 = .live pm 0 0 := by
    obtain ⟨b, d, x, q1, _⟩ := h4.live 0 _ (show (wH (LSof zeroC)).at 0 = some (.cells (trOf 0 [.slice (some ⟨14, 0, none⟩) 2 2] .nil) 1 45) by kernel_rfl)
    have e0 : resB β' 15 0 = β' 0 := if_pos (by decide)
    rcases h5 0 with q | q | ⟨_, q⟩
    · simp [h.at0] at q
    · rw [e0, q]; simp [h.at0]
    · rw [e0, q] at q1; cases q1
  have hk := (h4.kill (lim := 0) (b := 13) (by decide) (show 13 < 15 by decide)).1
  have hp := rel_part (N := 15) (l := LSof zeroC) hk (by kernel_rfl)
  have hlive : ∀ i b d x, resB (updP (resB β' 15) 13 .dead) 15 i = .live b d x → resB β' 15 i = .live b d x := fun i b d x hi => by
    have hi := live_res hi
    unfold updP at hi
    cases e : i.beq 13 with
    | true => rw [e] at hi; cases hi
    | false => rw [e] at hi; exact hi
  refine ⟨rfl, resB (updP (resB β' 15) 13 .dead) 15, ⟨tellC hp fun m hm => ⟨0, den_lit _ _ _, by rw [den_sym]; rfl⟩, fun k ⟨i, d, x, h0, hi⟩ => h6 k ⟨i, d, x, h0, hlive _ _ _ _ hi⟩, rfl, ?_, Nat.le_trans h.hB h7.size⟩, h7, fun b hb hbl hob => ?_⟩
  · show (if 0 < 15 then updP (resB β' 15) 13 .dead 0 else _) = _
    rw [if_pos (by decide)]
    exact hat
  · obtain ⟨k1, k2⟩ := keepB_ext (N := 15) h8 b hb (fun i d x hi => by
      have hi : (if i = 8 then Slot.live l 0 0 else β i) = .live b d x := hi
      split at hi
      · cases hi; exact hbl rfl
      · exact hob i d x hi)
    exact ⟨fun i d x hi => k1 i d x (hlive _ _ _ _ hi), k2⟩
theorem zero_words (k i : Nat) : WordIs zR k i .no := fun _ _ => rfl
theorem MR.out {ρ : Int → Int} {β : Place} {B pm : Nat} {w : World} (h : MR ρ β B pm w) {b : Nat} (hb : w.heap.size ≤ b) : Out β b := fun i d x hi => by
  have := h.rel.lt i b d x hi
  omega
end Go.Proofs.Ytcjfkbohgnopfaa
