/- ObjsMoves: one object of so many bytes. No condition. -/
import Derived.Test.YteoemkkfplbiaaaVmM
import Derived.Test.YteoemkkfplbiaaaFit06
import Derived.Test.YteoemkkfplbiaaaRd
namespace Go.Proofs.Yteoemkkfplbiaaa
open Go.RowKit
set_option linter.unusedVariables false
set_option maxHeartbeats 1000000
/-- behind a pointer stands a memory of one object, of n bytes, that is not dead -/
def OneObj (w : World) (bm n : Nat) : Prop :=
  ∃ b1 d1 c b2 d2 A cap, w.cell? ⟨bm, 0, none⟩ = some (.slice (some ⟨b1, d1, none⟩) 1 c) ∧ 1 ≤ c ∧ w.cell? ⟨b1, d1, none⟩ = some (.pointer (some ⟨b2, d2, none⟩)) ∧ w.cell? ⟨b2, d2, none⟩ = some (.slice A n cap) ∧ w.cell? ⟨b2, d2 + 4, none⟩ = some (.bool false)
def syN : Sy Try.prog (fun _ => none) := Sy.none Try.prog (fun _ => none)
def makeL (n : Nat) : List (List Value × TypeId) := [([.slice none 0 0], 79), (List.replicate n (.bool false), 4)]
/-- what the machine makes of Make -/
noncomputable def chkMake (n : Nat) : Bool :=
  match vcall syN 100000 60 0 11 [.pointer (some ⟨0, 0, none⟩), .slice (some ⟨1, 0, none⟩) n n] (memW (makeL n)) with
  | some (.int .i64 0, W') =>
    (match W'.heap.at 0 with
    | some (.cells t k T) => 0 < k && (match t.at 0 with
      | some (.slice (some ⟨i, o, none⟩) 1 c) => (match W'.heap.at i with
        | some (.cells t2 k2 T2) => o < k2 && (match t2.at o with
          | some (.pointer (some ⟨j, o2, none⟩)) => (match W'.heap.at j with
            | some (.cells t3 k3 T3) => o2 + 4 < k3 && (match t3.at o2, t3.at (o2 + 4) with
              | some (.slice A m c2), some (.bool false) => m == n && o2 == 0
              | _, _ => false)
            | _ => false)
          | _ => false)
        | _ => false)
      | _ => false)
    | _ => false)
  | _ => false
theorem chk_all : (List.range 100).all chkMake = true := by kernel_rfl
theorem AR_live {β : Place} {i o b d x : Nat} {a : Addr} (h : β i = .live b d x) (ha : AR β i o a) : a = ⟨b, o + d, none⟩ := by
  unfold AR at ha; rw [h] at ha; exact ha
theorem makes_obj (w : World) (n bm bl : Nat) (hn : n < 100) (hne : bm ≠ bl) (hm : w.heap[bm]? = some (.cells #[.slice none 0 0] 79 (0, 0))) (hl : w.heap[bl]? = some (.cells (madeCells #[.bool false] n) 4 (0, 0))) :
    Calls Try.prog 11 #[.pointer (some ⟨bm, 0, none⟩), .slice (some ⟨bl, 0, none⟩) n n] w fun e w' => e = .returned (.int .i64 0) ∧ OneObj w' bm n ∧ Only (fun k => k = bm ∨ k = bl) w w' := by
  have hst : Stands Try.prog (fun _ => none) w [bm, bl] (makeL n) := by
    refine ⟨rfl, by simp [hne], fun i b cs T hb hL => ?_⟩
    match i, hb, hL with
    | 0, hb, hL =>
      cases hb; cases hL
      refine ⟨_, hm, by simp, fun k v hk => ?_⟩
      match k, hk with
      | 0, hk => cases hk; exact ⟨_, rfl, .nilSlice⟩
    | 1, hb, hL =>
      cases hb; cases hL
      refine ⟨_, hl, by simp [madeCells], fun k v hk => ?_⟩
      rw [List.getElem?_replicate] at hk
      split at hk
      · rename_i hlt
        cases hk
        exact ⟨.bool false, by simp [madeCells, hlt, Nat.mod_one], .bool false⟩
      · cases hk
  have hc := List.all_eq_true.1 chk_all n (List.mem_range.2 hn)
  unfold chkMake at hc
  split at hc
  rotate_left
  · cases hc
  rename_i W' hrun
  have HR := vrunM (P := Try.prog) (sy := syN) (fun _ => rfl) mixed 100000 60 11 (xs' := [.pointer (some ⟨bm, 0, none⟩), .slice (some ⟨bl, 0, none⟩) n n]) hst
    (LR.cons (place_ptr (i := 0) rfl) (LR.cons (place_slice (i := 1) rfl (Nat.le_refl _)) LR.nil)) hrun
  refine HR.mono ?_
  rintro e w' ⟨v', β', rfl, h1, h2, h3, h4⟩
  rw [pf_eq rfl h1]
  refine ⟨rfl, ?_, h4.mono fun k _ hk => by simpa using hk⟩
  have hb0 : β' 0 = .live bm 0 0 ∨ β' 0 = .dead := by
    rcases h3 0 with e | e | ⟨_, e⟩
    · cases e
    · exact Or.inl e
    · exact Or.inr e
  split at hc
  rotate_left
  · cases hc
  rename_i t k T hat0
  simp only [Bool.and_eq_true, decide_eq_true_eq] at hc
  obtain ⟨hk, hc⟩ := hc
  split at hc
  rotate_left
  · cases hc
  rename_i i o c ht0
  obtain ⟨b, d, x, v0, e1, e2, e3, _⟩ := rel_cell h2 hat0 hk ht0
  rcases hb0 with e | e
  rotate_left
  · rw [e] at e1; cases e1
  rw [e] at e1
  injection e1 with q1 q2 q3
  subst q1 q2 q3
  cases e3 with
  | sym _ _ hs => cases hs
  | slice _ _ _ _ c' a1 ha1 hcr hle =>
    split at hc
    rotate_left
    · cases hc
    rename_i t2 k2 T2 hat1
    simp only [Bool.and_eq_true, decide_eq_true_eq] at hc
    obtain ⟨hk2, hc⟩ := hc
    split at hc
    rotate_left
    · cases hc
    rename_i j o2 ht1
    obtain ⟨b1, d1, x1, v1, f1, f2, f3, _⟩ := rel_cell h2 hat1 hk2 ht1
    have := AR_live f1 ha1
    subst this
    cases f3 with
    | sym _ _ hs => cases hs
    | ptr _ _ a2 ha2 =>
      split at hc
      rotate_left
      · cases hc
      rename_i t3 k3 T3 hat2
      simp only [Bool.and_eq_true, decide_eq_true_eq] at hc
      obtain ⟨hk3, hc⟩ := hc
      split at hc
      rotate_left
      · cases hc
      rename_i A m c2 hs1 hs2
      simp only [Bool.and_eq_true, beq_iff_eq] at hc
      obtain ⟨rfl, rfl⟩ := hc
      obtain ⟨b2, d2, x2, v2, g1, g2, g3, _⟩ := rel_cell h2 hat2 (by omega) hs1
      obtain ⟨b3, d3, x3, v3, k1, k2, k3, _⟩ := rel_cell h2 hat2 hk3 hs2
      rw [g1] at k1
      injection k1 with q1 q2 q3
      subst q1 q2 q3
      have := AR_live g1 ha2
      subst this
      rw [pf_eq rfl k3] at k2
      have hsl : ∃ A' cap', v2 = .slice A' m cap' := by
        cases g3 with
        | sym _ _ hs => cases hs
        | nilSlice => exact ⟨_, _, rfl⟩
        | slice => exact ⟨_, _, rfl⟩
        | slice0 => exact ⟨_, _, rfl⟩
      obtain ⟨A', cap', rfl⟩ := hsl
      exact ⟨b1, o + d1, c', b2, 0 + d2, A', cap', by simpa using e2, (by unfold CR at hcr; rw [f1] at hcr; obtain ⟨dd, _, rfl⟩ := hcr; omega), by rw [Nat.add_comm o]; exact f2, by rw [Nat.zero_add]; simpa using g2, by simpa [Nat.add_comm] using k2⟩
end Go.Proofs.Yteoemkkfplbiaaa
