/- A well-formed table gets one struct more: plain. No condition. -/
import Derived.Test.YtpcfibnnboenhaaOlU
namespace Go.Proofs.Ytpcfibnnboenhaa
open Go.RowKit
set_option linter.unusedVariables false
theorem recT_out {tab : List RecP} {k : Int} (h : (tab.length : Int) ≤ k) : recT tab k = recNone := by
  unfold recT
  split
  · rw [List.getD_eq_getElem?_getD, List.getElem?_eq_none (by omega)]; rfl
  · rfl
theorem recT_more {tab : List RecP} {r : RecP} {k : Int} (h : k < (tab.length : Int)) : recT (tab ++ [r]) k = recT tab k := by
  unfold recT
  split
  · rw [List.getD_eq_getElem?_getD, List.getD_eq_getElem?_getD, List.getElem?_append_left (by omega)]
  · rfl
theorem recT_last (tab : List RecP) (r : RecP) : recT (tab ++ [r]) (tab.length : Int) = r := by
  unfold recT
  rw [if_pos (by omega), Int.toNat_natCast, List.getD_eq_getElem?_getD, List.getElem?_append_right (Nat.le_refl _), Nat.sub_self]
  rfl
theorem under_of_size (tab : List RecP) : ∀ t, OkT t → 0 < sizeT tab t → Under tab.length t
  | .int _ _ _, _, _ => trivial
  | .ptr _, _, _ => trivial
  | .arr e n, h, hs => by
    obtain ⟨h1, h2, h3⟩ := h
    refine under_of_size tab e h3 ?_
    unfold sizeT at hs
    split at hs
    · rename_i hc
      have : 0 ≤ hugeS / n := Int.ediv_nonneg (by unfold hugeS; omega) h1
      omega
    · by_cases h0 : 0 < sizeT tab e
      · exact h0
      · have := Int.mul_nonpos_of_nonneg_of_nonpos h1 (show sizeT tab e ≤ 0 by omega)
        omega
  | .str k, _, hs => by
    show k < (tab.length : Int)
    by_cases hk : k < (tab.length : Int)
    · exact hk
    · have hs : 0 < (recT tab k).size := hs
      rw [recT_out (by omega)] at hs
      exact absurd hs (by decide)
  | .fn _ _ _, h, _ => h.elim
theorem sizeT_more (tab : List RecP) (r : RecP) : ∀ t, Under tab.length t → sizeT (tab ++ [r]) t = sizeT tab t
  | .int _ _ _, _ => rfl
  | .ptr _, _ => rfl
  | .arr e n, h => by
    have ih := sizeT_more tab r e h
    unfold sizeT
    rw [ih]
  | .str k, h => by
    show (recT (tab ++ [r]) k).size = (recT tab k).size
    rw [recT_more h]
  | .fn _ _ _, _ => rfl
theorem align_bound (tab : List RecP) (hW : WfT tab) : ∀ t, OkT t → 1 ≤ alignT tab t ∧ alignT tab t ≤ 8
  | .int s _ _, h => by unfold OkT at h; unfold alignT; omega
  | .ptr _, _ => by unfold alignT; omega
  | .arr e n, h => by unfold alignT; exact align_bound tab hW e h.2.2
  | .str k, _ => ⟨(hW k).2.2.1, (hW k).2.2.2.1⟩
  | .fn _ _ _, h => h.elim
/-- a record on its way -/
structure RecI (tab : List RecP) (gs : List FldP) (rs ra : Int) : Prop where
  s0 : 0 ≤ rs
  s1 : rs ≤ 32768
  a0 : 1 ≤ ra
  a1 : ra ≤ 8
  fs : ∀ g ∈ gs, OkT g.ty ∧ 0 ≤ g.at_ ∧ 0 < sizeT tab g.ty ∧ g.at_ + sizeT tab g.ty ≤ rs
theorem RecI.nil (tab : List RecP) : RecI tab [] 0 1 := ⟨by omega, by omega, by omega, by omega, fun g h => by cases h⟩
theorem up_bound {n a : Int} (hn : 0 ≤ n) (ha : 1 ≤ a) : n ≤ (n + a - 1) / a * a ∧ (n + a - 1) / a * a ≤ n + a - 1 := by
  have h1 := Int.ediv_mul_le (n + a - 1) (show a ≠ 0 by omega)
  have h2 := Int.lt_ediv_add_one_mul_self (n + a - 1) (show 0 < a by omega)
  rw [Int.add_mul, Int.one_mul] at h2
  omega
theorem RecI.snoc {tab : List RecP} {gs : List FldP} {rs ra u a : Int} (h : RecI tab gs rs ra) (f : FldP) (hf : OkT f.ty) (hs : 0 < sizeT tab f.ty) (hu : rs ≤ u) (hat : f.at_ = u) (hb : u + sizeT tab f.ty ≤ 32768) (h1 : 1 ≤ a) (h2 : a ≤ 8) : RecI tab (gs ++ [f]) (u + sizeT tab f.ty) (max ra a) := by
  obtain ⟨k1, k2, k3, k4, k5⟩ := h
  refine ⟨by omega, hb, by omega, by omega, fun g hg => ?_⟩
  rcases List.mem_append.1 hg with hg | hg
  · obtain ⟨m1, m2, m3, m4⟩ := k5 g hg
    exact ⟨m1, m2, m3, by omega⟩
  · rw [List.mem_singleton.1 hg]
    exact ⟨hf, by omega, hs, by omega⟩
theorem WfT.push {tab : List RecP} {gs : List FldP} {rs ra : Int} (hW : WfT tab) (h : RecI tab gs rs ra) (nm : ByteArray) : WfT (tab ++ [⟨nm, gs, (rs + ra - 1) / ra * ra, ra⟩]) := by
  intro k
  obtain ⟨k1, k2, k3, k4, k5⟩ := h
  obtain ⟨u1, u2⟩ := up_bound k1 k3
  by_cases hk : k < (tab.length : Int)
  · rw [recT_more hk]
    obtain ⟨h1, h2, h3, h4, h5⟩ := hW k
    refine ⟨h1, h2, h3, h4, fun f hf => ?_⟩
    obtain ⟨m1, m2, m3, m4, m5⟩ := h5 f hf
    have hk0 := recT_num hf
    rw [sizeT_more _ _ _ (Under.mono (by omega) m2)]
    exact ⟨m1, m2, m3, m4, m5⟩
  · by_cases he : k = (tab.length : Int)
    · subst he
      rw [recT_last]
      refine ⟨by show 0 ≤ (rs + ra - 1) / ra * ra; omega, by show (rs + ra - 1) / ra * ra ≤ 2097152; omega, k3, k4, fun f hf => ?_⟩
      obtain ⟨m1, m2, m3, m4⟩ := k5 f hf
      have hu := under_of_size tab f.ty m1 m3
      rw [sizeT_more _ _ _ hu, Int.toNat_natCast]
      exact ⟨m1, hu, m2, m3, by show f.at_ + sizeT tab f.ty ≤ (rs + ra - 1) / ra * ra; omega⟩
    · rw [recT_out (by simp; omega)]
      exact ⟨by decide, by decide, by decide, by decide, fun f hf => by cases hf⟩
end Go.Proofs.Ytpcfibnnboenhaa
