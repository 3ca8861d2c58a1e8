/- An instruction's line is read as that instruction: plainly. No condition. -/
import Derived.Test.YtmmpkkpmlaiapaaGreatDoorQg
import Derived.Test.YtmmpkkpmlaiapaaGreatDoorRlB
namespace Go.Proofs.YtmmpkkpmlaiapaaGreatDoor
open Go.RowKit
set_option linter.unusedVariables false
set_option linter.unusedSimpArgs false
set_option maxHeartbeats 8000000
set_option maxRecDepth 20000
def LnOk (line : List UInt8) (x : XInsD) : Prop := ∃ W zs os, line = uForm W zs ∧ NoC 32 W ∧ zs.length ≤ 2 ∧ AllP zs os ∧ buildF W os = some x
theorem at_full (b off : Int) : atL b off ≠ [] := by unfold atL; simp
theorem ln_1 (dst src imm size cond : Int) (k : Nat) (g : Bool) (tl : List UInt8) (hd : 0 ≤ dst ∧ dst ≤ 15) (hs : 0 ≤ src ∧ src ≤ 15) (hi : In64 imm) : LnOk (showL 1 dst src imm size k g cond tl) ⟨1, dst, src, 0, 0, false, 0, ⟨⟨[]⟩⟩⟩ := by
  exact ⟨[109, 111, 118, 113], [(37 :: wantF src 8), (37 :: wantF dst 8)], [⟨1, src, 8, 0, []⟩, ⟨1, dst, 8, 0, []⟩], by simp [showL, uForm], by unfold NoC; decide, by simp, ⟨⟨noC_r _ _, by simp, pc_reg hs (Or.inl rfl)⟩, ⟨noC_r _ _, by simp, pc_reg hd (Or.inl rfl)⟩, True.intro⟩, by kernel_rfl⟩
theorem ln_2 (dst src imm size cond : Int) (k : Nat) (g : Bool) (tl : List UInt8) (hd : 0 ≤ dst ∧ dst ≤ 15) (hs : 0 ≤ src ∧ src ≤ 15) (hi : In64 imm) : LnOk (showL 2 dst src imm size k g cond tl) ⟨2, dst, 0, imm, 0, false, 0, ⟨⟨[]⟩⟩⟩ := by
  by_cases hs : smallI imm = true
  · exact ⟨[109, 111, 118, 113], [(36 :: Lib.itoa imm), (37 :: wantF dst 8)], [⟨2, 0, 0, imm, []⟩, ⟨1, dst, 8, 0, []⟩], by simp [showL, uForm, hs], by unfold NoC; decide, by simp, ⟨⟨noC_i _, by simp, pc_imm hi⟩, ⟨noC_r _ _, by simp, pc_reg hd (Or.inl rfl)⟩, True.intro⟩, by kernel_rfl⟩
  · exact ⟨[109, 111, 118, 97, 98, 115, 113], [(36 :: Lib.itoa imm), (37 :: wantF dst 8)], [⟨2, 0, 0, imm, []⟩, ⟨1, dst, 8, 0, []⟩], by simp [showL, uForm, hs], by unfold NoC; decide, by simp, ⟨⟨noC_i _, by simp, pc_imm hi⟩, ⟨noC_r _ _, by simp, pc_reg hd (Or.inl rfl)⟩, True.intro⟩, by kernel_rfl⟩
theorem ln_3 (dst src imm size cond : Int) (k : Nat) (g : Bool) (tl : List UInt8) (hd : 0 ≤ dst ∧ dst ≤ 15) (hs : 0 ≤ src ∧ src ≤ 15) (hi : In64 imm) (hk : k < 4) (hkg : ¬ (k = 3 ∧ g = true)) : LnOk (showL 3 dst src imm ((2 ^ k : Nat) : Int) k g cond tl) ⟨3, dst, src, imm, ((2 ^ k : Nat) : Int), g, 0, ⟨⟨[]⟩⟩⟩ := by
  match k, g, hk, hkg with
  | 0, false, hk, hkg => exact ⟨[109, 111, 118, 122, 98, 113], [(atL src imm), (37 :: wantF dst (mvN 0 false))], [⟨3, src, 0, imm, []⟩, ⟨1, dst, mvN 0 false, 0, []⟩], by simp [showL, uForm, moveF], by unfold NoC; decide, by simp, ⟨⟨noC_at _ _, at_full _ _, pc_at hs hi⟩, ⟨noC_r _ _, by simp, pc_reg hd (mv_size _ _)⟩, True.intro⟩, by kernel_rfl⟩
  | 0, true, hk, hkg => exact ⟨[109, 111, 118, 115, 98, 113], [(atL src imm), (37 :: wantF dst (mvN 0 true))], [⟨3, src, 0, imm, []⟩, ⟨1, dst, mvN 0 true, 0, []⟩], by simp [showL, uForm, moveF], by unfold NoC; decide, by simp, ⟨⟨noC_at _ _, at_full _ _, pc_at hs hi⟩, ⟨noC_r _ _, by simp, pc_reg hd (mv_size _ _)⟩, True.intro⟩, by kernel_rfl⟩
  | 1, false, hk, hkg => exact ⟨[109, 111, 118, 122, 119, 113], [(atL src imm), (37 :: wantF dst (mvN 1 false))], [⟨3, src, 0, imm, []⟩, ⟨1, dst, mvN 1 false, 0, []⟩], by simp [showL, uForm, moveF], by unfold NoC; decide, by simp, ⟨⟨noC_at _ _, at_full _ _, pc_at hs hi⟩, ⟨noC_r _ _, by simp, pc_reg hd (mv_size _ _)⟩, True.intro⟩, by kernel_rfl⟩
  | 1, true, hk, hkg => exact ⟨[109, 111, 118, 115, 119, 113], [(atL src imm), (37 :: wantF dst (mvN 1 true))], [⟨3, src, 0, imm, []⟩, ⟨1, dst, mvN 1 true, 0, []⟩], by simp [showL, uForm, moveF], by unfold NoC; decide, by simp, ⟨⟨noC_at _ _, at_full _ _, pc_at hs hi⟩, ⟨noC_r _ _, by simp, pc_reg hd (mv_size _ _)⟩, True.intro⟩, by kernel_rfl⟩
  | 2, false, hk, hkg => exact ⟨[109, 111, 118, 108], [(atL src imm), (37 :: wantF dst (mvN 2 false))], [⟨3, src, 0, imm, []⟩, ⟨1, dst, mvN 2 false, 0, []⟩], by simp [showL, uForm, moveF], by unfold NoC; decide, by simp, ⟨⟨noC_at _ _, at_full _ _, pc_at hs hi⟩, ⟨noC_r _ _, by simp, pc_reg hd (mv_size _ _)⟩, True.intro⟩, by kernel_rfl⟩
  | 2, true, hk, hkg => exact ⟨[109, 111, 118, 115, 108, 113], [(atL src imm), (37 :: wantF dst (mvN 2 true))], [⟨3, src, 0, imm, []⟩, ⟨1, dst, mvN 2 true, 0, []⟩], by simp [showL, uForm, moveF], by unfold NoC; decide, by simp, ⟨⟨noC_at _ _, at_full _ _, pc_at hs hi⟩, ⟨noC_r _ _, by simp, pc_reg hd (mv_size _ _)⟩, True.intro⟩, by kernel_rfl⟩
  | 3, false, hk, hkg => exact ⟨[109, 111, 118, 113], [(atL src imm), (37 :: wantF dst (mvN 3 false))], [⟨3, src, 0, imm, []⟩, ⟨1, dst, mvN 3 false, 0, []⟩], by simp [showL, uForm, moveF], by unfold NoC; decide, by simp, ⟨⟨noC_at _ _, at_full _ _, pc_at hs hi⟩, ⟨noC_r _ _, by simp, pc_reg hd (mv_size _ _)⟩, True.intro⟩, by kernel_rfl⟩
  | 3, true, hk, hkg => exact absurd ⟨rfl, rfl⟩ hkg
theorem ln_4 (dst src imm size cond : Int) (k : Nat) (g : Bool) (tl : List UInt8) (hd : 0 ≤ dst ∧ dst ≤ 15) (hs : 0 ≤ src ∧ src ≤ 15) (hi : In64 imm) (hk : k < 4) : LnOk (showL 4 dst src imm ((2 ^ k : Nat) : Int) k g cond tl) ⟨4, dst, src, imm, ((2 ^ k : Nat) : Int), false, 0, ⟨⟨[]⟩⟩⟩ := by
  match k, hk with
  | 0, hk => exact ⟨[109, 111, 118, 98], [(37 :: wantF src 1), (atL dst imm)], [⟨1, src, 1, 0, []⟩, ⟨3, dst, 0, imm, []⟩], by simp [showL, uForm, leL], by unfold NoC; decide, by simp, ⟨⟨noC_r _ _, by simp, pc_reg hs (Or.inr (Or.inr (Or.inr rfl)))⟩, ⟨noC_at _ _, at_full _ _, pc_at hd hi⟩, True.intro⟩, by kernel_rfl⟩
  | 1, hk => exact ⟨[109, 111, 118, 119], [(37 :: wantF src 2), (atL dst imm)], [⟨1, src, 2, 0, []⟩, ⟨3, dst, 0, imm, []⟩], by simp [showL, uForm, leL], by unfold NoC; decide, by simp, ⟨⟨noC_r _ _, by simp, pc_reg hs (Or.inr (Or.inr (Or.inl rfl)))⟩, ⟨noC_at _ _, at_full _ _, pc_at hd hi⟩, True.intro⟩, by kernel_rfl⟩
  | 2, hk => exact ⟨[109, 111, 118, 108], [(37 :: wantF src 4), (atL dst imm)], [⟨1, src, 4, 0, []⟩, ⟨3, dst, 0, imm, []⟩], by simp [showL, uForm, leL], by unfold NoC; decide, by simp, ⟨⟨noC_r _ _, by simp, pc_reg hs (Or.inr (Or.inl rfl))⟩, ⟨noC_at _ _, at_full _ _, pc_at hd hi⟩, True.intro⟩, by kernel_rfl⟩
  | 3, hk => exact ⟨[109, 111, 118, 113], [(37 :: wantF src 8), (atL dst imm)], [⟨1, src, 8, 0, []⟩, ⟨3, dst, 0, imm, []⟩], by simp [showL, uForm, leL], by unfold NoC; decide, by simp, ⟨⟨noC_r _ _, by simp, pc_reg hs (Or.inl rfl)⟩, ⟨noC_at _ _, at_full _ _, pc_at hd hi⟩, True.intro⟩, by kernel_rfl⟩
theorem ln_5 (dst src imm size cond : Int) (k : Nat) (g : Bool) (tl : List UInt8) (hd : 0 ≤ dst ∧ dst ≤ 15) (hs : 0 ≤ src ∧ src ≤ 15) (hi : In64 imm) : LnOk (showL 5 dst src imm size k g cond tl) ⟨5, dst, src, imm, 0, false, 0, ⟨⟨[]⟩⟩⟩ := by
  exact ⟨[108, 101, 97, 113], [(atL src imm), (37 :: wantF dst 8)], [⟨3, src, 0, imm, []⟩, ⟨1, dst, 8, 0, []⟩], by simp [showL, uForm], by unfold NoC; decide, by simp, ⟨⟨noC_at _ _, at_full _ _, pc_at hs hi⟩, ⟨noC_r _ _, by simp, pc_reg hd (Or.inl rfl)⟩, True.intro⟩, by kernel_rfl⟩
theorem ln_6 (dst src imm size cond : Int) (k : Nat) (g : Bool) (tl : List UInt8) (hd : 0 ≤ dst ∧ dst ≤ 15) (hs : 0 ≤ src ∧ src ≤ 15) (hi : In64 imm) (ht : namedB ⟨⟨tl⟩⟩ = true) : LnOk (showL 6 dst src imm size k g cond tl) ⟨6, dst, 0, 0, 0, false, 0, ⟨⟨tl⟩⟩⟩ := by
  exact ⟨[108, 101, 97, 113], [(tl ++ [40, 37, 114, 105, 112, 41]), (37 :: wantF dst 8)], [⟨4, 0, 0, 0, tl⟩, ⟨1, dst, 8, 0, []⟩], by simp [showL, uForm], by unfold NoC; decide, by simp, ⟨⟨noC_q (named_noC ht), by simp, pc_rip ht⟩, ⟨noC_r _ _, by simp, pc_reg hd (Or.inl rfl)⟩, True.intro⟩, by kernel_rfl⟩
theorem ln_7 (dst src imm size cond : Int) (k : Nat) (g : Bool) (tl : List UInt8) (hd : 0 ≤ dst ∧ dst ≤ 15) (hs : 0 ≤ src ∧ src ≤ 15) (hi : In64 imm) : LnOk (showL 7 dst src imm size k g cond tl) ⟨7, dst, src, 0, 0, false, 0, ⟨⟨[]⟩⟩⟩ := by
  exact ⟨[97, 100, 100, 113], [(37 :: wantF src 8), (37 :: wantF dst 8)], [⟨1, src, 8, 0, []⟩, ⟨1, dst, 8, 0, []⟩], by simp [showL, uForm], by unfold NoC; decide, by simp, ⟨⟨noC_r _ _, by simp, pc_reg hs (Or.inl rfl)⟩, ⟨noC_r _ _, by simp, pc_reg hd (Or.inl rfl)⟩, True.intro⟩, by kernel_rfl⟩
theorem ln_8 (dst src imm size cond : Int) (k : Nat) (g : Bool) (tl : List UInt8) (hd : 0 ≤ dst ∧ dst ≤ 15) (hs : 0 ≤ src ∧ src ≤ 15) (hi : In64 imm) : LnOk (showL 8 dst src imm size k g cond tl) ⟨8, dst, src, 0, 0, false, 0, ⟨⟨[]⟩⟩⟩ := by
  exact ⟨[115, 117, 98, 113], [(37 :: wantF src 8), (37 :: wantF dst 8)], [⟨1, src, 8, 0, []⟩, ⟨1, dst, 8, 0, []⟩], by simp [showL, uForm], by unfold NoC; decide, by simp, ⟨⟨noC_r _ _, by simp, pc_reg hs (Or.inl rfl)⟩, ⟨noC_r _ _, by simp, pc_reg hd (Or.inl rfl)⟩, True.intro⟩, by kernel_rfl⟩
theorem ln_9 (dst src imm size cond : Int) (k : Nat) (g : Bool) (tl : List UInt8) (hd : 0 ≤ dst ∧ dst ≤ 15) (hs : 0 ≤ src ∧ src ≤ 15) (hi : In64 imm) : LnOk (showL 9 dst src imm size k g cond tl) ⟨9, dst, src, 0, 0, false, 0, ⟨⟨[]⟩⟩⟩ := by
  exact ⟨[97, 110, 100, 113], [(37 :: wantF src 8), (37 :: wantF dst 8)], [⟨1, src, 8, 0, []⟩, ⟨1, dst, 8, 0, []⟩], by simp [showL, uForm], by unfold NoC; decide, by simp, ⟨⟨noC_r _ _, by simp, pc_reg hs (Or.inl rfl)⟩, ⟨noC_r _ _, by simp, pc_reg hd (Or.inl rfl)⟩, True.intro⟩, by kernel_rfl⟩
theorem ln_10 (dst src imm size cond : Int) (k : Nat) (g : Bool) (tl : List UInt8) (hd : 0 ≤ dst ∧ dst ≤ 15) (hs : 0 ≤ src ∧ src ≤ 15) (hi : In64 imm) : LnOk (showL 10 dst src imm size k g cond tl) ⟨10, dst, src, 0, 0, false, 0, ⟨⟨[]⟩⟩⟩ := by
  exact ⟨[111, 114, 113], [(37 :: wantF src 8), (37 :: wantF dst 8)], [⟨1, src, 8, 0, []⟩, ⟨1, dst, 8, 0, []⟩], by simp [showL, uForm], by unfold NoC; decide, by simp, ⟨⟨noC_r _ _, by simp, pc_reg hs (Or.inl rfl)⟩, ⟨noC_r _ _, by simp, pc_reg hd (Or.inl rfl)⟩, True.intro⟩, by kernel_rfl⟩
theorem ln_11 (dst src imm size cond : Int) (k : Nat) (g : Bool) (tl : List UInt8) (hd : 0 ≤ dst ∧ dst ≤ 15) (hs : 0 ≤ src ∧ src ≤ 15) (hi : In64 imm) : LnOk (showL 11 dst src imm size k g cond tl) ⟨11, dst, src, 0, 0, false, 0, ⟨⟨[]⟩⟩⟩ := by
  exact ⟨[120, 111, 114, 113], [(37 :: wantF src 8), (37 :: wantF dst 8)], [⟨1, src, 8, 0, []⟩, ⟨1, dst, 8, 0, []⟩], by simp [showL, uForm], by unfold NoC; decide, by simp, ⟨⟨noC_r _ _, by simp, pc_reg hs (Or.inl rfl)⟩, ⟨noC_r _ _, by simp, pc_reg hd (Or.inl rfl)⟩, True.intro⟩, by kernel_rfl⟩
theorem ln_12 (dst src imm size cond : Int) (k : Nat) (g : Bool) (tl : List UInt8) (hd : 0 ≤ dst ∧ dst ≤ 15) (hs : 0 ≤ src ∧ src ≤ 15) (hi : In64 imm) : LnOk (showL 12 dst src imm size k g cond tl) ⟨12, dst, src, 0, 0, false, 0, ⟨⟨[]⟩⟩⟩ := by
  exact ⟨[105, 109, 117, 108, 113], [(37 :: wantF src 8), (37 :: wantF dst 8)], [⟨1, src, 8, 0, []⟩, ⟨1, dst, 8, 0, []⟩], by simp [showL, uForm], by unfold NoC; decide, by simp, ⟨⟨noC_r _ _, by simp, pc_reg hs (Or.inl rfl)⟩, ⟨noC_r _ _, by simp, pc_reg hd (Or.inl rfl)⟩, True.intro⟩, by kernel_rfl⟩
theorem ln_13 (dst src imm size cond : Int) (k : Nat) (g : Bool) (tl : List UInt8) (hd : 0 ≤ dst ∧ dst ≤ 15) (hs : 0 ≤ src ∧ src ≤ 15) (hi : In64 imm) : LnOk (showL 13 dst src imm size k g cond tl) ⟨13, dst, src, 0, 0, false, 0, ⟨⟨[]⟩⟩⟩ := by
  exact ⟨[99, 109, 112, 113], [(37 :: wantF src 8), (37 :: wantF dst 8)], [⟨1, src, 8, 0, []⟩, ⟨1, dst, 8, 0, []⟩], by simp [showL, uForm], by unfold NoC; decide, by simp, ⟨⟨noC_r _ _, by simp, pc_reg hs (Or.inl rfl)⟩, ⟨noC_r _ _, by simp, pc_reg hd (Or.inl rfl)⟩, True.intro⟩, by kernel_rfl⟩
theorem ln_14 (dst src imm size cond : Int) (k : Nat) (g : Bool) (tl : List UInt8) (hd : 0 ≤ dst ∧ dst ≤ 15) (hs : 0 ≤ src ∧ src ≤ 15) (hi : In64 imm) : LnOk (showL 14 dst src imm size k g cond tl) ⟨14, dst, 0, imm, 0, false, 0, ⟨⟨[]⟩⟩⟩ := by
  exact ⟨[97, 100, 100, 113], [(36 :: Lib.itoa imm), (37 :: wantF dst 8)], [⟨2, 0, 0, imm, []⟩, ⟨1, dst, 8, 0, []⟩], by simp [showL, uForm], by unfold NoC; decide, by simp, ⟨⟨noC_i _, by simp, pc_imm hi⟩, ⟨noC_r _ _, by simp, pc_reg hd (Or.inl rfl)⟩, True.intro⟩, by kernel_rfl⟩
theorem ln_15 (dst src imm size cond : Int) (k : Nat) (g : Bool) (tl : List UInt8) (hd : 0 ≤ dst ∧ dst ≤ 15) (hs : 0 ≤ src ∧ src ≤ 15) (hi : In64 imm) : LnOk (showL 15 dst src imm size k g cond tl) ⟨15, dst, 0, imm, 0, false, 0, ⟨⟨[]⟩⟩⟩ := by
  exact ⟨[115, 117, 98, 113], [(36 :: Lib.itoa imm), (37 :: wantF dst 8)], [⟨2, 0, 0, imm, []⟩, ⟨1, dst, 8, 0, []⟩], by simp [showL, uForm], by unfold NoC; decide, by simp, ⟨⟨noC_i _, by simp, pc_imm hi⟩, ⟨noC_r _ _, by simp, pc_reg hd (Or.inl rfl)⟩, True.intro⟩, by kernel_rfl⟩
theorem ln_16 (dst src imm size cond : Int) (k : Nat) (g : Bool) (tl : List UInt8) (hd : 0 ≤ dst ∧ dst ≤ 15) (hs : 0 ≤ src ∧ src ≤ 15) (hi : In64 imm) : LnOk (showL 16 dst src imm size k g cond tl) ⟨16, dst, 0, imm, 0, false, 0, ⟨⟨[]⟩⟩⟩ := by
  exact ⟨[97, 110, 100, 113], [(36 :: Lib.itoa imm), (37 :: wantF dst 8)], [⟨2, 0, 0, imm, []⟩, ⟨1, dst, 8, 0, []⟩], by simp [showL, uForm], by unfold NoC; decide, by simp, ⟨⟨noC_i _, by simp, pc_imm hi⟩, ⟨noC_r _ _, by simp, pc_reg hd (Or.inl rfl)⟩, True.intro⟩, by kernel_rfl⟩
theorem ln_17 (dst src imm size cond : Int) (k : Nat) (g : Bool) (tl : List UInt8) (hd : 0 ≤ dst ∧ dst ≤ 15) (hs : 0 ≤ src ∧ src ≤ 15) (hi : In64 imm) : LnOk (showL 17 dst src imm size k g cond tl) ⟨17, dst, 0, imm, 0, false, 0, ⟨⟨[]⟩⟩⟩ := by
  exact ⟨[111, 114, 113], [(36 :: Lib.itoa imm), (37 :: wantF dst 8)], [⟨2, 0, 0, imm, []⟩, ⟨1, dst, 8, 0, []⟩], by simp [showL, uForm], by unfold NoC; decide, by simp, ⟨⟨noC_i _, by simp, pc_imm hi⟩, ⟨noC_r _ _, by simp, pc_reg hd (Or.inl rfl)⟩, True.intro⟩, by kernel_rfl⟩
theorem ln_18 (dst src imm size cond : Int) (k : Nat) (g : Bool) (tl : List UInt8) (hd : 0 ≤ dst ∧ dst ≤ 15) (hs : 0 ≤ src ∧ src ≤ 15) (hi : In64 imm) : LnOk (showL 18 dst src imm size k g cond tl) ⟨18, dst, 0, imm, 0, false, 0, ⟨⟨[]⟩⟩⟩ := by
  exact ⟨[120, 111, 114, 113], [(36 :: Lib.itoa imm), (37 :: wantF dst 8)], [⟨2, 0, 0, imm, []⟩, ⟨1, dst, 8, 0, []⟩], by simp [showL, uForm], by unfold NoC; decide, by simp, ⟨⟨noC_i _, by simp, pc_imm hi⟩, ⟨noC_r _ _, by simp, pc_reg hd (Or.inl rfl)⟩, True.intro⟩, by kernel_rfl⟩
theorem ln_19 (dst src imm size cond : Int) (k : Nat) (g : Bool) (tl : List UInt8) (hd : 0 ≤ dst ∧ dst ≤ 15) (hs : 0 ≤ src ∧ src ≤ 15) (hi : In64 imm) : LnOk (showL 19 dst src imm size k g cond tl) ⟨19, dst, 0, imm, 0, false, 0, ⟨⟨[]⟩⟩⟩ := by
  exact ⟨[105, 109, 117, 108, 113], [(36 :: Lib.itoa imm), (37 :: wantF dst 8)], [⟨2, 0, 0, imm, []⟩, ⟨1, dst, 8, 0, []⟩], by simp [showL, uForm], by unfold NoC; decide, by simp, ⟨⟨noC_i _, by simp, pc_imm hi⟩, ⟨noC_r _ _, by simp, pc_reg hd (Or.inl rfl)⟩, True.intro⟩, by kernel_rfl⟩
theorem ln_20 (dst src imm size cond : Int) (k : Nat) (g : Bool) (tl : List UInt8) (hd : 0 ≤ dst ∧ dst ≤ 15) (hs : 0 ≤ src ∧ src ≤ 15) (hi : In64 imm) : LnOk (showL 20 dst src imm size k g cond tl) ⟨20, dst, 0, imm, 0, false, 0, ⟨⟨[]⟩⟩⟩ := by
  exact ⟨[99, 109, 112, 113], [(36 :: Lib.itoa imm), (37 :: wantF dst 8)], [⟨2, 0, 0, imm, []⟩, ⟨1, dst, 8, 0, []⟩], by simp [showL, uForm], by unfold NoC; decide, by simp, ⟨⟨noC_i _, by simp, pc_imm hi⟩, ⟨noC_r _ _, by simp, pc_reg hd (Or.inl rfl)⟩, True.intro⟩, by kernel_rfl⟩
theorem ln_21 (dst src imm size cond : Int) (k : Nat) (g : Bool) (tl : List UInt8) (hd : 0 ≤ dst ∧ dst ≤ 15) (hs : 0 ≤ src ∧ src ≤ 15) (hi : In64 imm) : LnOk (showL 21 dst src imm size k g cond tl) ⟨21, dst, 0, 0, 0, false, 0, ⟨⟨[]⟩⟩⟩ := by
  exact ⟨[115, 104, 108, 113], [[37, 99, 108], (37 :: wantF dst 8)], [⟨1, 1, 1, 0, []⟩, ⟨1, dst, 8, 0, []⟩], by simp [showL, uForm], by unfold NoC; decide, by simp, ⟨⟨noC_lit _ _ (by decide), by simp, pc_reg (r := 1) (n := 1) (by decide) (Or.inr (Or.inr (Or.inr rfl)))⟩, ⟨noC_r _ _, by simp, pc_reg hd (Or.inl rfl)⟩, True.intro⟩, by kernel_rfl⟩
theorem ln_22 (dst src imm size cond : Int) (k : Nat) (g : Bool) (tl : List UInt8) (hd : 0 ≤ dst ∧ dst ≤ 15) (hs : 0 ≤ src ∧ src ≤ 15) (hi : In64 imm) : LnOk (showL 22 dst src imm size k g cond tl) ⟨22, dst, 0, 0, 0, false, 0, ⟨⟨[]⟩⟩⟩ := by
  exact ⟨[115, 97, 114, 113], [[37, 99, 108], (37 :: wantF dst 8)], [⟨1, 1, 1, 0, []⟩, ⟨1, dst, 8, 0, []⟩], by simp [showL, uForm], by unfold NoC; decide, by simp, ⟨⟨noC_lit _ _ (by decide), by simp, pc_reg (r := 1) (n := 1) (by decide) (Or.inr (Or.inr (Or.inr rfl)))⟩, ⟨noC_r _ _, by simp, pc_reg hd (Or.inl rfl)⟩, True.intro⟩, by kernel_rfl⟩
theorem ln_23 (dst src imm size cond : Int) (k : Nat) (g : Bool) (tl : List UInt8) (hd : 0 ≤ dst ∧ dst ≤ 15) (hs : 0 ≤ src ∧ src ≤ 15) (hi : In64 imm) : LnOk (showL 23 dst src imm size k g cond tl) ⟨23, dst, 0, 0, 0, false, 0, ⟨⟨[]⟩⟩⟩ := by
  exact ⟨[115, 104, 114, 113], [[37, 99, 108], (37 :: wantF dst 8)], [⟨1, 1, 1, 0, []⟩, ⟨1, dst, 8, 0, []⟩], by simp [showL, uForm], by unfold NoC; decide, by simp, ⟨⟨noC_lit _ _ (by decide), by simp, pc_reg (r := 1) (n := 1) (by decide) (Or.inr (Or.inr (Or.inr rfl)))⟩, ⟨noC_r _ _, by simp, pc_reg hd (Or.inl rfl)⟩, True.intro⟩, by kernel_rfl⟩
theorem ln_24 (dst src imm size cond : Int) (k : Nat) (g : Bool) (tl : List UInt8) (hd : 0 ≤ dst ∧ dst ≤ 15) (hs : 0 ≤ src ∧ src ≤ 15) (hi : In64 imm) : LnOk (showL 24 dst src imm size k g cond tl) ⟨24, dst, 0, imm, 0, false, 0, ⟨⟨[]⟩⟩⟩ := by
  exact ⟨[115, 104, 108, 113], [(36 :: Lib.itoa imm), (37 :: wantF dst 8)], [⟨2, 0, 0, imm, []⟩, ⟨1, dst, 8, 0, []⟩], by simp [showL, uForm], by unfold NoC; decide, by simp, ⟨⟨noC_i _, by simp, pc_imm hi⟩, ⟨noC_r _ _, by simp, pc_reg hd (Or.inl rfl)⟩, True.intro⟩, by kernel_rfl⟩
theorem ln_25 (dst src imm size cond : Int) (k : Nat) (g : Bool) (tl : List UInt8) (hd : 0 ≤ dst ∧ dst ≤ 15) (hs : 0 ≤ src ∧ src ≤ 15) (hi : In64 imm) : LnOk (showL 25 dst src imm size k g cond tl) ⟨25, dst, 0, imm, 0, false, 0, ⟨⟨[]⟩⟩⟩ := by
  exact ⟨[115, 97, 114, 113], [(36 :: Lib.itoa imm), (37 :: wantF dst 8)], [⟨2, 0, 0, imm, []⟩, ⟨1, dst, 8, 0, []⟩], by simp [showL, uForm], by unfold NoC; decide, by simp, ⟨⟨noC_i _, by simp, pc_imm hi⟩, ⟨noC_r _ _, by simp, pc_reg hd (Or.inl rfl)⟩, True.intro⟩, by kernel_rfl⟩
theorem ln_26 (dst src imm size cond : Int) (k : Nat) (g : Bool) (tl : List UInt8) (hd : 0 ≤ dst ∧ dst ≤ 15) (hs : 0 ≤ src ∧ src ≤ 15) (hi : In64 imm) : LnOk (showL 26 dst src imm size k g cond tl) ⟨26, dst, 0, imm, 0, false, 0, ⟨⟨[]⟩⟩⟩ := by
  exact ⟨[115, 104, 114, 113], [(36 :: Lib.itoa imm), (37 :: wantF dst 8)], [⟨2, 0, 0, imm, []⟩, ⟨1, dst, 8, 0, []⟩], by simp [showL, uForm], by unfold NoC; decide, by simp, ⟨⟨noC_i _, by simp, pc_imm hi⟩, ⟨noC_r _ _, by simp, pc_reg hd (Or.inl rfl)⟩, True.intro⟩, by kernel_rfl⟩
theorem ln_27 (dst src imm size cond : Int) (k : Nat) (g : Bool) (tl : List UInt8) (hd : 0 ≤ dst ∧ dst ≤ 15) (hs : 0 ≤ src ∧ src ≤ 15) (hi : In64 imm) : LnOk (showL 27 dst src imm size k g cond tl) ⟨27, 0, 0, 0, 0, false, 0, ⟨⟨[]⟩⟩⟩ := by
  exact ⟨[99, 113, 116, 111], [], [], by simp [showL, uForm], by unfold NoC; decide, by simp, True.intro, by kernel_rfl⟩
theorem ln_28 (dst src imm size cond : Int) (k : Nat) (g : Bool) (tl : List UInt8) (hd : 0 ≤ dst ∧ dst ≤ 15) (hs : 0 ≤ src ∧ src ≤ 15) (hi : In64 imm) : LnOk (showL 28 dst src imm size k g cond tl) ⟨28, dst, 0, 0, 0, false, 0, ⟨⟨[]⟩⟩⟩ := by
  exact ⟨[105, 100, 105, 118, 113], [(37 :: wantF dst 8)], [⟨1, dst, 8, 0, []⟩], by simp [showL, uForm], by unfold NoC; decide, by simp, ⟨⟨noC_r _ _, by simp, pc_reg hd (Or.inl rfl)⟩, True.intro⟩, by kernel_rfl⟩
theorem ln_29 (dst src imm size cond : Int) (k : Nat) (g : Bool) (tl : List UInt8) (hd : 0 ≤ dst ∧ dst ≤ 15) (hs : 0 ≤ src ∧ src ≤ 15) (hi : In64 imm) : LnOk (showL 29 dst src imm size k g cond tl) ⟨29, dst, 0, 0, 0, false, 0, ⟨⟨[]⟩⟩⟩ := by
  exact ⟨[100, 105, 118, 113], [(37 :: wantF dst 8)], [⟨1, dst, 8, 0, []⟩], by simp [showL, uForm], by unfold NoC; decide, by simp, ⟨⟨noC_r _ _, by simp, pc_reg hd (Or.inl rfl)⟩, True.intro⟩, by kernel_rfl⟩
theorem ln_30 (dst src imm size cond : Int) (k : Nat) (g : Bool) (tl : List UInt8) (hd : 0 ≤ dst ∧ dst ≤ 15) (hs : 0 ≤ src ∧ src ≤ 15) (hi : In64 imm) (hk : k < 4) (hkg : ¬ (k = 3 ∧ g = true)) (hk3 : k < 3) : LnOk (showL 30 dst src imm ((2 ^ k : Nat) : Int) k g cond tl) ⟨30, dst, src, 0, ((2 ^ k : Nat) : Int), g, 0, ⟨⟨[]⟩⟩⟩ := by
  match k, g, hk, hkg, hk3 with
  | 0, false, hk, hkg, hk3 => exact ⟨[109, 111, 118, 122, 98, 113], [(37 :: wantF src 1), (37 :: wantF dst (mvN 0 false))], [⟨1, src, 1, 0, []⟩, ⟨1, dst, mvN 0 false, 0, []⟩], by simp [showL, uForm, moveF], by unfold NoC; decide, by simp, ⟨⟨noC_r _ _, by simp, pc_reg hs (Or.inr (Or.inr (Or.inr rfl)))⟩, ⟨noC_r _ _, by simp, pc_reg hd (mv_size _ _)⟩, True.intro⟩, by kernel_rfl⟩
  | 0, true, hk, hkg, hk3 => exact ⟨[109, 111, 118, 115, 98, 113], [(37 :: wantF src 1), (37 :: wantF dst (mvN 0 true))], [⟨1, src, 1, 0, []⟩, ⟨1, dst, mvN 0 true, 0, []⟩], by simp [showL, uForm, moveF], by unfold NoC; decide, by simp, ⟨⟨noC_r _ _, by simp, pc_reg hs (Or.inr (Or.inr (Or.inr rfl)))⟩, ⟨noC_r _ _, by simp, pc_reg hd (mv_size _ _)⟩, True.intro⟩, by kernel_rfl⟩
  | 1, false, hk, hkg, hk3 => exact ⟨[109, 111, 118, 122, 119, 113], [(37 :: wantF src 2), (37 :: wantF dst (mvN 1 false))], [⟨1, src, 2, 0, []⟩, ⟨1, dst, mvN 1 false, 0, []⟩], by simp [showL, uForm, moveF], by unfold NoC; decide, by simp, ⟨⟨noC_r _ _, by simp, pc_reg hs (Or.inr (Or.inr (Or.inl rfl)))⟩, ⟨noC_r _ _, by simp, pc_reg hd (mv_size _ _)⟩, True.intro⟩, by kernel_rfl⟩
  | 1, true, hk, hkg, hk3 => exact ⟨[109, 111, 118, 115, 119, 113], [(37 :: wantF src 2), (37 :: wantF dst (mvN 1 true))], [⟨1, src, 2, 0, []⟩, ⟨1, dst, mvN 1 true, 0, []⟩], by simp [showL, uForm, moveF], by unfold NoC; decide, by simp, ⟨⟨noC_r _ _, by simp, pc_reg hs (Or.inr (Or.inr (Or.inl rfl)))⟩, ⟨noC_r _ _, by simp, pc_reg hd (mv_size _ _)⟩, True.intro⟩, by kernel_rfl⟩
  | 2, false, hk, hkg, hk3 => exact ⟨[109, 111, 118, 108], [(37 :: wantF src 4), (37 :: wantF dst (mvN 2 false))], [⟨1, src, 4, 0, []⟩, ⟨1, dst, mvN 2 false, 0, []⟩], by simp [showL, uForm, moveF], by unfold NoC; decide, by simp, ⟨⟨noC_r _ _, by simp, pc_reg hs (Or.inr (Or.inl rfl))⟩, ⟨noC_r _ _, by simp, pc_reg hd (mv_size _ _)⟩, True.intro⟩, by kernel_rfl⟩
  | 2, true, hk, hkg, hk3 => exact ⟨[109, 111, 118, 115, 108, 113], [(37 :: wantF src 4), (37 :: wantF dst (mvN 2 true))], [⟨1, src, 4, 0, []⟩, ⟨1, dst, mvN 2 true, 0, []⟩], by simp [showL, uForm, moveF], by unfold NoC; decide, by simp, ⟨⟨noC_r _ _, by simp, pc_reg hs (Or.inr (Or.inl rfl))⟩, ⟨noC_r _ _, by simp, pc_reg hd (mv_size _ _)⟩, True.intro⟩, by kernel_rfl⟩
theorem ln_31 (dst src imm size cond : Int) (k : Nat) (g : Bool) (tl : List UInt8) (hd : 0 ≤ dst ∧ dst ≤ 15) (hs : 0 ≤ src ∧ src ≤ 15) (hi : In64 imm) (hc : 0 ≤ cond ∧ cond ≤ 9) : LnOk (showL 31 dst src imm size k g cond tl) ⟨31, dst, 0, 0, 0, false, cond, ⟨⟨[]⟩⟩⟩ := by
  have hcs : cond = 0 ∨ cond = 1 ∨ cond = 2 ∨ cond = 3 ∨ cond = 4 ∨ cond = 5 ∨ cond = 6 ∨ cond = 7 ∨ cond = 8 ∨ cond = 9 := by omega
  rcases hcs with rfl | rfl | rfl | rfl | rfl | rfl | rfl | rfl | rfl | rfl
  · exact ⟨[115, 101, 116, 101], [(37 :: wantF dst 1)], [⟨1, dst, 1, 0, []⟩], by simp [showL, uForm, condF, condT], by unfold NoC; decide, by simp, ⟨⟨noC_r _ _, by simp, pc_reg hd (Or.inr (Or.inr (Or.inr rfl)))⟩, True.intro⟩, by kernel_rfl⟩
  · exact ⟨[115, 101, 116, 110, 101], [(37 :: wantF dst 1)], [⟨1, dst, 1, 0, []⟩], by simp [showL, uForm, condF, condT], by unfold NoC; decide, by simp, ⟨⟨noC_r _ _, by simp, pc_reg hd (Or.inr (Or.inr (Or.inr rfl)))⟩, True.intro⟩, by kernel_rfl⟩
  · exact ⟨[115, 101, 116, 108], [(37 :: wantF dst 1)], [⟨1, dst, 1, 0, []⟩], by simp [showL, uForm, condF, condT], by unfold NoC; decide, by simp, ⟨⟨noC_r _ _, by simp, pc_reg hd (Or.inr (Or.inr (Or.inr rfl)))⟩, True.intro⟩, by kernel_rfl⟩
  · exact ⟨[115, 101, 116, 108, 101], [(37 :: wantF dst 1)], [⟨1, dst, 1, 0, []⟩], by simp [showL, uForm, condF, condT], by unfold NoC; decide, by simp, ⟨⟨noC_r _ _, by simp, pc_reg hd (Or.inr (Or.inr (Or.inr rfl)))⟩, True.intro⟩, by kernel_rfl⟩
  · exact ⟨[115, 101, 116, 103], [(37 :: wantF dst 1)], [⟨1, dst, 1, 0, []⟩], by simp [showL, uForm, condF, condT], by unfold NoC; decide, by simp, ⟨⟨noC_r _ _, by simp, pc_reg hd (Or.inr (Or.inr (Or.inr rfl)))⟩, True.intro⟩, by kernel_rfl⟩
  · exact ⟨[115, 101, 116, 103, 101], [(37 :: wantF dst 1)], [⟨1, dst, 1, 0, []⟩], by simp [showL, uForm, condF, condT], by unfold NoC; decide, by simp, ⟨⟨noC_r _ _, by simp, pc_reg hd (Or.inr (Or.inr (Or.inr rfl)))⟩, True.intro⟩, by kernel_rfl⟩
  · exact ⟨[115, 101, 116, 98], [(37 :: wantF dst 1)], [⟨1, dst, 1, 0, []⟩], by simp [showL, uForm, condF, condT], by unfold NoC; decide, by simp, ⟨⟨noC_r _ _, by simp, pc_reg hd (Or.inr (Or.inr (Or.inr rfl)))⟩, True.intro⟩, by kernel_rfl⟩
  · exact ⟨[115, 101, 116, 98, 101], [(37 :: wantF dst 1)], [⟨1, dst, 1, 0, []⟩], by simp [showL, uForm, condF, condT], by unfold NoC; decide, by simp, ⟨⟨noC_r _ _, by simp, pc_reg hd (Or.inr (Or.inr (Or.inr rfl)))⟩, True.intro⟩, by kernel_rfl⟩
  · exact ⟨[115, 101, 116, 97], [(37 :: wantF dst 1)], [⟨1, dst, 1, 0, []⟩], by simp [showL, uForm, condF, condT], by unfold NoC; decide, by simp, ⟨⟨noC_r _ _, by simp, pc_reg hd (Or.inr (Or.inr (Or.inr rfl)))⟩, True.intro⟩, by kernel_rfl⟩
  · exact ⟨[115, 101, 116, 97, 101], [(37 :: wantF dst 1)], [⟨1, dst, 1, 0, []⟩], by simp [showL, uForm, condF, condT], by unfold NoC; decide, by simp, ⟨⟨noC_r _ _, by simp, pc_reg hd (Or.inr (Or.inr (Or.inr rfl)))⟩, True.intro⟩, by kernel_rfl⟩
theorem ln_32 (dst src imm size cond : Int) (k : Nat) (g : Bool) (tl : List UInt8) (hd : 0 ≤ dst ∧ dst ≤ 15) (hs : 0 ≤ src ∧ src ≤ 15) (hi : In64 imm) (hc : 0 ≤ cond ∧ cond ≤ 9) : LnOk (showL 32 dst src imm size k g cond tl) ⟨32, dst, src, 0, 0, false, cond, ⟨⟨[]⟩⟩⟩ := by
  have hcs : cond = 0 ∨ cond = 1 ∨ cond = 2 ∨ cond = 3 ∨ cond = 4 ∨ cond = 5 ∨ cond = 6 ∨ cond = 7 ∨ cond = 8 ∨ cond = 9 := by omega
  rcases hcs with rfl | rfl | rfl | rfl | rfl | rfl | rfl | rfl | rfl | rfl
  · exact ⟨[99, 109, 111, 118, 101, 113], [(37 :: wantF src 8), (37 :: wantF dst 8)], [⟨1, src, 8, 0, []⟩, ⟨1, dst, 8, 0, []⟩], by simp [showL, uForm, condF, condT], by unfold NoC; decide, by simp, ⟨⟨noC_r _ _, by simp, pc_reg hs (Or.inl rfl)⟩, ⟨noC_r _ _, by simp, pc_reg hd (Or.inl rfl)⟩, True.intro⟩, by kernel_rfl⟩
  · exact ⟨[99, 109, 111, 118, 110, 101, 113], [(37 :: wantF src 8), (37 :: wantF dst 8)], [⟨1, src, 8, 0, []⟩, ⟨1, dst, 8, 0, []⟩], by simp [showL, uForm, condF, condT], by unfold NoC; decide, by simp, ⟨⟨noC_r _ _, by simp, pc_reg hs (Or.inl rfl)⟩, ⟨noC_r _ _, by simp, pc_reg hd (Or.inl rfl)⟩, True.intro⟩, by kernel_rfl⟩
  · exact ⟨[99, 109, 111, 118, 108, 113], [(37 :: wantF src 8), (37 :: wantF dst 8)], [⟨1, src, 8, 0, []⟩, ⟨1, dst, 8, 0, []⟩], by simp [showL, uForm, condF, condT], by unfold NoC; decide, by simp, ⟨⟨noC_r _ _, by simp, pc_reg hs (Or.inl rfl)⟩, ⟨noC_r _ _, by simp, pc_reg hd (Or.inl rfl)⟩, True.intro⟩, by kernel_rfl⟩
  · exact ⟨[99, 109, 111, 118, 108, 101, 113], [(37 :: wantF src 8), (37 :: wantF dst 8)], [⟨1, src, 8, 0, []⟩, ⟨1, dst, 8, 0, []⟩], by simp [showL, uForm, condF, condT], by unfold NoC; decide, by simp, ⟨⟨noC_r _ _, by simp, pc_reg hs (Or.inl rfl)⟩, ⟨noC_r _ _, by simp, pc_reg hd (Or.inl rfl)⟩, True.intro⟩, by kernel_rfl⟩
  · exact ⟨[99, 109, 111, 118, 103, 113], [(37 :: wantF src 8), (37 :: wantF dst 8)], [⟨1, src, 8, 0, []⟩, ⟨1, dst, 8, 0, []⟩], by simp [showL, uForm, condF, condT], by unfold NoC; decide, by simp, ⟨⟨noC_r _ _, by simp, pc_reg hs (Or.inl rfl)⟩, ⟨noC_r _ _, by simp, pc_reg hd (Or.inl rfl)⟩, True.intro⟩, by kernel_rfl⟩
  · exact ⟨[99, 109, 111, 118, 103, 101, 113], [(37 :: wantF src 8), (37 :: wantF dst 8)], [⟨1, src, 8, 0, []⟩, ⟨1, dst, 8, 0, []⟩], by simp [showL, uForm, condF, condT], by unfold NoC; decide, by simp, ⟨⟨noC_r _ _, by simp, pc_reg hs (Or.inl rfl)⟩, ⟨noC_r _ _, by simp, pc_reg hd (Or.inl rfl)⟩, True.intro⟩, by kernel_rfl⟩
  · exact ⟨[99, 109, 111, 118, 98, 113], [(37 :: wantF src 8), (37 :: wantF dst 8)], [⟨1, src, 8, 0, []⟩, ⟨1, dst, 8, 0, []⟩], by simp [showL, uForm, condF, condT], by unfold NoC; decide, by simp, ⟨⟨noC_r _ _, by simp, pc_reg hs (Or.inl rfl)⟩, ⟨noC_r _ _, by simp, pc_reg hd (Or.inl rfl)⟩, True.intro⟩, by kernel_rfl⟩
  · exact ⟨[99, 109, 111, 118, 98, 101, 113], [(37 :: wantF src 8), (37 :: wantF dst 8)], [⟨1, src, 8, 0, []⟩, ⟨1, dst, 8, 0, []⟩], by simp [showL, uForm, condF, condT], by unfold NoC; decide, by simp, ⟨⟨noC_r _ _, by simp, pc_reg hs (Or.inl rfl)⟩, ⟨noC_r _ _, by simp, pc_reg hd (Or.inl rfl)⟩, True.intro⟩, by kernel_rfl⟩
  · exact ⟨[99, 109, 111, 118, 97, 113], [(37 :: wantF src 8), (37 :: wantF dst 8)], [⟨1, src, 8, 0, []⟩, ⟨1, dst, 8, 0, []⟩], by simp [showL, uForm, condF, condT], by unfold NoC; decide, by simp, ⟨⟨noC_r _ _, by simp, pc_reg hs (Or.inl rfl)⟩, ⟨noC_r _ _, by simp, pc_reg hd (Or.inl rfl)⟩, True.intro⟩, by kernel_rfl⟩
  · exact ⟨[99, 109, 111, 118, 97, 101, 113], [(37 :: wantF src 8), (37 :: wantF dst 8)], [⟨1, src, 8, 0, []⟩, ⟨1, dst, 8, 0, []⟩], by simp [showL, uForm, condF, condT], by unfold NoC; decide, by simp, ⟨⟨noC_r _ _, by simp, pc_reg hs (Or.inl rfl)⟩, ⟨noC_r _ _, by simp, pc_reg hd (Or.inl rfl)⟩, True.intro⟩, by kernel_rfl⟩
theorem ln_33 (dst src imm size cond : Int) (k : Nat) (g : Bool) (tl : List UInt8) (hd : 0 ≤ dst ∧ dst ≤ 15) (hs : 0 ≤ src ∧ src ≤ 15) (hi : In64 imm) (ht : namedB ⟨⟨tl⟩⟩ = true) : LnOk (showL 33 dst src imm size k g cond tl) ⟨33, 0, 0, 0, 0, false, 0, ⟨⟨tl⟩⟩⟩ := by
  exact ⟨[106, 109, 112], [tl], [⟨5, 0, 0, 0, tl⟩], by simp [showL, uForm], by unfold NoC; decide, by simp, ⟨⟨named_noC ht, (named_chars ht).1, pc_word ht⟩, True.intro⟩, by kernel_rfl⟩
theorem ln_34 (dst src imm size cond : Int) (k : Nat) (g : Bool) (tl : List UInt8) (hd : 0 ≤ dst ∧ dst ≤ 15) (hs : 0 ≤ src ∧ src ≤ 15) (hi : In64 imm) (hc : 0 ≤ cond ∧ cond ≤ 9) (ht : namedB ⟨⟨tl⟩⟩ = true) : LnOk (showL 34 dst src imm size k g cond tl) ⟨34, 0, 0, 0, 0, false, cond, ⟨⟨tl⟩⟩⟩ := by
  have hcs : cond = 0 ∨ cond = 1 ∨ cond = 2 ∨ cond = 3 ∨ cond = 4 ∨ cond = 5 ∨ cond = 6 ∨ cond = 7 ∨ cond = 8 ∨ cond = 9 := by omega
  rcases hcs with rfl | rfl | rfl | rfl | rfl | rfl | rfl | rfl | rfl | rfl
  · exact ⟨[106, 101], [tl], [⟨5, 0, 0, 0, tl⟩], by simp [showL, uForm, condF, condT], by unfold NoC; decide, by simp, ⟨⟨named_noC ht, (named_chars ht).1, pc_word ht⟩, True.intro⟩, by kernel_rfl⟩
  · exact ⟨[106, 110, 101], [tl], [⟨5, 0, 0, 0, tl⟩], by simp [showL, uForm, condF, condT], by unfold NoC; decide, by simp, ⟨⟨named_noC ht, (named_chars ht).1, pc_word ht⟩, True.intro⟩, by kernel_rfl⟩
  · exact ⟨[106, 108], [tl], [⟨5, 0, 0, 0, tl⟩], by simp [showL, uForm, condF, condT], by unfold NoC; decide, by simp, ⟨⟨named_noC ht, (named_chars ht).1, pc_word ht⟩, True.intro⟩, by kernel_rfl⟩
  · exact ⟨[106, 108, 101], [tl], [⟨5, 0, 0, 0, tl⟩], by simp [showL, uForm, condF, condT], by unfold NoC; decide, by simp, ⟨⟨named_noC ht, (named_chars ht).1, pc_word ht⟩, True.intro⟩, by kernel_rfl⟩
  · exact ⟨[106, 103], [tl], [⟨5, 0, 0, 0, tl⟩], by simp [showL, uForm, condF, condT], by unfold NoC; decide, by simp, ⟨⟨named_noC ht, (named_chars ht).1, pc_word ht⟩, True.intro⟩, by kernel_rfl⟩
  · exact ⟨[106, 103, 101], [tl], [⟨5, 0, 0, 0, tl⟩], by simp [showL, uForm, condF, condT], by unfold NoC; decide, by simp, ⟨⟨named_noC ht, (named_chars ht).1, pc_word ht⟩, True.intro⟩, by kernel_rfl⟩
  · exact ⟨[106, 98], [tl], [⟨5, 0, 0, 0, tl⟩], by simp [showL, uForm, condF, condT], by unfold NoC; decide, by simp, ⟨⟨named_noC ht, (named_chars ht).1, pc_word ht⟩, True.intro⟩, by kernel_rfl⟩
  · exact ⟨[106, 98, 101], [tl], [⟨5, 0, 0, 0, tl⟩], by simp [showL, uForm, condF, condT], by unfold NoC; decide, by simp, ⟨⟨named_noC ht, (named_chars ht).1, pc_word ht⟩, True.intro⟩, by kernel_rfl⟩
  · exact ⟨[106, 97], [tl], [⟨5, 0, 0, 0, tl⟩], by simp [showL, uForm, condF, condT], by unfold NoC; decide, by simp, ⟨⟨named_noC ht, (named_chars ht).1, pc_word ht⟩, True.intro⟩, by kernel_rfl⟩
  · exact ⟨[106, 97, 101], [tl], [⟨5, 0, 0, 0, tl⟩], by simp [showL, uForm, condF, condT], by unfold NoC; decide, by simp, ⟨⟨named_noC ht, (named_chars ht).1, pc_word ht⟩, True.intro⟩, by kernel_rfl⟩
theorem ln_35 (dst src imm size cond : Int) (k : Nat) (g : Bool) (tl : List UInt8) (hd : 0 ≤ dst ∧ dst ≤ 15) (hs : 0 ≤ src ∧ src ≤ 15) (hi : In64 imm) (ht : namedB ⟨⟨tl⟩⟩ = true) : LnOk (showL 35 dst src imm size k g cond tl) ⟨35, 0, 0, 0, 0, false, 0, ⟨⟨tl⟩⟩⟩ := by
  exact ⟨[99, 97, 108, 108], [tl], [⟨5, 0, 0, 0, tl⟩], by simp [showL, uForm], by unfold NoC; decide, by simp, ⟨⟨named_noC ht, (named_chars ht).1, pc_word ht⟩, True.intro⟩, by kernel_rfl⟩
theorem ln_36 (dst src imm size cond : Int) (k : Nat) (g : Bool) (tl : List UInt8) (hd : 0 ≤ dst ∧ dst ≤ 15) (hs : 0 ≤ src ∧ src ≤ 15) (hi : In64 imm) : LnOk (showL 36 dst src imm size k g cond tl) ⟨36, dst, 0, 0, 0, false, 0, ⟨⟨[]⟩⟩⟩ := by
  exact ⟨[99, 97, 108, 108], [(42 :: 37 :: wantF dst 8)], [⟨6, dst, 0, 0, []⟩], by simp [showL, uForm], by unfold NoC; decide, by simp, ⟨⟨noC_s _, by simp, pc_star hd⟩, True.intro⟩, by kernel_rfl⟩
theorem ln_37 (dst src imm size cond : Int) (k : Nat) (g : Bool) (tl : List UInt8) (hd : 0 ≤ dst ∧ dst ≤ 15) (hs : 0 ≤ src ∧ src ≤ 15) (hi : In64 imm) : LnOk (showL 37 dst src imm size k g cond tl) ⟨37, dst, 0, 0, 0, false, 0, ⟨⟨[]⟩⟩⟩ := by
  exact ⟨[106, 109, 112], [(42 :: 37 :: wantF dst 8)], [⟨6, dst, 0, 0, []⟩], by simp [showL, uForm], by unfold NoC; decide, by simp, ⟨⟨noC_s _, by simp, pc_star hd⟩, True.intro⟩, by kernel_rfl⟩
theorem ln_38 (dst src imm size cond : Int) (k : Nat) (g : Bool) (tl : List UInt8) (hd : 0 ≤ dst ∧ dst ≤ 15) (hs : 0 ≤ src ∧ src ≤ 15) (hi : In64 imm) : LnOk (showL 38 dst src imm size k g cond tl) ⟨38, 0, 0, 0, 0, false, 0, ⟨⟨[]⟩⟩⟩ := by
  exact ⟨[114, 101, 116], [], [], by simp [showL, uForm], by unfold NoC; decide, by simp, True.intro, by kernel_rfl⟩
theorem ln_39 (dst src imm size cond : Int) (k : Nat) (g : Bool) (tl : List UInt8) (hd : 0 ≤ dst ∧ dst ≤ 15) (hs : 0 ≤ src ∧ src ≤ 15) (hi : In64 imm) : LnOk (showL 39 dst src imm size k g cond tl) ⟨39, 0, 0, 0, 0, false, 0, ⟨⟨[]⟩⟩⟩ := by
  exact ⟨[108, 102, 101, 110, 99, 101], [], [], by simp [showL, uForm], by unfold NoC; decide, by simp, True.intro, by kernel_rfl⟩
theorem ln_40 (dst src imm size cond : Int) (k : Nat) (g : Bool) (tl : List UInt8) (hd : 0 ≤ dst ∧ dst ≤ 15) (hs : 0 ≤ src ∧ src ≤ 15) (hi : In64 imm) : LnOk (showL 40 dst src imm size k g cond tl) ⟨40, dst, 0, 0, 0, false, 0, ⟨⟨[]⟩⟩⟩ := by
  exact ⟨[111, 117, 116, 113], [(37 :: wantF dst 8)], [⟨1, dst, 8, 0, []⟩], by simp [showL, uForm], by unfold NoC; decide, by simp, ⟨⟨noC_r _ _, by simp, pc_reg hd (Or.inl rfl)⟩, True.intro⟩, by kernel_rfl⟩
theorem ln_41 (dst src imm size cond : Int) (k : Nat) (g : Bool) (tl : List UInt8) (hd : 0 ≤ dst ∧ dst ≤ 15) (hs : 0 ≤ src ∧ src ≤ 15) (hi : In64 imm) : LnOk (showL 41 dst src imm size k g cond tl) ⟨41, 0, 0, 0, 0, false, 0, ⟨⟨[]⟩⟩⟩ := by
  exact ⟨[104, 108, 116], [], [], by simp [showL, uForm], by unfold NoC; decide, by simp, True.intro, by kernel_rfl⟩
theorem rqlD {op dst src imm size cond : Int} {g : Bool} {tl : List UInt8} (h : RQ op dst src imm size g cond tl) (ho : ¬ (op ≤ 6 ∨ (7 ≤ op ∧ op ≤ 26) ∨ (28 ≤ op ∧ op ≤ 32) ∨ op = 36 ∨ op = 37 ∨ op = 40)) : dst = 0 := by unfold RQ RP lD at h; omega
theorem rqlS {op dst src imm size cond : Int} {g : Bool} {tl : List UInt8} (h : RQ op dst src imm size g cond tl) (ho : ¬ (op = 1 ∨ (3 ≤ op ∧ op ≤ 5) ∨ (7 ≤ op ∧ op ≤ 13) ∨ op = 30 ∨ op = 32)) : src = 0 := by unfold RQ RP lS at h; omega
theorem rqlI {op dst src imm size cond : Int} {g : Bool} {tl : List UInt8} (h : RQ op dst src imm size g cond tl) (ho : ¬ ((2 ≤ op ∧ op ≤ 5) ∨ (14 ≤ op ∧ op ≤ 20) ∨ (24 ≤ op ∧ op ≤ 26))) : imm = 0 := by unfold RQ RP lI at h; omega
theorem rqlZ {op dst src imm size cond : Int} {g : Bool} {tl : List UInt8} (h : RQ op dst src imm size g cond tl) (ho : ¬ (op = 3 ∨ op = 4 ∨ op = 30)) : size = 0 := by unfold RQ RP lZ at h; omega
theorem rqlC {op dst src imm size cond : Int} {g : Bool} {tl : List UInt8} (h : RQ op dst src imm size g cond tl) (ho : ¬ (op = 31 ∨ op = 32 ∨ op = 34)) : cond = 0 := by unfold RQ RP lC at h; omega
theorem ln_all {op dst src imm size cond : Int} {g : Bool} {tl : List UInt8} (h : goodP op dst src imm size g cond tl) (hi : In64 imm) : LnOk (showL op dst src imm size (kOf size) g cond tl) ⟨op, dst, src, imm, size, g, cond, ⟨⟨tl⟩⟩⟩ := by
  obtain ⟨hR, hn⟩ := h
  have hk := kOf_lt size
  have hop : op = 1 ∨ op = 2 ∨ op = 3 ∨ op = 4 ∨ op = 5 ∨ op = 6 ∨ op = 7 ∨ op = 8 ∨ op = 9 ∨ op = 10 ∨ op = 11 ∨ op = 12 ∨ op = 13 ∨ op = 14 ∨ op = 15 ∨ op = 16 ∨ op = 17 ∨ op = 18 ∨ op = 19 ∨ op = 20 ∨ op = 21 ∨ op = 22 ∨ op = 23 ∨ op = 24 ∨ op = 25 ∨ op = 26 ∨ op = 27 ∨ op = 28 ∨ op = 29 ∨ op = 30 ∨ op = 31 ∨ op = 32 ∨ op = 33 ∨ op = 34 ∨ op = 35 ∨ op = 36 ∨ op = 37 ∨ op = 38 ∨ op = 39 ∨ op = 40 ∨ op = 41 := by unfold RQ RP at hR; omega
  rcases hop with rfl | rfl | rfl | rfl | rfl | rfl | rfl | rfl | rfl | rfl | rfl | rfl | rfl | rfl | rfl | rfl | rfl | rfl | rfl | rfl | rfl | rfl | rfl | rfl | rfl | rfl | rfl | rfl | rfl | rfl | rfl | rfl | rfl | rfl | rfl | rfl | rfl | rfl | rfl | rfl | rfl
  · have H := ln_1 dst src imm size cond (kOf size) g tl (rq_dst hR) (rq_src hR) hi
    have eimm := rqlI hR (by decide)
    have esize := rqlZ hR (by decide)
    have econd := rqlC hR (by decide)
    have eg : g = false := rq_g hR (by decide)
    have etl : tl = [] := rq_emp hR (by decide)
    subst eimm esize econd eg etl
    exact H
  · have H := ln_2 dst src imm size cond (kOf size) g tl (rq_dst hR) (rq_src hR) hi
    have esrc := rqlS hR (by decide)
    have esize := rqlZ hR (by decide)
    have econd := rqlC hR (by decide)
    have eg : g = false := rq_g hR (by decide)
    have etl : tl = [] := rq_emp hR (by decide)
    subst esrc esize econd eg etl
    exact H
  · have hz := kOf_eq (rq_size hR (by decide))
    have H := ln_3 dst src imm size cond (kOf size) g tl (rq_dst hR) (rq_src hR) hi hk (kg_ok hR (by decide))
    have econd := rqlC hR (by decide)
    have etl : tl = [] := rq_emp hR (by decide)
    rw [← hz] at H
    subst econd etl
    exact H
  · have hz := kOf_eq (rq_size hR (by decide))
    have H := ln_4 dst src imm size cond (kOf size) g tl (rq_dst hR) (rq_src hR) hi hk
    have econd := rqlC hR (by decide)
    have eg : g = false := rq_g hR (by decide)
    have etl : tl = [] := rq_emp hR (by decide)
    rw [← hz] at H
    subst econd eg etl
    exact H
  · have H := ln_5 dst src imm size cond (kOf size) g tl (rq_dst hR) (rq_src hR) hi
    have esize := rqlZ hR (by decide)
    have econd := rqlC hR (by decide)
    have eg : g = false := rq_g hR (by decide)
    have etl : tl = [] := rq_emp hR (by decide)
    subst esize econd eg etl
    exact H
  · have H := ln_6 dst src imm size cond (kOf size) g tl (rq_dst hR) (rq_src hR) hi (hn (by decide))
    have esrc := rqlS hR (by decide)
    have eimm := rqlI hR (by decide)
    have esize := rqlZ hR (by decide)
    have econd := rqlC hR (by decide)
    have eg : g = false := rq_g hR (by decide)
    subst esrc eimm esize econd eg
    exact H
  · have H := ln_7 dst src imm size cond (kOf size) g tl (rq_dst hR) (rq_src hR) hi
    have eimm := rqlI hR (by decide)
    have esize := rqlZ hR (by decide)
    have econd := rqlC hR (by decide)
    have eg : g = false := rq_g hR (by decide)
    have etl : tl = [] := rq_emp hR (by decide)
    subst eimm esize econd eg etl
    exact H
  · have H := ln_8 dst src imm size cond (kOf size) g tl (rq_dst hR) (rq_src hR) hi
    have eimm := rqlI hR (by decide)
    have esize := rqlZ hR (by decide)
    have econd := rqlC hR (by decide)
    have eg : g = false := rq_g hR (by decide)
    have etl : tl = [] := rq_emp hR (by decide)
    subst eimm esize econd eg etl
    exact H
  · have H := ln_9 dst src imm size cond (kOf size) g tl (rq_dst hR) (rq_src hR) hi
    have eimm := rqlI hR (by decide)
    have esize := rqlZ hR (by decide)
    have econd := rqlC hR (by decide)
    have eg : g = false := rq_g hR (by decide)
    have etl : tl = [] := rq_emp hR (by decide)
    subst eimm esize econd eg etl
    exact H
  · have H := ln_10 dst src imm size cond (kOf size) g tl (rq_dst hR) (rq_src hR) hi
    have eimm := rqlI hR (by decide)
    have esize := rqlZ hR (by decide)
    have econd := rqlC hR (by decide)
    have eg : g = false := rq_g hR (by decide)
    have etl : tl = [] := rq_emp hR (by decide)
    subst eimm esize econd eg etl
    exact H
  · have H := ln_11 dst src imm size cond (kOf size) g tl (rq_dst hR) (rq_src hR) hi
    have eimm := rqlI hR (by decide)
    have esize := rqlZ hR (by decide)
    have econd := rqlC hR (by decide)
    have eg : g = false := rq_g hR (by decide)
    have etl : tl = [] := rq_emp hR (by decide)
    subst eimm esize econd eg etl
    exact H
  · have H := ln_12 dst src imm size cond (kOf size) g tl (rq_dst hR) (rq_src hR) hi
    have eimm := rqlI hR (by decide)
    have esize := rqlZ hR (by decide)
    have econd := rqlC hR (by decide)
    have eg : g = false := rq_g hR (by decide)
    have etl : tl = [] := rq_emp hR (by decide)
    subst eimm esize econd eg etl
    exact H
  · have H := ln_13 dst src imm size cond (kOf size) g tl (rq_dst hR) (rq_src hR) hi
    have eimm := rqlI hR (by decide)
    have esize := rqlZ hR (by decide)
    have econd := rqlC hR (by decide)
    have eg : g = false := rq_g hR (by decide)
    have etl : tl = [] := rq_emp hR (by decide)
    subst eimm esize econd eg etl
    exact H
  · have H := ln_14 dst src imm size cond (kOf size) g tl (rq_dst hR) (rq_src hR) hi
    have esrc := rqlS hR (by decide)
    have esize := rqlZ hR (by decide)
    have econd := rqlC hR (by decide)
    have eg : g = false := rq_g hR (by decide)
    have etl : tl = [] := rq_emp hR (by decide)
    subst esrc esize econd eg etl
    exact H
  · have H := ln_15 dst src imm size cond (kOf size) g tl (rq_dst hR) (rq_src hR) hi
    have esrc := rqlS hR (by decide)
    have esize := rqlZ hR (by decide)
    have econd := rqlC hR (by decide)
    have eg : g = false := rq_g hR (by decide)
    have etl : tl = [] := rq_emp hR (by decide)
    subst esrc esize econd eg etl
    exact H
  · have H := ln_16 dst src imm size cond (kOf size) g tl (rq_dst hR) (rq_src hR) hi
    have esrc := rqlS hR (by decide)
    have esize := rqlZ hR (by decide)
    have econd := rqlC hR (by decide)
    have eg : g = false := rq_g hR (by decide)
    have etl : tl = [] := rq_emp hR (by decide)
    subst esrc esize econd eg etl
    exact H
  · have H := ln_17 dst src imm size cond (kOf size) g tl (rq_dst hR) (rq_src hR) hi
    have esrc := rqlS hR (by decide)
    have esize := rqlZ hR (by decide)
    have econd := rqlC hR (by decide)
    have eg : g = false := rq_g hR (by decide)
    have etl : tl = [] := rq_emp hR (by decide)
    subst esrc esize econd eg etl
    exact H
  · have H := ln_18 dst src imm size cond (kOf size) g tl (rq_dst hR) (rq_src hR) hi
    have esrc := rqlS hR (by decide)
    have esize := rqlZ hR (by decide)
    have econd := rqlC hR (by decide)
    have eg : g = false := rq_g hR (by decide)
    have etl : tl = [] := rq_emp hR (by decide)
    subst esrc esize econd eg etl
    exact H
  · have H := ln_19 dst src imm size cond (kOf size) g tl (rq_dst hR) (rq_src hR) hi
    have esrc := rqlS hR (by decide)
    have esize := rqlZ hR (by decide)
    have econd := rqlC hR (by decide)
    have eg : g = false := rq_g hR (by decide)
    have etl : tl = [] := rq_emp hR (by decide)
    subst esrc esize econd eg etl
    exact H
  · have H := ln_20 dst src imm size cond (kOf size) g tl (rq_dst hR) (rq_src hR) hi
    have esrc := rqlS hR (by decide)
    have esize := rqlZ hR (by decide)
    have econd := rqlC hR (by decide)
    have eg : g = false := rq_g hR (by decide)
    have etl : tl = [] := rq_emp hR (by decide)
    subst esrc esize econd eg etl
    exact H
  · have H := ln_21 dst src imm size cond (kOf size) g tl (rq_dst hR) (rq_src hR) hi
    have esrc := rqlS hR (by decide)
    have eimm := rqlI hR (by decide)
    have esize := rqlZ hR (by decide)
    have econd := rqlC hR (by decide)
    have eg : g = false := rq_g hR (by decide)
    have etl : tl = [] := rq_emp hR (by decide)
    subst esrc eimm esize econd eg etl
    exact H
  · have H := ln_22 dst src imm size cond (kOf size) g tl (rq_dst hR) (rq_src hR) hi
    have esrc := rqlS hR (by decide)
    have eimm := rqlI hR (by decide)
    have esize := rqlZ hR (by decide)
    have econd := rqlC hR (by decide)
    have eg : g = false := rq_g hR (by decide)
    have etl : tl = [] := rq_emp hR (by decide)
    subst esrc eimm esize econd eg etl
    exact H
  · have H := ln_23 dst src imm size cond (kOf size) g tl (rq_dst hR) (rq_src hR) hi
    have esrc := rqlS hR (by decide)
    have eimm := rqlI hR (by decide)
    have esize := rqlZ hR (by decide)
    have econd := rqlC hR (by decide)
    have eg : g = false := rq_g hR (by decide)
    have etl : tl = [] := rq_emp hR (by decide)
    subst esrc eimm esize econd eg etl
    exact H
  · have H := ln_24 dst src imm size cond (kOf size) g tl (rq_dst hR) (rq_src hR) hi
    have esrc := rqlS hR (by decide)
    have esize := rqlZ hR (by decide)
    have econd := rqlC hR (by decide)
    have eg : g = false := rq_g hR (by decide)
    have etl : tl = [] := rq_emp hR (by decide)
    subst esrc esize econd eg etl
    exact H
  · have H := ln_25 dst src imm size cond (kOf size) g tl (rq_dst hR) (rq_src hR) hi
    have esrc := rqlS hR (by decide)
    have esize := rqlZ hR (by decide)
    have econd := rqlC hR (by decide)
    have eg : g = false := rq_g hR (by decide)
    have etl : tl = [] := rq_emp hR (by decide)
    subst esrc esize econd eg etl
    exact H
  · have H := ln_26 dst src imm size cond (kOf size) g tl (rq_dst hR) (rq_src hR) hi
    have esrc := rqlS hR (by decide)
    have esize := rqlZ hR (by decide)
    have econd := rqlC hR (by decide)
    have eg : g = false := rq_g hR (by decide)
    have etl : tl = [] := rq_emp hR (by decide)
    subst esrc esize econd eg etl
    exact H
  · have H := ln_27 dst src imm size cond (kOf size) g tl (rq_dst hR) (rq_src hR) hi
    have edst := rqlD hR (by decide)
    have esrc := rqlS hR (by decide)
    have eimm := rqlI hR (by decide)
    have esize := rqlZ hR (by decide)
    have econd := rqlC hR (by decide)
    have eg : g = false := rq_g hR (by decide)
    have etl : tl = [] := rq_emp hR (by decide)
    subst edst esrc eimm esize econd eg etl
    exact H
  · have H := ln_28 dst src imm size cond (kOf size) g tl (rq_dst hR) (rq_src hR) hi
    have esrc := rqlS hR (by decide)
    have eimm := rqlI hR (by decide)
    have esize := rqlZ hR (by decide)
    have econd := rqlC hR (by decide)
    have eg : g = false := rq_g hR (by decide)
    have etl : tl = [] := rq_emp hR (by decide)
    subst esrc eimm esize econd eg etl
    exact H
  · have H := ln_29 dst src imm size cond (kOf size) g tl (rq_dst hR) (rq_src hR) hi
    have esrc := rqlS hR (by decide)
    have eimm := rqlI hR (by decide)
    have esize := rqlZ hR (by decide)
    have econd := rqlC hR (by decide)
    have eg : g = false := rq_g hR (by decide)
    have etl : tl = [] := rq_emp hR (by decide)
    subst esrc eimm esize econd eg etl
    exact H
  · have hz := kOf_eq (rq_size hR (by decide))
    have H := ln_30 dst src imm size cond (kOf size) g tl (rq_dst hR) (rq_src hR) hi hk (kg_ok hR (by decide)) (k30_ok hR)
    have eimm := rqlI hR (by decide)
    have econd := rqlC hR (by decide)
    have etl : tl = [] := rq_emp hR (by decide)
    rw [← hz] at H
    subst eimm econd etl
    exact H
  · have H := ln_31 dst src imm size cond (kOf size) g tl (rq_dst hR) (rq_src hR) hi (c_ok hR (by decide))
    have esrc := rqlS hR (by decide)
    have eimm := rqlI hR (by decide)
    have esize := rqlZ hR (by decide)
    have eg : g = false := rq_g hR (by decide)
    have etl : tl = [] := rq_emp hR (by decide)
    subst esrc eimm esize eg etl
    exact H
  · have H := ln_32 dst src imm size cond (kOf size) g tl (rq_dst hR) (rq_src hR) hi (c_ok hR (by decide))
    have eimm := rqlI hR (by decide)
    have esize := rqlZ hR (by decide)
    have eg : g = false := rq_g hR (by decide)
    have etl : tl = [] := rq_emp hR (by decide)
    subst eimm esize eg etl
    exact H
  · have H := ln_33 dst src imm size cond (kOf size) g tl (rq_dst hR) (rq_src hR) hi (hn (by decide))
    have edst := rqlD hR (by decide)
    have esrc := rqlS hR (by decide)
    have eimm := rqlI hR (by decide)
    have esize := rqlZ hR (by decide)
    have econd := rqlC hR (by decide)
    have eg : g = false := rq_g hR (by decide)
    subst edst esrc eimm esize econd eg
    exact H
  · have H := ln_34 dst src imm size cond (kOf size) g tl (rq_dst hR) (rq_src hR) hi (c_ok hR (by decide)) (hn (by decide))
    have edst := rqlD hR (by decide)
    have esrc := rqlS hR (by decide)
    have eimm := rqlI hR (by decide)
    have esize := rqlZ hR (by decide)
    have eg : g = false := rq_g hR (by decide)
    subst edst esrc eimm esize eg
    exact H
  · have H := ln_35 dst src imm size cond (kOf size) g tl (rq_dst hR) (rq_src hR) hi (hn (by decide))
    have edst := rqlD hR (by decide)
    have esrc := rqlS hR (by decide)
    have eimm := rqlI hR (by decide)
    have esize := rqlZ hR (by decide)
    have econd := rqlC hR (by decide)
    have eg : g = false := rq_g hR (by decide)
    subst edst esrc eimm esize econd eg
    exact H
  · have H := ln_36 dst src imm size cond (kOf size) g tl (rq_dst hR) (rq_src hR) hi
    have esrc := rqlS hR (by decide)
    have eimm := rqlI hR (by decide)
    have esize := rqlZ hR (by decide)
    have econd := rqlC hR (by decide)
    have eg : g = false := rq_g hR (by decide)
    have etl : tl = [] := rq_emp hR (by decide)
    subst esrc eimm esize econd eg etl
    exact H
  · have H := ln_37 dst src imm size cond (kOf size) g tl (rq_dst hR) (rq_src hR) hi
    have esrc := rqlS hR (by decide)
    have eimm := rqlI hR (by decide)
    have esize := rqlZ hR (by decide)
    have econd := rqlC hR (by decide)
    have eg : g = false := rq_g hR (by decide)
    have etl : tl = [] := rq_emp hR (by decide)
    subst esrc eimm esize econd eg etl
    exact H
  · have H := ln_38 dst src imm size cond (kOf size) g tl (rq_dst hR) (rq_src hR) hi
    have edst := rqlD hR (by decide)
    have esrc := rqlS hR (by decide)
    have eimm := rqlI hR (by decide)
    have esize := rqlZ hR (by decide)
    have econd := rqlC hR (by decide)
    have eg : g = false := rq_g hR (by decide)
    have etl : tl = [] := rq_emp hR (by decide)
    subst edst esrc eimm esize econd eg etl
    exact H
  · have H := ln_39 dst src imm size cond (kOf size) g tl (rq_dst hR) (rq_src hR) hi
    have edst := rqlD hR (by decide)
    have esrc := rqlS hR (by decide)
    have eimm := rqlI hR (by decide)
    have esize := rqlZ hR (by decide)
    have econd := rqlC hR (by decide)
    have eg : g = false := rq_g hR (by decide)
    have etl : tl = [] := rq_emp hR (by decide)
    subst edst esrc eimm esize econd eg etl
    exact H
  · have H := ln_40 dst src imm size cond (kOf size) g tl (rq_dst hR) (rq_src hR) hi
    have esrc := rqlS hR (by decide)
    have eimm := rqlI hR (by decide)
    have esize := rqlZ hR (by decide)
    have econd := rqlC hR (by decide)
    have eg : g = false := rq_g hR (by decide)
    have etl : tl = [] := rq_emp hR (by decide)
    subst esrc eimm esize econd eg etl
    exact H
  · have H := ln_41 dst src imm size cond (kOf size) g tl (rq_dst hR) (rq_src hR) hi
    have edst := rqlD hR (by decide)
    have esrc := rqlS hR (by decide)
    have eimm := rqlI hR (by decide)
    have esize := rqlZ hR (by decide)
    have econd := rqlC hR (by decide)
    have eg : g = false := rq_g hR (by decide)
    have etl : tl = [] := rq_emp hR (by decide)
    subst edst esrc eimm esize econd eg etl
    exact H
end Go.Proofs.YtmmpkkpmlaiapaaGreatDoor
