/- Plain: a function without secrets, and one with one secret more; what is secret in the one is secret in the other. No condition. -/
import Derived.Test.YtemllghghpphmaaTm
import Derived.Test.YtemllghghpphmaaCo
namespace Go.Proofs.Ytemllghghpphmaa
open Go.RowKit
set_option linter.unusedVariables false
def cleanI (x : InsD) : InsD := { x with secret := false }
def hotI (x : InsD) : InsD := { x with secret := true }
def cleanB (b : BlockD) : BlockD := { b with ins := b.ins.map cleanI }
/-- no secrets -/
def cleanF (f : FuncD) (P : Nat) : FuncD := { f with secret := List.replicate P false, blocks := f.blocks.map cleanB }
def hotB' (b : BlockD) (k : Nat) : BlockD := { b with ins := match b.ins[k]? with | some x => b.ins.set k (hotI x) | none => b.ins }
/-- one secret more -/
def hotF (f : FuncD) (i k : Nat) : FuncD := { f with blocks := match f.blocks[i]? with | some b => f.blocks.set i (hotB' b k) | none => f.blocks }
theorem cleanI_less (x : InsD) : Less (cleanI x) x := ⟨rfl, rfl, rfl, fun h => by cases h⟩
theorem hotI_less (x : InsD) : Less x (hotI x) := ⟨rfl, rfl, rfl, fun _ => rfl⟩
theorem hotB_ins (b : BlockD) (k : Nat) : b.ins.length = (hotB' b k).ins.length ∧ ∀ (i : Nat) x y, b.ins[i]? = some x → (hotB' b k).ins[i]? = some y → Less x y := by
  unfold hotB'
  cases hk : b.ins[k]? with
  | none => exact ⟨rfl, fun i x y h1 h2 => by simp only at h2; rw [h1] at h2; rw [Option.some.inj h2]; exact Less.refl _⟩
  | some z =>
    refine ⟨by simp, fun i x y h1 h2 => ?_⟩
    simp only at h2
    rw [List.getElem?_set] at h2
    split at h2
    · rename_i e; subst e
      rw [hk] at h1
      split at h2
      · rw [← Option.some.inj h1, ← Option.some.inj h2]; exact hotI_less _
      · cases h2
    · rw [h1] at h2; rw [Option.some.inj h2]; exact Less.refl _
theorem hotF_blk (f : FuncD) (i k b : Nat) (hb : b < f.blocks.length) : blkF (hotF f i k) b = blkF f b ∨ ∃ x, blkF f b = x ∧ blkF (hotF f i k) b = hotB' x k := by
  have e0 : blkF f b = f.blocks[b] := blkF_of (List.getElem?_eq_getElem hb)
  cases hi : f.blocks[i]? with
  | none => exact Or.inl (by unfold hotF; simp only [hi])
  | some z =>
    have e1 : (hotF f i k).blocks = f.blocks.set i (hotB' z k) := by unfold hotF; simp only [hi]
    by_cases e : i = b
    · subst e
      right
      refine ⟨_, rfl, ?_⟩
      have : (hotF f i k).blocks[i]? = some (hotB' z k) := by rw [e1, List.getElem?_set_self hb]
      rw [blkF_of this, e0]
      rw [List.getElem?_eq_getElem hb] at hi
      rw [Option.some.inj hi]
    · left
      have : (hotF f i k).blocks[b]? = some f.blocks[b] := by rw [e1, List.getElem?_set_ne e, List.getElem?_eq_getElem hb]
      rw [blkF_of this, e0]
theorem hotF_len (f : FuncD) (i k : Nat) : (hotF f i k).blocks.length = f.blocks.length := by
  unfold hotF
  cases hi : f.blocks[i]? with
  | none => simp only
  | some z => simp only [List.length_set]
theorem hotF_nx (f : FuncD) (i k b : Nat) (hb : b < f.blocks.length) : nxF (hotF f i k) b = nxF f b := by
  have h1 : b < (hotF f i k).blocks.length := by rw [hotF_len]; exact hb
  have e1 := blkF_of (List.getElem?_eq_getElem h1)
  have e2 := blkF_of (List.getElem?_eq_getElem hb)
  have e3 := nxF_of (List.getElem?_eq_getElem h1)
  have e4 := nxF_of (List.getElem?_eq_getElem hb)
  rw [e3, e4, ← e1, ← e2]
  rcases hotF_blk f i k b hb with h | ⟨x, hx, h⟩
  · rw [h]
  · rw [h, hx]; rfl
theorem hotF_ins (f : FuncD) (i k b : Nat) (hb : b < f.blocks.length) : (blkF f b).ins.length = (blkF (hotF f i k) b).ins.length ∧ ∀ (j : Nat) x y, (blkF f b).ins[j]? = some x → (blkF (hotF f i k) b).ins[j]? = some y → Less x y := by
  rcases hotF_blk f i k b hb with h | ⟨x, hx, h⟩
  · rw [h]; exact ⟨rfl, fun j x y h1 h2 => by rw [h1] at h2; rw [Option.some.inj h2]; exact Less.refl _⟩
  · rw [h, hx]; exact hotB_ins x k
/-- what is secret stays so where there is one secret more -/
theorem sec_more (f : FuncD) (i k : Nat) {n : Nat} (hn : n = f.blocks.length) {J J' : Nat → Nat → Bool} (h : LeastP f.secret (blkF f) (nxF f) n J) (h' : LeastP (hotF f i k).secret (blkF (hotF f i k)) (nxF (hotF f i k)) n J') (r : Nat) (hs : SecJ (blkF f) n J r) : SecJ (blkF (hotF f i k)) n J' r := by
  have hp : Post f.secret (blkF f) (nxF f) n J' := by
    refine ⟨fun j hj => h'.1.1 j hj, fun b c hb hc hx r hr => h'.1.2 b c hb hc (by rw [hotF_nx f i k b (by omega)]; exact hx) r ?_⟩
    have hl := hotF_ins f i k b (by omega)
    exact stepsB_mono _ _ hl.1 hl.2 (fun _ h => h) r hr
  obtain ⟨b, hb, j, hj, hr⟩ := hs
  have hl := hotF_ins f i k b (by omega)
  refine ⟨b, hb, j, by omega, ?_⟩
  refine stepsB_mono _ _ (by rw [List.length_take, List.length_take, hl.1]) (fun q x y hx hy => ?_) (fun r hr => h.2 _ hp b r hb hr) r hr
  rw [List.getElem?_take] at hx hy
  split at hx
  · rename_i hq; rw [if_pos hq] at hy; exact hl.2 q x y hx hy
  · cases hx
theorem cleanF_secret (f : FuncD) (P : Nat) : ∀ i : Nat, (cleanF f P).secret[i]? ≠ some true := fun i h => by
  have : (List.replicate P false)[i]? = some true := h
  rw [List.getElem?_replicate] at this
  split at this <;> simp at this
theorem cleanF_ins (f : FuncD) (P : Nat) : ∀ b ∈ (cleanF f P).blocks, ∀ x ∈ b.ins, x.secret = false := fun b hb x hx => by
  obtain ⟨b0, _, rfl⟩ := List.mem_map.1 hb
  obtain ⟨x0, _, rfl⟩ := List.mem_map.1 hx
  rfl
theorem cleanF_nx (f : FuncD) (P b : Nat) (hb : b < f.blocks.length) : nxF (cleanF f P) b = nxF f b := by
  have h1 : b < (cleanF f P).blocks.length := by show b < (f.blocks.map cleanB).length; simpa using hb
  have e3 := nxF_of (List.getElem?_eq_getElem h1)
  have e4 := nxF_of (List.getElem?_eq_getElem hb)
  rw [e3, e4]
  have : (cleanF f P).blocks[b] = cleanB f.blocks[b] := List.getElem_map cleanB
  rw [this]; rfl
/-- what holds of all instructions, whatever is secret, holds still -/
theorem cleanF_all {Q : InsD → Prop} (f : FuncD) (P : Nat) (hQ : ∀ x, Q x → Q (cleanI x)) (h : ∀ b ∈ f.blocks, ∀ x ∈ b.ins, Q x) : ∀ b ∈ (cleanF f P).blocks, ∀ x ∈ b.ins, Q x := fun b hb x hx => by
  obtain ⟨b0, hb0, rfl⟩ := List.mem_map.1 hb
  obtain ⟨x0, hx0, rfl⟩ := List.mem_map.1 hx
  exact hQ _ (h b0 hb0 x0 hx0)
theorem cleanF_len {m : Nat} (f : FuncD) (P : Nat) (h : ∀ b ∈ f.blocks, b.ins.length ≤ m) : ∀ b ∈ (cleanF f P).blocks, b.ins.length ≤ m := fun b hb => by
  obtain ⟨b0, hb0, rfl⟩ := List.mem_map.1 hb
  show (b0.ins.map cleanI).length ≤ m
  rw [List.length_map]; exact h b0 hb0
theorem hotF_all {Q : InsD → Prop} (f : FuncD) (i k : Nat) (hQ : ∀ x, Q x → Q (hotI x)) (h : ∀ b ∈ f.blocks, ∀ x ∈ b.ins, Q x) : ∀ b ∈ (hotF f i k).blocks, ∀ x ∈ b.ins, Q x := fun b hb x hx => by
  unfold hotF at hb
  cases hi : f.blocks[i]? with
  | none => simp only [hi] at hb; exact h b hb x hx
  | some z =>
    simp only [hi] at hb
    rcases List.mem_or_eq_of_mem_set hb with hb | rfl
    · exact h b hb x hx
    · have hz := h z (List.mem_of_getElem? hi)
      unfold hotB' at hx
      cases hk : z.ins[k]? with
      | none => simp only [hk] at hx; exact hz x hx
      | some y =>
        simp only [hk] at hx
        rcases List.mem_or_eq_of_mem_set hx with hx | rfl
        · exact hz x hx
        · exact hQ _ (hz y (List.mem_of_getElem? hk))
end Go.Proofs.Ytemllghghpphmaa
