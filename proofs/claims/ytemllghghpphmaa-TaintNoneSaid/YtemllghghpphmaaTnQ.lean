/- A function's blocks, copied into new memory, one block's instructions laid anew after the other. No condition. -/
import Derived.Test.YtemllghghpphmaaTnP
import Derived.IntWalk
namespace Go.Proofs.Ytemllghghpphmaa
open Go.RowKit
set_option linter.unusedVariables false
/-- the cells read as a block, whatever becomes of g -/
def Rests (w : World) (g : Nat) (cs : List Value) (blk : BlockD) : Prop := ∀ w', (∀ b, b ≠ g → b < w.heap.size → w'.heap[b]? = w.heap[b]?) → BlockR w' cs blk
section
variable {W0 w w2 : World} {g : Nat} {cs : List Value} {blk : BlockD}
theorem Rests.of_in (h : BlockR W0 cs blk) (hb : Below W0.heap.size W0 w) (hg : W0.heap.size ≤ g) : Rests w g cs blk := fun w' hw => h.foot fun b hbl => (hw b (by omega) (by have := hb.size; omega)).trans (hb.block b hbl)
theorem Rests.later (h : Rests w g cs blk) (hb : ∀ b, b ≠ g → b < w.heap.size → w2.heap[b]? = w.heap[b]?) (hs : w.heap.size ≤ w2.heap.size) : Rests w2 g cs blk := fun w' hw => h w' fun b h1 h2 => (hw b h1 (by omega)).trans (hb b h1 h2)
theorem Rests.blockR (h : Rests w g cs blk) : BlockR w cs blk := h w fun _ _ _ => rfl
theorem Rests.ins {Bl : Nat} {vl : Value} {ins' : List InsD} {cssl : List (List Value)} (h : Rests w g cs blk) (hb0 : Below W0.heap.size W0 w) (hg : W0.heap.size ≤ g) (row : w.ownsRow Bl 29 12 vl ins'.length cssl.flatten) (hl : cssl.length = ins'.length) (he : ∀ cs ∈ cssl, cs.length = 12)
    (hR : ∀ (i : Nat) cs x, cssl[i]? = some cs → ins'[i]? = some x → InsR W0 cs x) (hne : vl.ownBlock = none ∨ vl.ownBlock ≠ some g) (hlen : ins'.length ≤ 140737488351232) : Rests w g (cs.set 0 vl) { blk with ins := ins' } := fun w' hw => by
  obtain ⟨va, rfl, a1, a2, a3⟩ := h w' hw
  refine ⟨vl, rfl, row_slR row hl he (fun i cs x h1 h2 => (hR i cs x h1 h2).foot fun b hbl => (hw b (by omega) (by have := hb0.size; omega)).trans (hb0.block b hbl)) (fun b hb => ?_), hlen, a3⟩
  refine hw b (fun e => ?_) (row.lt b hb).2
  rcases hne with h | h
  · rw [hb] at h; cases h
  · exact h (by rw [hb, e])
end
/-- the blocks' row -/
structure RowS (wr : World) (g2 c2 n B2 : Nat) (f : FuncD) (G : Nat → BlockD → BlockD) (css : List (List Value)) : Prop where
  row : wr.ownsRow B2 34 9 (.slice (some ⟨g2, 0, none⟩) n c2) n css.flatten
  len : css.length = n
  each : ∀ cs ∈ css, cs.length = 9
  el : ∀ (i : Nat) cs blk, css[i]? = some cs → f.blocks[i]? = some blk → Rests wr g2 cs (G i blk)
section
variable {W0 wr w2 : World} {g2 c2 n B2 : Nat} {f : FuncD} {G G' : Nat → BlockD → BlockD} {css : List (List Value)}
theorem RowS.later (h : RowS wr g2 c2 n B2 f G css) (hb : Below wr.heap.size wr w2) : RowS w2 g2 c2 n B2 f G css :=
  ⟨own_below h.row hb, h.len, h.each, fun i cs blk h1 h2 => (h.el i cs blk h1 h2).later (fun b _ hbl => hb.block b hbl) hb.size⟩
theorem RowS.grown {r : Nat} (h : RowS wr g2 c2 n B2 f G css) (hg : wr.grownBy w2 (some r)) (hr : g2 ≠ r) (hel : ∀ (i : Nat) cs blk, css[i]? = some cs → f.blocks[i]? = some blk → Rests w2 g2 cs (G i blk)) : RowS w2 g2 c2 n B2 f G css :=
  ⟨h.row.kept hg (Or.inr (fun e => hr (by simpa [Value.ownBlock] using e))), h.len, h.each, hel⟩
theorem RowS.put (h : RowS wr g2 c2 n B2 f G css) {j : Nat} {cs : List Value} {blk : BlockD} (hj : css[j]? = some cs) (hbk : f.blocks[j]? = some blk) (v : Value) (hG : ∀ (i : Nat) b, i ≠ j → G' i b = G i b) (hnew : Rests wr g2 (cs.set 0 v) (G' j blk)) :
    RowS (wr.setCell ⟨g2, j * 9, none⟩ v) g2 c2 n B2 f G' (css.set j (cs.set 0 v)) ∧ wr.grownBy (wr.setCell ⟨g2, j * 9, none⟩ v) (some g2) := by
  obtain ⟨h1, h2, h3, h4⟩ := row_put h.row h.each hj (by decide : 0 < 9) v
  rw [Nat.add_zero] at h1 h2
  have off : ∀ b, b ≠ g2 → b < wr.heap.size → (wr.setCell ⟨g2, j * 9, none⟩ v).heap[b]? = wr.heap[b]? := fun b hb _ => Below.heap_setCell _ _ _ _ hb
  refine ⟨⟨h1, by rw [h3, h.len], h4, fun i c b hi hb => ?_⟩, h2⟩
  by_cases e : i = j
  · subst e
    rw [List.getElem?_set_self (List.getElem?_eq_some_iff.1 hj).1] at hi
    rw [hbk] at hb
    rw [← Option.some.inj hi, ← Option.some.inj hb]
    exact hnew.later off (by simp)
  · rw [List.getElem?_set_ne (fun h => e h.symm)] at hi
    rw [hG i b e]
    exact (h.el i c b hi hb).later off (by simp)
/-- the whole row reads -/
theorem RowS.slR {xs : List BlockD} (h : RowS wr g2 c2 n B2 f G css) (hx : xs.length = n) (hG : ∀ (i : Nat) y, xs[i]? = some y → ∃ b, f.blocks[i]? = some b ∧ G i b = y) : SlR wr 9 (BlockR wr) (.slice (some ⟨g2, 0, none⟩) n c2) xs := by
  subst hx
  refine row_slR h.row h.len h.each (fun i cs y h1 h2 => ?_) (fun _ _ => rfl)
  obtain ⟨b, hb, rfl⟩ := hG i y h2
  exact (h.el i cs b h1 hb).blockR
theorem RowS.start (h : wr.ownsRow B2 34 9 (.slice (some ⟨g2, 0, none⟩) n c2) n css.flatten) (hl : css.length = n) (he : ∀ cs ∈ css, cs.length = 9) (hR : ∀ (i : Nat) cs blk, css[i]? = some cs → f.blocks[i]? = some blk → BlockR W0 cs blk)
    (hb : Below W0.heap.size W0 wr) (hg : W0.heap.size ≤ g2) (hG : ∀ (i : Nat) b, G i b = b) : RowS wr g2 c2 n B2 f G css :=
  ⟨h, hl, he, fun i cs blk h1 h2 => by rw [hG]; exact Rests.of_in (hR i cs blk h1 h2) hb hg⟩
end
/-- a block's instructions, copied: each reads as it did, or as it was turned -/
structure RowI (W0 wr : World) (B : Nat) (v : Value) (ins : List InsD) (G : Nat → InsD → InsD) (css : List (List Value)) : Prop where
  row : wr.ownsRow B 29 12 v ins.length css.flatten
  len : css.length = ins.length
  each : ∀ cs ∈ css, cs.length = 12
  el : ∀ (i : Nat) cs x, css[i]? = some cs → ins[i]? = some x → InsR W0 cs (G i x)
theorem RowI.put {W0 wr : World} {B g c m : Nat} {ins : List InsD} {G G' : Nat → InsD → InsD} {css : List (List Value)} (h : RowI W0 wr B (.slice (some ⟨g, 0, none⟩) m c) ins G css) (hm : m = ins.length) {k : Nat} {x : InsD} (hx : ins[k]? = some x) (b : Bool)
    (hG : ∀ (i : Nat) y, i ≠ k → G' i y = G i y) (hG2 : G' k x = { G k x with secret := b }) :
    ∃ css', RowI W0 (wr.setCell ⟨g, k * 12 + 8, none⟩ (.bool b)) B (.slice (some ⟨g, 0, none⟩) m c) ins G' css' ∧ wr.grownBy (wr.setCell ⟨g, k * 12 + 8, none⟩ (.bool b)) (some g) ∧ (∃ u, wr.cell? ⟨g, k * 12 + 8, none⟩ = some u) ∧ wr.frozen? ⟨g, k * 12 + 8, none⟩ = false ∧ g < wr.heap.size := by
  subst hm
  have hk := (List.getElem?_eq_some_iff.1 hx).1
  obtain ⟨cs, hcs⟩ : ∃ cs, css[k]? = some cs := ⟨_, List.getElem?_eq_getElem (by rw [h.len]; exact hk)⟩
  have hlen := h.each cs (List.mem_of_getElem? hcs)
  obtain ⟨h1, h2, h3, h4⟩ := row_put h.row h.each hcs (by decide : 8 < 12) (.bool b)
  have hat := row_at h.row h.len h.each hcs (List.getElem?_eq_getElem (show 8 < cs.length by omega))
  refine ⟨_, ⟨h1, by rw [h3, h.len], h4, fun i c y hi hy => ?_⟩, h2, ⟨_, hat.1⟩, hat.2⟩
  by_cases e : i = k
  · subst e
    rw [List.getElem?_set_self (List.getElem?_eq_some_iff.1 hcs).1] at hi
    rw [hx] at hy
    rw [← Option.some.inj hi, ← Option.some.inj hy, hG2]
    obtain ⟨va, rfl, r⟩ := h.el i cs x hcs hx
    exact ⟨va, rfl, r⟩
  · rw [List.getElem?_set_ne (fun h => e h.symm)] at hi
    rw [hG i y e]
    exact h.el i c y hi hy
theorem RowI.later {W0 wr w2 : World} {B : Nat} {v : Value} {ins : List InsD} {G : Nat → InsD → InsD} {css : List (List Value)} (h : RowI W0 wr B v ins G css) (hb : Below wr.heap.size wr w2) : RowI W0 w2 B v ins G css := ⟨own_below h.row hb, h.len, h.each, h.el⟩
/-- a block whose instructions are such a row -/
theorem RowI.rests {W0 w : World} {B g : Nat} {v : Value} {ins ins' : List InsD} {G : Nat → InsD → InsD} {css : List (List Value)} (h : RowI W0 w B v ins G css) (hl : ins'.length = ins.length) (hG : ∀ (i : Nat) y, ins'[i]? = some y → ∃ x, ins[i]? = some x ∧ G i x = y)
    {cs : List Value} {blk : BlockD} (hr : Rests w g cs blk) (hb0 : Below W0.heap.size W0 w) (hg : W0.heap.size ≤ g) (hne : v.ownBlock = none ∨ v.ownBlock ≠ some g) (hlen : ins.length ≤ 140737488351232) : Rests w g (cs.set 0 v) { blk with ins := ins' } :=
  hr.ins hb0 hg (by rw [hl]; exact h.row) (by rw [hl]; exact h.len) h.each (fun i c y h1 h2 => by obtain ⟨x, hx, rfl⟩ := hG i y h2; exact h.el i c x h1 hx) hne (by omega)
theorem idx_mod (q : Int) {n : Nat} (h0 : 0 < n) (hn : n ≤ 1000000) : ∃ i : Nat, (wrap64 (q.tmod (n : Int) + (n : Int))).tmod (n : Int) = (i : Int) ∧ i < n := by
  have h1 : -(n : Int) < q.tmod n ∧ q.tmod n < n := by
    have a := Int.tmod_lt_of_pos q (show (0 : Int) < (n : Int) by omega)
    have b := Int.lt_tmod_of_pos q (show (0 : Int) < (n : Int) by omega)
    omega
  have h2 : wrap64 (q.tmod (n : Int) + (n : Int)) = q.tmod n + n := IntWalk.wrap64_in _ (by omega)
  have h3 : 0 ≤ (q.tmod (n : Int) + (n : Int)).tmod n := Int.tmod_nonneg _ (by omega)
  have h4 := Int.tmod_lt_of_pos (q.tmod (n : Int) + (n : Int)) (show (0 : Int) < (n : Int) by omega)
  exact ⟨((q.tmod (n : Int) + (n : Int)).tmod n).toNat, by rw [h2]; omega, by omega⟩
end Go.Proofs.Ytemllghghpphmaa
