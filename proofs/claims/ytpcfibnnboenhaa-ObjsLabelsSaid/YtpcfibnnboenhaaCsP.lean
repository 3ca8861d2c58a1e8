/- Types that are trees, as they stand in memory; when two are the same. No condition. -/
import Derived.Test.YtpcfibnnboenhaaStruct
import Derived.Test.YtpcfibnnboenhaaChecked
namespace Go.Proofs.Ytpcfibnnboenhaa
open Go.RowKit
set_option linter.unusedVariables false
inductive Ty where
  | int (s : Int) (g c : Bool)
  | ptr (e : Ty)
  | arr (e : Ty) (n : Int)
  | str (k : Int)
  | fn (r a b : Ty)
def Ty.kind : Ty → Int
  | .int _ _ _ => 1
  | .ptr _ => 2
  | .arr _ _ => 3
  | .str _ => 4
  | .fn _ _ _ => 5
def sameT : Ty → Ty → Bool
  | .int s g c, .int s' g' c' => s == s' && g == g' && c == c'
  | .ptr e, .ptr e' => sameT e e'
  | .arr e n, .arr e' n' => n == n' && sameT e e'
  | .str k, .str k' => k == k'
  | .fn r a b, .fn r' a' b' => sameT r r' && sameT a a' && sameT b b'
  | _, _ => false
theorem sameT_refl : ∀ t, sameT t t = true
  | .int _ _ _ => by simp [sameT]
  | .ptr e => by simpa [sameT] using sameT_refl e
  | .arr e n => by simpa [sameT] using sameT_refl e
  | .str _ => by simp [sameT]
  | .fn r a b => by simp [sameT, sameT_refl r, sameT_refl a, sameT_refl b]
def tyCells (k s : Int) (g c : Bool) (p : Option Addr) (n num : Int) (ps : Value) (rt : Option Addr) : List Value := [.int .i64 k, .int .i64 s, .bool g, .bool c, .pointer p, .int .i64 n, .int .i64 num, ps, .pointer rt]
/-- nine cells read as a type; what they lead to lies in lo -/
def TyC (w : World) (lo : Nat → Prop) : Ty → List Value → Prop
  | .int s g c, cs => cs = tyCells 1 s g c none 0 0 (.slice none 0 0) none
  | .ptr e, cs => ∃ (b : Nat) (ds : List Value), cs = tyCells 2 8 false false (some ⟨b, 0, none⟩) 0 0 (.slice none 0 0) none ∧ lo b ∧ w.heap[b]? = some (.cells ds.toArray 39 (0, 0)) ∧ TyC w lo e ds
  | .arr e n, cs => ∃ (b : Nat) (ds : List Value), cs = tyCells 3 0 false false (some ⟨b, 0, none⟩) n 0 (.slice none 0 0) none ∧ lo b ∧ w.heap[b]? = some (.cells ds.toArray 39 (0, 0)) ∧ TyC w lo e ds
  | .str k, cs => cs = tyCells 4 0 false false none 0 k (.slice none 0 0) none
  | .fn r a b, cs => ∃ (q g cap : Nat) (ds es fs : List Value), cs = tyCells 5 0 false false none 0 0 (.slice (some ⟨g, 0, none⟩) 2 cap) (some ⟨q, 0, none⟩) ∧ (lo q ∧ lo g) ∧ w.heap[q]? = some (.cells ds.toArray 39 (0, 0)) ∧ w.heap[g]? = some (.cells (es ++ fs).toArray 39 (0, 0)) ∧ TyC w lo r ds ∧ TyC w lo a es ∧ TyC w lo b fs
section
variable {w w' : World} {lo lo' : Nat → Prop}
theorem TyC.nine : ∀ {t : Ty} {cs : List Value}, TyC w lo t cs → ∃ (k s : Int) (g c : Bool) (p : Option Addr) (n num : Int) (ps : Value) (rt : Option Addr), cs = tyCells k s g c p n num ps rt ∧ k = t.kind ∧ (ps = .slice none 0 0 ∨ ∃ A n c, ps = .slice A n c)
  | .int s g c, cs, h => ⟨_, _, _, _, _, _, _, _, _, h, rfl, Or.inl rfl⟩
  | .ptr e, cs, ⟨b, ds, h, _⟩ => ⟨_, _, _, _, _, _, _, _, _, h, rfl, Or.inl rfl⟩
  | .arr e n, cs, ⟨b, ds, h, _⟩ => ⟨_, _, _, _, _, _, _, _, _, h, rfl, Or.inl rfl⟩
  | .str k, cs, h => ⟨_, _, _, _, _, _, _, _, _, h, rfl, Or.inl rfl⟩
  | .fn r a b, cs, ⟨q, g, cap, ds, es, fs, h, _⟩ => ⟨_, _, _, _, _, _, _, _, _, h, rfl, Or.inr ⟨_, _, _, rfl⟩⟩
theorem TyC.ten {t : Ty} {cs : List Value} (h : TyC w lo t cs) : ∃ (k s : Int) (g c : Bool) (p : Option Addr) (n num : Int) (A : Option Addr) (q1 q2 : Nat) (rt : Option Addr), cs = tyCells k s g c p n num (.slice A q1 q2) rt := by
  obtain ⟨k, s, g, c, p, n, num, ps, rt, rfl, _, hps⟩ := h.nine
  rcases hps with rfl | ⟨A, q1, q2, rfl⟩
  · exact ⟨_, _, _, _, _, _, _, _, _, _, _, rfl⟩
  · exact ⟨_, _, _, _, _, _, _, _, _, _, _, rfl⟩
theorem TyC.kept (hb : ∀ b, lo b → b < w.heap.size → w'.heap[b]? = w.heap[b]?) : ∀ {t : Ty} {cs : List Value}, TyC w lo t cs → TyC w' lo t cs
  | .int s g c, cs, h => h
  | .ptr e, cs, ⟨b, ds, h, hl, h1, h2⟩ => ⟨b, ds, h, hl, (hb b hl (blk_lt h1)).trans h1, TyC.kept hb h2⟩
  | .arr e n, cs, ⟨b, ds, h, hl, h1, h2⟩ => ⟨b, ds, h, hl, (hb b hl (blk_lt h1)).trans h1, TyC.kept hb h2⟩
  | .str k, cs, h => h
  | .fn r a b, cs, ⟨q, g, cap, ds, es, fs, h, hl, h1, h2, h3, h4, h5⟩ => ⟨q, g, cap, ds, es, fs, h, hl, (hb q hl.1 (blk_lt h1)).trans h1, (hb g hl.2 (blk_lt h2)).trans h2, TyC.kept hb h3, TyC.kept hb h4, TyC.kept hb h5⟩
theorem TyC.later {t : Ty} {cs : List Value} (h : TyC w lo t cs) (hb : Below w.heap.size w w') : TyC w' lo t cs := h.kept fun b _ hl => hb.block b hl
theorem TyC.low (hl : ∀ b, lo b → b < w.heap.size → lo' b) : ∀ {t : Ty} {cs : List Value}, TyC w lo t cs → TyC w lo' t cs
  | .int s g c, cs, h => h
  | .ptr e, cs, ⟨b, ds, h, h0, h1, h2⟩ => ⟨b, ds, h, hl b h0 (blk_lt h1), h1, TyC.low hl h2⟩
  | .arr e n, cs, ⟨b, ds, h, h0, h1, h2⟩ => ⟨b, ds, h, hl b h0 (blk_lt h1), h1, TyC.low hl h2⟩
  | .str k, cs, h => h
  | .fn r a b, cs, ⟨q, g, cap, ds, es, fs, h, h0, h1, h2, h3, h4, h5⟩ => ⟨q, g, cap, ds, es, fs, h, ⟨hl q h0.1 (blk_lt h1), hl g h0.2 (blk_lt h2)⟩, h1, h2, TyC.low hl h3, TyC.low hl h4, TyC.low hl h5⟩
end
/-- a type as if it were secret -/
def secT : Ty → Ty
  | .int s g _ => .int s g true
  | .arr e n => .arr (secT e) n
  | t => t
theorem sameT_kind : ∀ (t u : Ty), t.kind ≠ u.kind → sameT t u = false
  | .int _ _ _, .int _ _ _, h | .ptr _, .ptr _, h | .arr _ _, .arr _ _, h | .str _, .str _, h | .fn _ _ _, .fn _ _ _, h => absurd rfl h
  | .int _ _ _, .ptr _, _ | .int _ _ _, .arr _ _, _ | .int _ _ _, .str _, _ | .int _ _ _, .fn _ _ _, _ => rfl
  | .ptr _, .int _ _ _, _ | .ptr _, .arr _ _, _ | .ptr _, .str _, _ | .ptr _, .fn _ _ _, _ => rfl
  | .arr _ _, .int _ _ _, _ | .arr _ _, .ptr _, _ | .arr _ _, .str _, _ | .arr _ _, .fn _ _ _, _ => rfl
  | .str _, .int _ _ _, _ | .str _, .ptr _, _ | .str _, .arr _ _, _ | .str _, .fn _ _ _, _ => rfl
  | .fn _ _ _, .int _ _ _, _ | .fn _ _ _, .ptr _, _ | .fn _ _ _, .arr _ _, _ | .fn _ _ _, .str _, _ => rfl
end Go.Proofs.Ytpcfibnnboenhaa
