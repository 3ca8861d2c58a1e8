/- Walks: rows of numbers that the call owns; where ends lead. No condition. -/
import Derived.Test.YtemllghghpphmaaSet
import Derived.Test.YtemllghghpphmaaRv
import Derived.Test.YtemllghghpphmaaFlP
import Derived.Test.YtemllghghpphmaaOw
import Derived.Deep.LoopGhost
namespace Go.Proofs.Ytemllghghpphmaa
open Go.RowKit
set_option linter.unusedVariables false
set_option maxHeartbeats 1000000
def iv (l : List Int) : List Value := l.map (Value.int .i64)
/-- a slice's value owns these numbers -/
def OwnI (w : World) (base : Nat) (v : Value) (l : List Int) : Prop := w.ownsRow base 3 1 v l.length (iv l)
theorem OwnI.cell {w : World} {base g n cap j : Nat} {l : List Int} (h : OwnI w base (.slice (some ⟨g, 0, none⟩) n cap) l) (hj : j < l.length) (x : Int) (hx : l[j]? = some x) : w.cell? ⟨g, j, none⟩ = some (.int .i64 x) := by
  have hn : n = l.length := by
    rcases h.2 with ⟨e, _⟩ | ⟨_, _, _, e, _⟩
    · cases e
    · cases e; rfl
  subst hn
  exact (World.ownsRow.cellAt h j (by omega)).trans (by simp [iv, hx])
theorem own_snoc {w : World} {base : Nat} {v : Value} {l : List Int} {x : Int} (h : OwnI w base v (l ++ [x])) :
    ∃ g cap, v = .slice (some ⟨g, 0, none⟩) (l.length + 1) cap ∧ l.length + 1 ≤ cap ∧ cap ≤ maxLen ∧ g < w.heap.size ∧ w.cell? ⟨g, l.length, none⟩ = some (.int .i64 x) ∧ OwnI w base (.slice (some ⟨g, 0, none⟩) l.length cap) l := by
  have h0 := h
  unfold OwnI at h0
  rw [show (l ++ [x]).length = l.length + 1 by simp] at h0
  obtain ⟨g, cap, rfl, h1, h2, h3, h4⟩ := own_form h0 (by omega)
  have ht := own_take h0 (m := l.length) (by omega)
  rw [show (iv (l ++ [x])).take l.length = iv l by simp [iv]] at ht
  exact ⟨g, cap, rfl, h1, h2, h4, h.cell (by simp) x (by simp), ht⟩
theorem var_set {w : World} {bw : Nat} {wv v : Value} {T : TypeId} (hb : w.heap[bw]? = some (.cells #[wv] T (0, 0))) (m : Nat) :
    ((w.drewN m).setCell ⟨bw, 0, none⟩ v).heap[bw]? = some (.cells #[v] T (0, 0)) ∧ w.grownBy ((w.drewN m).setCell ⟨bw, 0, none⟩ v) (some bw) := by
  have h : (w.drewN m).heap[bw]? = some (.cells #[wv] T (0, 0)) := hb
  refine ⟨by rw [blk_setCell h v]; rfl, rfl, rfl, rfl, by simp [World.setCell, World.drewN], fun k hk hne => ?_⟩
  exact Below.heap_setCell (w.drewN m) ⟨bw, 0, none⟩ v k (fun e => hne (by rw [e]))
/-- a new slice of ints comes back -/
def NewI (w : World) (l : List Int) (e : Ending) (w' : World) : Prop := ∃ v, e = .returned v ∧ OwnI w' w.heap.size v l ∧ Below w.heap.size w w'
theorem lit_own (w : World) (B g : Nat) (cs : Array Value) (l : List Int) (hg : g = w.heap.size) (hB : B ≤ w.heap.size) (hc : cs.toList = iv l) (hl : l.length ≤ maxLen) :
    OwnI (w.alloc (.cells cs 3)) B (.slice (some ⟨g, 0, none⟩) l.length l.length) l := by
  subst hg
  have hs : cs.size = l.length * 1 := by rw [← Array.length_toList, hc]; simp [iv]
  unfold OwnI
  rw [← hc]
  exact World.ownsRow_lit (size := 1) w cs l.length hB hl hs
theorem next_own (w : World) (t : TermD) : Calls Try.prog 21 #[termV t] w (NewI w (nextT t)) := by
  unfold nextT
  by_cases k1 : t.kind = 1
  · rw [if_pos k1]
    go_enter Try.func21, Try.ntmps21
    go_wp2
    go_returns
    exact ⟨_, rfl, lit_own _ _ _ _ [t.to_] (by simp) (by simp) rfl (by simp [maxLen]), below_alloc _ (below_alloc _ (Below.refl _ _))⟩
  · rw [if_neg k1]
    have b1 : (t.kind == 1) = false := by simpa using k1
    by_cases k2 : t.kind = 2
    · rw [if_pos k2]
      clear b1 k1
      go_enter Try.func21, Try.ntmps21
      go_wp2
      go_returns
      exact ⟨_, rfl, lit_own _ _ _ _ [t.to_, t.els] (by simp) (by simp) rfl (by simp [maxLen]), below_alloc _ (below_alloc _ (Below.refl _ _))⟩
    · rw [if_neg k2]
      have b2 : (t.kind == 2) = false := by simpa using k2
      clear k1 k2
      go_enter Try.func21, Try.ntmps21
      go_wp2
      go_returns
      exact ⟨_, rfl, World.ownsRow_nil _ _ _ _, below_alloc _ (Below.refl _ _)⟩
def nxF (f : FuncD) (i : Nat) : List Int := match f.blocks[i]? with
  | some b => nextT b.term
  | none => []
theorem nextT_len (t : TermD) : (nextT t).length ≤ 2 := by
  unfold nextT
  split
  · simp
  · split <;> simp
theorem nxF_of {f : FuncD} {i : Nat} {b : BlockD} (h : f.blocks[i]? = some b) : nxF f i = nextT b.term := by unfold nxF; rw [h]
theorem Try.infoInt : (Try.prog.info? 3).map (fun i => (i.zero, i.size, i.bytes)) = some (some (.int .i64 0), 1, 8) := by kernel_rfl
end Go.Proofs.Ytemllghghpphmaa
