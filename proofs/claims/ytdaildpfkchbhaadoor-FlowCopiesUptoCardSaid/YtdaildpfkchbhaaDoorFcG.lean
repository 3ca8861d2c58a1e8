/- FlowCopies: flow.Each: rows of functions turned. No condition. -/
import Derived.Test.YtdaildpfkchbhaaDoorFcD
import Derived.Test.YtdaildpfkchbhaaDoorOc
namespace Go.Proofs.YtdaildpfkchbhaaDoor
open Go.RowKit
set_option linter.unusedVariables false
set_option maxHeartbeats 4000000
set_option maxRecDepth 100000 in
theorem turn_any (w : World) (nm : ByteArray) (hn : nm.size ≤ 1048576) (a r : Int) (A1 A2 A3 : Option Addr) (n1 c1 n2 c2 n3 c3 : Nat) :
    Calls Tryd.prog 10 #[.agg #[.string nm, .int .i64 a, .slice A1 n1 c1, .int .i64 r, .slice A2 n2 c2, .slice A3 n3 c3]] w fun e w' => e = .returned (.agg #[.string (nm ++ { data := #[120] }), .int .i64 a, .slice A1 n1 c1, .int .i64 r, .slice A2 n2 c2, .slice A3 n3 c3]) ∧ Below w.heap.size w w' := by
  obtain ⟨w1, hw1⟩ : ∃ w1, w1 = (w.alloc (.cells #[.string nm, .int .i64 a, .slice A1 n1 c1, .int .i64 r, .slice A2 n2 c2, .slice A3 n3 c3] 32)).alloc (.cells #[.string ⟨#[]⟩, .int .i64 0, .slice none 0 0, .int .i64 0, .slice none 0 0, .slice none 0 0] 32) := ⟨_, rfl⟩
  have hb1 : Below w.heap.size w w1 := by rw [hw1]; exact below_alloc _ (below_alloc _ (Below.refl _ _))
  have hx1 : w1.heap[w.heap.size]? = some (.cells #[.string nm, .int .i64 a, .slice A1 n1 c1, .int .i64 r, .slice A2 n2 c2, .slice A3 n3 c3] 32 (0, 0)) := by rw [hw1]; exact blk_alloc (blk_new _ _) _
  have hr1 : w1.heap[w.heap.size + 1]? = some (.cells #[.string ⟨#[]⟩, .int .i64 0, .slice none 0 0, .int .i64 0, .slice none 0 0, .slice none 0 0] 32 (0, 0)) := by rw [hw1]; exact blk_new' (by simp)
  have q0 := blk_cell (i := 0) (v := .string nm) hx1 rfl
  have q0f := blk_free (i := 0) hx1
  have HX1 := Lib.hid hx1
  have HR1 := Lib.hid hr1
  have HB1 := Lib.hid hb1
  clear hb1 hx1 hr1
  go_enter Tryd.func10, Tryd.ntmps10
  go_upto_region 1 with (fail)
  rw [← hw1]
  clear hw1
  go_upto_region 2 with (fail)
  obtain ⟨NX, hNX⟩ : ∃ NX, NX = nm ++ { data := #[120] } := ⟨_, rfl⟩
  rw [← hNX]
  obtain ⟨wz, hwz⟩ : ∃ wz, wz = w1.setCell ⟨w.heap.size, 0, none⟩ (.string NX) := ⟨_, rfl⟩
  rw [← hwz]
  have hxz : wz.heap[w.heap.size]? = some (.cells #[.string NX, .int .i64 a, .slice A1 n1 c1, .int .i64 r, .slice A2 n2 c2, .slice A3 n3 c3] 32 (0, 0)) := by rw [hwz]; exact blk_setCell HX1.out _
  have HRz := Lib.hid (show wz.heap[w.heap.size + 1]? = some (.cells #[.string ⟨#[]⟩, .int .i64 0, .slice none 0 0, .int .i64 0, .slice none 0 0, .slice none 0 0] 32 (0, 0)) by rw [hwz]; exact blk_set HR1.out (by simp) _)
  have HBz := Lib.hid (show Below w.heap.size w wz by rw [hwz]; exact below_set HB1.out _ _ _ (Nat.le_refl _))
  have c0 := blk_cell (i := 0) (v := .string NX) hxz rfl
  have c1' := blk_cell (i := 1) (v := .int .i64 a) hxz rfl
  have c2' := blk_cell (i := 2) (v := .slice A1 n1 c1) hxz rfl
  have c3' := blk_cell (i := 3) (v := .int .i64 r) hxz rfl
  have c4' := blk_cell (i := 4) (v := .slice A2 n2 c2) hxz rfl
  have c5 := blk_cell (i := 5) (v := .slice A3 n3 c3) hxz rfl
  have HNX := Lib.hid hNX
  clear hwz hxz q0 q0f hNX hn
  go_wp2_with (refine wpList_store_blk (by rfl) 32 _ _ (by rfl) (w.heap.size + 1) (by rfl) (by rfl) HRz.out (by rfl) (by kernel_rfl) (by kernel_rfl) ?_; intro x7 k7 hb7 hz7 ho7)
  have q0 := blk_cell (i := 0) k7 rfl
  have q1 := blk_cell (i := 1) k7 rfl
  have q2 := blk_cell (i := 2) k7 rfl
  have q3 := blk_cell (i := 3) k7 rfl
  have q4 := blk_cell (i := 4) k7 rfl
  have q5 := blk_cell (i := 5) k7 rfl
  exact bodyPost_ret (v := .agg #[.string NX, .int .i64 a, .slice A1 n1 c1, .int .i64 r, .slice A2 n2 c2, .slice A3 n3 c3]) (by simp [results, Tryd.results10, go_sem, q0, q1, q2, q3, q4, q5]; try rfl) rfl ⟨by rw [HNX.out], hb7 _ _ (by omega) HBz.out⟩
theorem Tryd.cinfoFunc : (Tryd.prog.info? 32).map (fun i => (i.zero.map (·.cells.size), i.size, i.bytes)) = some (some 6, 6, 104) := by kernel_rfl
/-- a row of blocks, of each but how many instructions it has -/
def RowL (w : World) (g : Nat) (bs : List BlockD) : Prop :=
  ∃ cur, w.heap[g]? = some (.cells cur 41 (0, 0)) ∧ ∀ i b, bs[i]? = some b → ∃ A c, (∀ j, j < 9 → cur[i * 9 + j]? = (blkL b (.slice A b.ins.length c))[j]?)
theorem RowB.rowL {w0 w : World} {B g : Nat} {bs : List BlockD} (h : RowB w B g bs (fun _ vi b => NewI w0 w B vi b.ins b.ins.length)) : RowL w g bs := by
  obtain ⟨cur, h1, h2, h3⟩ := h
  refine ⟨cur, h2, fun i b hb => ?_⟩
  obtain ⟨vi, k1, A, c, rfl, _⟩ := h3 i b hb
  exact ⟨A, c, k1⟩
theorem RowL.kept {w w' : World} {g : Nat} {bs : List BlockD} {r : Option Nat} (h : RowL w g bs) (hg : w.grownBy w' r) (hr : ∀ b, r = some b → b < w.heap.size → ∃ cur T fr, w.heap[b]? = some (.cells cur T fr) ∧ T ≠ 41) : RowL w' g bs := by
  obtain ⟨cur, h2, h3⟩ := h
  refine ⟨cur, (hg.block g (blk_lt h2) (fun e => ?_)).trans h2, h3⟩
  obtain ⟨c2, T, fr, q1, q2⟩ := hr g e.symm (blk_lt h2)
  rw [h2] at q1
  simp only [Option.some.injEq, Obj.cells.injEq] at q1
  exact q2 q1.2.1.symm
def xB (s : ByteArray) : ByteArray := s ++ { data := #[120] }
/-- a turned function's cells -/
def FX (w : World) (cs : List Value) (f : FuncD) : Prop :=
  ∃ (A1 A2 : Option Addr) (n1 c1 n2 c2 g cap : Nat), cs = [.string (xB f.name), .int .i64 f.params, .slice A1 n1 c1, .int .i64 f.regs, .slice A2 n2 c2, .slice (some ⟨g, 0, none⟩) f.blocks.length cap] ∧ f.blocks.length ≤ cap ∧ cap ≤ maxLen ∧ RowL w g f.blocks
theorem FX.kept {w w' : World} {cs : List Value} {f : FuncD} {r : Option Nat} (h : FX w cs f) (hg : w.grownBy w' r) (hr : ∀ b, r = some b → b < w.heap.size → ∃ cur T fr, w.heap[b]? = some (.cells cur T fr) ∧ T ≠ 41) : FX w' cs f := by
  obtain ⟨A1, A2, n1, c1, n2, c2, g, cap, h1, h2, h3, h4⟩ := h
  exact ⟨A1, A2, n1, c1, n2, c2, g, cap, h1, h2, h3, h4.kept hg hr⟩
/-- a row of turned functions -/
def RowQ (w : World) (B : Nat) (v : Value) (fs : List FuncD) (css : List (List Value)) : Prop :=
  w.ownsRow B 32 6 v fs.length css.flatten ∧ css.length = fs.length ∧ (∀ cs ∈ css, cs.length = 6) ∧ ∀ (i : Nat) cs f, css[i]? = some cs → fs[i]? = some f → FX w cs f
theorem RowQ.nil (w : World) (B : Nat) : RowQ w B (.slice none 0 0) [] [] := ⟨World.ownsRow_nil _ _ _ _, rfl, (fun _ h => by cases h), fun i cs f h => by simp at h⟩
theorem RowQ.below {w w' : World} {B : Nat} {v : Value} {fs : List FuncD} {css : List (List Value)} (h : RowQ w B v fs css) (hb : Below w.heap.size w w') : RowQ w' B v fs css :=
  ⟨own_below h.1 hb, h.2.1, h.2.2.1, fun i cs f h1 h2 => (h.2.2.2 i cs f h1 h2).kept (r := none) (grown_of_below hb) (fun b hb => by cases hb)⟩
theorem RowQ.set {w : World} {B : Nat} {v : Value} {fs : List FuncD} {css : List (List Value)} (h : RowQ w B v fs css) {g j : Nat} {cur : Array Value} {T : TypeId} {fr : Nat × Nat} (hg : w.heap[g]? = some (.cells cur T fr)) (h1 : 32 ≠ T) (h2 : T ≠ 41) (u : Value) : RowQ (w.setCell ⟨g, j, none⟩ u) B v fs css :=
  ⟨h.1.kept (grown_set w g j u) (own_blk h.1 hg h1), h.2.1, h.2.2.1, fun i cs f k1 k2 => (h.2.2.2 i cs f k1 k2).kept (grown_set w g j u) (fun b hb _ => by cases hb; exact ⟨_, _, _, hg, h2⟩)⟩
/-- one more -/
theorem RowQ.push {w : World} {B : Nat} {v : Value} {fs : List FuncD} {css : List (List Value)} (h : RowQ w B v fs css) (hB : B ≤ w.heap.size) (f : FuncD) (hf : fs.length ≤ 1000000) {A1 A2 : Option Addr} {n1 c1 n2 c2 g cap : Nat} (hc : f.blocks.length ≤ cap ∧ cap ≤ maxLen) (hl : RowL w g f.blocks) :
    ∃ v' w' css', (Builtin.append_ #[22, 22] 22 #[v, .slice (some ⟨w.heap.size, 0, none⟩) 1 1]).run Tryd.prog (w.alloc (.cells #[.string (xB f.name), .int .i64 f.params, .slice A1 n1 c1, .int .i64 f.regs, .slice A2 n2 c2, .slice (some ⟨g, 0, none⟩) f.blocks.length cap] 32)) = .ok v' w' ∧ RowQ w' B v' (fs ++ [f]) css' ∧ w.grownBy w' v.ownBlock := by
  obtain ⟨i0, z0, q1, q2, q3, q4, q5⟩ := info_partsC Tryd.cinfoFunc
  obtain ⟨v', w', r1, r2, r3, r4⟩ := append_oneC (P := Tryd.prog) B 22 32 i0 z0 6 104 Tryd.underlying22 q1 q2 q4 q5 q3 (by decide) v fs.length css.flatten h.1 #[.string (xB f.name), .int .i64 f.params, .slice A1 n1 c1, .int .i64 f.regs, .slice A2 n2 c2, .slice (some ⟨g, 0, none⟩) f.blocks.length cap] rfl w.heap.size rfl (fun u hu => by
    simp only [List.mem_cons, List.not_mem_nil, or_false] at hu
    rcases hu with e | e | e | e | e | e <;> subst e <;> rfl) (by unfold maxLen; omega) (by omega) hB
  have hr : ∀ b, v.ownBlock = some b → b < w.heap.size → ∃ cur T fr, w.heap[b]? = some (.cells cur T fr) ∧ T ≠ 41 := fun b hb _ => by
    rcases own_cells h.1 with ⟨rfl, _⟩ | ⟨g2, cap2, cur2, rfl, _, k3, _⟩
    · cases hb
    · cases hb; exact ⟨_, _, _, k3, by decide⟩
  refine ⟨v', w', css ++ [[.string (xB f.name), .int .i64 f.params, .slice A1 n1 c1, .int .i64 f.regs, .slice A2 n2 c2, .slice (some ⟨g, 0, none⟩) f.blocks.length cap]], r1, ⟨by simpa using r2, by simp [h.2.1], fun cs hm => ?_, fun i cs y hi hy => ?_⟩, r3⟩
  · rcases List.mem_append.1 hm with hm | hm
    · exact h.2.2.1 cs hm
    · rw [List.mem_singleton.1 hm]; rfl
  · by_cases hlt : i < css.length
    · rw [List.getElem?_append_left hlt] at hi
      rw [List.getElem?_append_left (by have := h.2.1; omega)] at hy
      exact (h.2.2.2 i cs y hi hy).kept r3 hr
    · have e : i = css.length := by have := (List.getElem?_eq_some_iff.1 hi).1; simp at this; omega
      subst e
      rw [List.getElem?_append_right (Nat.le_refl _), Nat.sub_self] at hi
      rw [h.2.1, List.getElem?_append_right (Nat.le_refl _), Nat.sub_self] at hy
      simp only [List.getElem?_cons_zero, Option.some.injEq] at hi hy
      subst hi hy
      exact ⟨A1, A2, n1, c1, n2, c2, g, cap, rfl, hc.1, hc.2, hl.kept r3 hr⟩
end Go.Proofs.YtdaildpfkchbhaaDoor
