/- FlowCopies: (rtl.Func).Show in the middle; how long its lines may be. No condition. -/
import Derived.Test.YtdaildpfkchbhaaDoorFcJ
import Derived.Deep.RegionLaw
namespace Go.Proofs.YtdaildpfkchbhaaDoor
open Go.RowKit
set_option linter.unusedVariables false
/-- Func.Show in the middle: the box stands, the row of words is the call's own -/
def MidF (w : World) (cs : Array Value) (l : List (List UInt8)) (v : Value) (wx : World) : Prop :=
  wx.ownsRow (w.heap.size + 1) 9 1 v l.length (sv l) ∧ Below w.heap.size w wx ∧ wx.heap[w.heap.size]? = some (.cells cs 32 (0, 0))
theorem MidF.app {w : World} {cs : Array Value} {l : List (List UInt8)} {v : Value} {wx w2 : World} (h : MidF w cs l v wx) (hb : Below wx.heap.size wx w2) (x : List UInt8) (hl : l.length ≤ 1000000000) :
    ∃ v' w', (Builtin.append_ #[60, 60] 60 #[v, .slice (some ⟨w2.heap.size, 0, none⟩) 1 1]).run Tryd.prog (w2.alloc (.cells #[.string ⟨⟨x⟩⟩] 9)) = .ok v' w' ∧ MidF w cs (l ++ [x]) v' w' ∧ w2.grownBy w' v.ownBlock := by
  obtain ⟨h1, h2, h3⟩ := h
  have hs := blk_lt h3
  have hs2 := hb.size
  have h1' := own_below h1 hb
  have h2' := below_over h2 hb
  have h3' := blk_below h3 hb
  obtain ⟨v', w', r1, r2, r3⟩ := own_str h1' x hl (by omega)
  refine ⟨v', w', r1, ⟨r2, below_of_grown h2' (Nat.le_refl _) r3 (fun j hj => ?_), blk_kept h3' r3 (own_blk h1' h3' (by decide))⟩, r3⟩
  rcases h1'.2 with ⟨rfl, e⟩ | ⟨g, cap, cur, rfl, g1, _⟩
  · cases hj
  · simp only [Value.ownBlock, Option.some.injEq] at hj; omega
theorem MidF.appB {w : World} {cs : Array Value} {l : List (List UInt8)} {v : Value} {wx w2 : World} (h : MidF w cs l v wx) (hb : Below wx.heap.size wx w2) (x : List UInt8) (B : ByteArray) (hB : B = ⟨⟨x⟩⟩) (hl : l.length ≤ 1000000000) :
    ∃ v' w', (Builtin.append_ #[60, 60] 60 #[v, .slice (some ⟨w2.heap.size, 0, none⟩) 1 1]).run Tryd.prog (w2.alloc (.cells #[.string B] 9)) = .ok v' w' ∧ MidF w cs (l ++ [x]) v' w' ∧ w2.grownBy w' v.ownBlock := by
  subst hB
  exact h.app hb x hl
theorem MidF.more {w : World} {cs : Array Value} {l : List (List UInt8)} {v : Value} {wx w2 : World} (h : MidF w cs l v wx) (hb : Below wx.heap.size wx w2) : MidF w cs l v w2 :=
  ⟨own_below h.1 hb, below_over h.2.1 hb, blk_below h.2.2 hb⟩
theorem MidF.kept {w : World} {cs : Array Value} {l : List (List UInt8)} {v : Value} {wx w2 w3 : World} (h : MidF w cs l v wx) (hb : Below wx.heap.size wx w2) (hg : w2.grownBy w3 v.ownBlock) {b : Nat} {ds : Array Value} {T : TypeId} {fr : Nat × Nat} (hx : w2.heap[b]? = some (.cells ds T fr)) (hT : 9 ≠ T) : w3.heap[b]? = some (.cells ds T fr) :=
  blk_kept hx hg (own_blk (own_below h.1 hb) hx hT)
def ShwI (x : InsD) : Prop := x.args.length ≤ 4000 ∧ (x.op = 22 ∨ x.op = 26 ∨ x.op = 27 → 1 ≤ x.size ∧ x.size ≤ 8)
def BlkOk (b : BlockD) : Prop := (∀ x ∈ b.ins, ShwI x) ∧ b.ins.length ≤ 2000 ∧ (b.term.kind = 2 → 16 ≤ b.term.op ∧ b.term.op ≤ 21)
def FunOk (f : FuncD) : Prop := (∀ b ∈ f.blocks, BlkOk b) ∧ f.blocks.length ≤ 2000 ∧ f.name.size ≤ 1048576
def InsIn (x : InsD) : Prop := In64 x.op ∧ In64 x.dst ∧ (In64 x.a.reg ∧ In64 x.a.num) ∧ (In64 x.b.reg ∧ In64 x.b.num) ∧ In64 x.size ∧ In64 x.ref ∧ In64 x.off ∧ ArgsIn x.args
def TermIn (t : TermD) : Prop := In64 t.kind ∧ In64 t.op ∧ (In64 t.a.reg ∧ In64 t.a.num) ∧ (In64 t.b.reg ∧ In64 t.b.num) ∧ In64 t.to_ ∧ In64 t.els
theorem readsD_length (x : InsD) : (readsD x).length ≤ x.args.length + 2 := by
  unfold readsD; (repeat' split) <;> simp
theorem readsD_in {x : InsD} (h : InsIn x) : ArgsIn (readsD x) := by
  obtain ⟨_, _, h1, h2, _, _, _, h3⟩ := h
  intro a ha
  unfold readsD at ha
  split at ha
  · exact h3 a ha
  · split at ha
    · rcases List.mem_cons.1 ha with rfl | ha
      · exact h1
      · exact h3 a ha
    · split at ha
      · rcases List.mem_cons.1 ha with rfl | ha
        · exact h1
        · rw [List.mem_singleton] at ha; subst ha; exact h2
      · split at ha
        · cases ha
        · rw [List.mem_singleton] at ha; subst ha; exact h1
theorem insS_len {x : InsD} (hi : InsIn x) (ho : ShwI x) : (insS x).length ≤ 130000 := by
  have h1 := wordsI_le (x := x) hi.2.1 hi.2.2.2.2.2.1 hi.2.2.2.2.2.2.1 (fun h => by have := ho.2 h; exact ⟨by omega, by omega⟩) (readsD_in hi)
  have h2 := join_le (sep := [32]) h1
  have h3 := wordsI_length x
  have h4 := readsD_length x
  have h5 := ho.1
  have h6 : (30 + 1) * (wordsI x).length ≤ 31 * 4007 := Nat.mul_le_mul_left _ (by omega)
  have h2 : (insS x).length ≤ (30 + 1) * (wordsI x).length := h2
  omega
theorem termS_len {t : TermD} (h : TermIn t) : (termS t).length ≤ 200 := by
  obtain ⟨_, _, h1, h2, h3, h4⟩ := h
  have a1 := argS_len h1.1 h1.2
  have a2 := argS_len h2.1 h2.2
  have a3 := numS_len h3
  have a4 := numS_len h4
  have a5 := nameS_len t.op
  unfold termS
  split
  · simp only [List.length_append, List.length_cons, List.length_nil]; omega
  · split
    · simp only [List.length_append, List.length_cons, List.length_nil]; omega
    · simp only [List.length_append, List.length_cons, List.length_nil]; omega
theorem linesG_le : ∀ (i : Nat) (l : List BlockD), (∀ b ∈ l, BlkOk b ∧ (∀ x ∈ b.ins, InsIn x) ∧ TermIn b.term) → i + l.length ≤ 2000 → LensLe 131000 (linesG i l) ∧ (linesG i l).length ≤ 2002 * l.length
  | i, [], _, _ => ⟨fun s h => (by cases h), Nat.le_refl _⟩
  | i, b :: r, hb, hi => by
    rw [List.length_cons] at hi
    obtain ⟨r1, r2⟩ := linesG_le (i + 1) r (fun c hc => hb c (List.mem_cons_of_mem _ hc)) (by omega)
    obtain ⟨⟨k1, k2, k3⟩, k4, k5⟩ := hb b (List.mem_cons_self ..)
    constructor
    · intro s hs
      simp only [linesG, List.mem_append] at hs
      rcases hs with hs | hs
      · simp only [linesB, List.mem_append] at hs
        rcases hs with (hs | hs) | hs
        · rw [List.mem_singleton] at hs; subst hs
          have := numS_len (n := (i : Int)) ⟨by omega, by omega⟩
          simp only [List.length_append, List.length_cons, List.length_nil]; omega
        · obtain ⟨x, hx, rfl⟩ := List.mem_map.1 hs
          have := insS_len (k4 x hx) (k1 x hx)
          simp only [List.length_append, List.length_cons, List.length_nil]; omega
        · rw [List.mem_singleton] at hs; subst hs
          have := termS_len k5
          omega
      · exact r1 s hs
    · have e1 : (linesB i b).length = b.ins.length + 2 := by simp [linesB]
      have e2 : (linesG i (b :: r)).length = (linesB i b).length + (linesG (i + 1) r).length := by simp [linesG]
      rw [List.length_cons, e2, e1, Nat.mul_add]; omega
theorem linesF_le {f : FuncD} (hf : FunOk f) (hp : In64 f.params) (h : ∀ b ∈ f.blocks, (∀ x ∈ b.ins, InsIn x) ∧ TermIn b.term) : LensLe 1200000 (linesF f) ∧ (linesF f).length ≤ 4004001 := by
  obtain ⟨h1, h2⟩ := linesG_le 0 f.blocks (fun b hb => ⟨hf.1 b hb, h b hb⟩) (by have := hf.2.1; omega)
  constructor
  · intro s hs
    rcases List.mem_cons.1 hs with rfl | hs
    · have h3 := numS_len hp
      have h4 : f.name.data.toList.length ≤ 1048576 := hf.2.2
      simp only [List.length_append, List.length_cons, List.length_nil]; omega
    · have := h1 s hs; omega
  · have := hf.2.1
    simp only [linesF, List.length_cons]; omega
theorem SlR.all {α : Type} {w : World} {C : Nat} {R : List Value → α → Prop} {v : Value} {xs : List α} (h : SlR w C R v xs) : ∀ x ∈ xs, ∃ cs, R cs x := by
  intro x hx
  obtain ⟨i, hi⟩ := List.mem_iff_getElem?.1 hx
  obtain ⟨A, cap, rfl, _, _, h3⟩ := h
  obtain ⟨b, o, cs, _, _, _, h4⟩ := h3 i x hi
  exact ⟨cs, h4⟩
theorem insR_in {w : World} {cs : List Value} {x : InsD} (h : InsR w cs x) : InsIn x := by
  obtain ⟨va, _, h1, h2, h3, h4, h5, h6, h7, h8, h9, h10, _⟩ := h
  exact ⟨h1, h2, ⟨h3, h4⟩, ⟨h5, h6⟩, h7, h8, h9, h10.argsIn⟩
theorem blockR_in {w : World} {cs : List Value} {b : BlockD} (h : BlockR w cs b) : (∀ x ∈ b.ins, InsIn x) ∧ TermIn b.term := by
  obtain ⟨vi, _, h1, _, h2, h3, h4, h5, h6, h7, h8, h9⟩ := h
  exact ⟨fun x hx => by obtain ⟨cs, hc⟩ := h1.all x hx; exact insR_in hc, h2, h3, ⟨h4, h5⟩, ⟨h6, h7⟩, h8, h9⟩
theorem take_len {f : FuncD} (hf : FunOk f) (h : ∀ b ∈ f.blocks, (∀ x ∈ b.ins, InsIn x) ∧ TermIn b.term) (k : Nat) : (linesG 0 (f.blocks.take k)).length ≤ 4004000 := by
  have h1 := (linesG_le 0 (f.blocks.take k) (fun b hb => ⟨hf.1 b (List.mem_of_mem_take hb), h b (List.mem_of_mem_take hb)⟩) (by rw [List.length_take]; have := hf.2.1; omega)).2
  have h2 := hf.2.1
  rw [List.length_take] at h1
  omega
theorem step_append_run {P : Program} {ops : Array Oper} {o : Oper} {a : Act} {w : World} {K : Act → World → Prop} {Q : Exit → Act → World → Prop} {E : Prop} (hg : o.guard = none) (s x : Operand) (t : TypeId)
    (hop : o.op = .call { callee := .builtin .append, args := #[s, x], argTypes := #[t, t] }) (v u v' : Value) (w' : World) (hs : a.eval s = v) (hx : a.eval x = u)
    (hr : (Builtin.append_ #[t, t] o.type #[v, u]).run P w = .ok v' w') (hK : K (a.put o.dst v') w') : if Region.wanted o (yielded ops a.tmps) = true then Oper.wp P o a w K Q else E := by
  have hw : Region.wanted o (yielded ops a.tmps) = true := by simp [Region.wanted, hg]
  rw [if_pos hw]
  unfold Oper.wp execOp
  simp only [hop, resolve, invoke, builtin, Sem.run_bind, Sem.run_pure, Result.andThen_ok, List.map_toArray, List.map_cons, List.map_nil, hs, hx, hr]
  exact hK
end Go.Proofs.YtdaildpfkchbhaaDoor
