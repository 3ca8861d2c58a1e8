/- What a function that may be gives; graph.Of of it. No condition. -/
import Derived.Test.YtegnaeinpacafaaGr4
import Derived.Test.YtegnaeinpacafaaRn
namespace Go.Proofs.Ytegnaeinpacafaa
open Go.RowKit
set_option linter.unusedVariables false
set_option maxHeartbeats 4000000
structure FnOk (f : FuncD) (R P : Nat) : Prop where
  regs : f.regs = (R : Int)
  par : f.params = (P : Int)
  hPR : P ≤ R
  h0n : 0 < f.blocks.length
  hn : f.blocks.length ≤ 2000
  hR : R ≤ 300
  hnx : ∀ i k, i < f.blocks.length → k ∈ nxF f i → 0 ≤ k ∧ k < f.blocks.length
  hslim : ∀ b ∈ f.blocks, ∀ x ∈ b.ins, x.args.length ≤ 4000
  hil : ∀ b ∈ f.blocks, b.ins.length ≤ 2000
  hdst : ∀ b ∈ f.blocks, ∀ x ∈ b.ins, (-1 ≤ x.dst ∧ x.dst < (R : Int)) ∧ ∀ a ∈ readsD x, -1 ≤ a.reg ∧ a.reg < (R : Int)
  htr : ∀ b ∈ f.blocks, ∀ a ∈ readsT b.term, -1 ≤ a.reg ∧ a.reg < (R : Int)
  hcp : ∀ b ∈ f.blocks, ∀ x ∈ b.ins, x.op = 2 → 0 ≤ x.dst
theorem argsB_all {regs : Int} {l : List ArgD} (h : argsB regs l = true) : ∀ a ∈ l, -1 ≤ a.reg ∧ a.reg < regs := fun a ha => by
  unfold argsB at h
  have := List.all_eq_true.1 h a ha
  simp only [Bool.not_eq_true', Bool.or_eq_false_iff, decide_eq_false_iff_not] at this
  omega
theorem FnOk.of {p : ProgD} {f : FuncD} (h1 : FuncOk p f) (h2 : FuncL f) : ∃ R P : Nat, FnOk f R P := by
  obtain ⟨⟨a1, a2, a3, a4, a5⟩, a6⟩ := h1
  obtain ⟨b1, b2, b3, b4, b5⟩ := h2
  have hR : f.regs = ((f.regs.toNat : Nat) : Int) := by omega
  refine ⟨f.regs.toNat, f.params.toNat, hR, by omega, by omega, Nat.pos_of_ne_zero a5, b3, by omega, fun i k hi hk => ?_, fun b hb x hx => ((b5 b hb).2 x hx).1, fun b hb => (b5 b hb).1, fun b hb x hx => ?_, fun b hb a ha => ?_, fun b hb x hx h => ?_⟩
  · rw [nxF_of (List.getElem?_eq_getElem hi)] at hk
    exact (a6 _ (List.getElem_mem hi)).2.2.2.2.2 k hk
  · have := (a6 b hb).1 x hx
    rw [← hR]
    exact ⟨⟨this.2.2.2.1, this.2.2.2.2.1⟩, argsB_all this.2.2.1⟩
  · have := (a6 b hb).2.2.2.1
    rw [← hR]
    exact argsB_all this a ha
  · have := (a6 b hb).1 x hx
    exact this.2.2.2.2.2.2.1 (by omega)
theorem of_fn (W0 w : World) (h0 : Below W0.heap.size W0 w) (gf : Nat) (f : FuncD) (R P : Nat) (hF : FnOk f R P) (vb : Value) (c5 : w.cell? ⟨gf, 5, none⟩ = some vb) (c3 : w.cell? ⟨gf, 3, none⟩ = some (.int .i64 (R : Nat))) (c1 : w.cell? ⟨gf, 1, none⟩ = some (.int .i64 (P : Nat))) (hb : SlR W0 9 (BlockR W0) vb f.blocks) :
    Calls Try.prog 21 #[.pointer (some ⟨gf, 0, none⟩)] w (OfR w f R P) :=
  of_any W0 w h0 gf 0 f vb (by rw [Nat.zero_add]; exact c5) R P (by rw [Nat.zero_add]; exact c3) (by rw [Nat.zero_add]; exact c1) hF.hPR hb hF.h0n (by have := hF.hn; omega) (by have := hF.hR; omega) hF.hnx (fun b hb x hx => by have := hF.hslim b hb x hx; omega) (fun b hb => by have := hF.hil b hb; omega) hF.hdst hF.htr
theorem OwnI.set {w : World} {base g n cap j : Nat} {l : List Int} (h : OwnI w base (.slice (some ⟨g, 0, none⟩) n cap) l) (hn : n = l.length) (x : Int) : OwnI (w.setCell ⟨g, j, none⟩ (.int .i64 x)) base (.slice (some ⟨g, 0, none⟩) n cap) (l.set j x) ∧ w.grownBy (w.setCell ⟨g, j, none⟩ (.int .i64 x)) (some g) := by
  subst hn
  obtain ⟨k1, hg⟩ := World.ownsRow.stored h j (.int .i64 x)
  refine ⟨?_, hg⟩
  unfold OwnI
  rw [List.length_set, show iv (l.set j x) = (iv l).set j (.int .i64 x) by simp [iv, List.map_set]]
  exact k1
/-- the graph, and numbers of one's own that are counted beside it -/
structure US (w wr : World) (Bf L0 L1 gb R : Nat) (av cv mv uv : Value) (vs : List Value) (E : Nat → Nat → Bool) (M : Nat → Bool) (us : List Int) (cp : List (Int × Int)) (ub : Nat) (U : List Int) (c : Int) : Prop where
  g : GrR wr Bf L0 L1 gb R av cv mv uv vs E M us cp
  o : OwnI wr ub (.slice (some ⟨ub, 0, none⟩) R R) U
  l0 : L0 ≤ ub
  lw : w.heap.size ≤ ub
  bel : Below w.heap.size w wr
  ub_ : Ub U c
  len : U.length = R
section
variable {w wr w2 : World} {Bf L0 L1 gb R : Nat} {av cv mv uv : Value} {vs : List Value} {E : Nat → Nat → Bool} {M : Nat → Bool} {us : List Int} {cp : List (Int × Int)} {ub : Nat} {U U' : List Int} {c c' : Int}
theorem US.congr (h : US w wr Bf L0 L1 gb R av cv mv uv vs E M us cp ub U c) (hU : U = U') (hc : c ≤ c') : US w wr Bf L0 L1 gb R av cv mv uv vs E M us cp ub U' c' := by subst hU; exact { h with ub_ := h.ub_.mono hc }
theorem US.more (h : US w wr Bf L0 L1 gb R av cv mv uv vs E M us cp ub U c) (hb : Below wr.heap.size wr w2) : US w w2 Bf L0 L1 gb R av cv mv uv vs E M us cp ub U c :=
  ⟨h.g.more hb, own_below h.o hb, h.l0, h.lw, h.bel.trans (hb.mono h.bel.size), h.ub_, h.len⟩
theorem US.at_ (h : US w wr Bf L0 L1 gb R av cv mv uv vs E M us cp ub U c) {r : Nat} {x : Int} (hx : U[r]? = some x) : wr.cell? ⟨ub, r, none⟩ = some (.int .i64 x) ∧ wr.frozen? ⟨ub, r, none⟩ = false ∧ ub < wr.heap.size := by
  have hj := (List.getElem?_eq_some_iff.1 hx).1
  have hc := OwnI.cell h.o hj x hx
  have ho := h.o
  unfold OwnI at ho
  rw [h.len] at ho
  exact ⟨hc, ho.frozenAt r, (ho.lt ub rfl).2⟩
theorem US.put (h : US w wr Bf L0 L1 gb R av cv mv uv vs E M us cp ub U c) {r : Nat} {x : Int} (hx : U[r]? = some x) (hc : 0 ≤ c) :
    US w (wr.setCell ⟨ub, r, none⟩ (.int .i64 (x + 1))) Bf L0 L1 gb R av cv mv uv vs E M us cp ub (addU U r) (c + 1) ∧ wr.grownBy (wr.setCell ⟨ub, r, none⟩ (.int .i64 (x + 1))) (some ub) := by
  obtain ⟨k1, k2⟩ := OwnI.set (j := r) h.o h.len.symm (x + 1)
  refine ⟨⟨h.g.kept k2 (fun k hk => by cases hk; exact h.l0) (own_ne h.g.ci h.o (by decide)), ?_, h.l0, h.lw, below_of_grown h.bel (Nat.le_refl _) k2 (fun k hk => by cases hk; exact h.lw), h.ub_.add r hc, by rw [addU_length, h.len]⟩, k2⟩
  rw [addU_some hx]
  exact k1
/-- what is not of numbers stays -/
theorem US.box (h : US w wr Bf L0 L1 gb R av cv mv uv vs E M us cp ub U c) {k : Nat} {cs : Array Value} {T : TypeId} {fr : Nat × Nat} (hk : wr.heap[k]? = some (.cells cs T fr)) (hT : 3 ≠ T) (hg : wr.grownBy w2 (some ub)) : w2.heap[k]? = some (.cells cs T fr) :=
  blk_kept hk hg (own_blk h.o hk hT)
end
end Go.Proofs.Ytegnaeinpacafaa
