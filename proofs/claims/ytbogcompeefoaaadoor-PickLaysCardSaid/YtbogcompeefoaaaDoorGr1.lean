/- What stands in memory while graph.Of runs: the graph, its sets, its lists. No condition. -/
import Derived.Test.YtbogcompeefoaaaDoorFl7
import Derived.Test.YtbogcompeefoaaaDoorQb
import Derived.Test.YtbogcompeefoaaaDoorQd
namespace Go.Proofs.YtbogcompeefoaaaDoor
open Go.RowKit
set_option linter.unusedVariables false
set_option maxHeartbeats 1000000
/-- a set of the first R registers -/
def SetB (w : World) (base : Nat) (v : Value) (R : Nat) (S : Nat → Bool) : Prop := ∃ l, SetR w base v l ∧ l.length = (R + 63) / 64 ∧ ∀ r, r < R → bitL l r = S r
section
variable {w w' : World} {base R : Nat} {v v2 : Value} {S T : Nat → Bool}
theorem SetB.congr (h : SetB w base v R S) (hs : ∀ r, r < R → S r = T r) : SetB w base v R T := by
  obtain ⟨l, h1, h2, h3⟩ := h
  exact ⟨l, h1, h2, fun r hr => (h3 r hr).trans (hs r hr)⟩
theorem SetB.kept {r : Option Nat} (h : SetB w base v R S) (hg : w.grownBy w' r) (hd : v.ownBlock = none ∨ v.ownBlock ≠ r) : SetB w' base v R S := by
  obtain ⟨l, h1, h2, h3⟩ := h
  exact ⟨l, own_kept h1 hg hd, h2, h3⟩
theorem SetB.more (h : SetB w base v R S) (hb : Below w.heap.size w w') : SetB w' base v R S := by
  obtain ⟨l, h1, h2, h3⟩ := h
  exact ⟨l, set_below h1 hb, h2, h3⟩
theorem SetB.base_ {B : Nat} (h : SetB w base v R S) (hB : B ≤ base) : SetB w B v R S := by
  obtain ⟨l, h1, h2, h3⟩ := h
  exact ⟨l, ⟨own_base h1.1 hB, h1.2⟩, h2, h3⟩
theorem SetB.own_ (h : SetB w base v R S) : ∃ n xs, w.ownsRow base 127 1 v n xs := let ⟨l, h1, _⟩ := h; ⟨_, _, h1.1⟩
theorem SetB.lt_ (h : SetB w base v R S) {g : Nat} (hg : v.ownBlock = some g) : base ≤ g ∧ g < w.heap.size := let ⟨l, h1, _⟩ := h; h1.1.lt g hg
theorem SetB.ne_ {b2 size n : Nat} {Ty : TypeId} {xs : List Value} (h : SetB w base v R S) (h2 : w.ownsRow b2 Ty size v2 n xs) (hT : 127 ≠ Ty) : v.ownBlock = none ∨ v.ownBlock ≠ v2.ownBlock := let ⟨l, h1, _⟩ := h; own_ne h1.1 h2 hT
theorem SetB.slice_ (h : SetB w base v R S) : ∃ A cap, v = .slice A ((R + 63) / 64) cap := by
  obtain ⟨l, h1, h2, _⟩ := h
  obtain ⟨A, cap, e, _⟩ := h1.slice_
  rw [h2] at e
  exact ⟨A, cap, e⟩
theorem SetB.zero {n : Nat} (h : SetR w base v (List.replicate ((R + 63) / 64) 0)) : SetB w base v R (fun _ => false) := ⟨_, h, by simp, fun r _ => bitL_zero _ _⟩
theorem has_b (w : World) (i : Nat) (h : SetB w base v R S) (hR : R ≤ 1000000) (hi : i < R) : Calls Tryd.prog 38 #[v, .int .i64 (i : Nat)] w fun e w' => e = .returned (.bool (S i)) ∧ w = w' := by
  obtain ⟨l, h1, h2, h3⟩ := h
  refine (has_any w base v l (i : Nat) h1 (by omega)).mono ?_
  rintro e w' ⟨rfl, rfl⟩
  refine ⟨ret_bool ?_, rfl⟩
  unfold hasL
  rw [decide_eq_true (by omega), Bool.true_and, show ((i : Nat) : Int).toNat = i by omega, h3 i hi]
/-- a set has become another one -/
def SetTB (w : World) (base : Nat) (v : Value) (R : Nat) (S : Nat → Bool) (e : Ending) (w' : World) : Prop := e = .returned (.tuple #[]) ∧ SetB w' base v R S ∧ w.grownBy w' v.ownBlock
theorem put_b (w : World) (i : Int) (h : SetB w base v R S) (hR : R ≤ 1000000) (hi : i < R) : Calls Tryd.prog 56 #[v, .int .i64 i] w (SetTB w base v R (fun r => S r || decide (i = (r : Int)))) := by
  obtain ⟨l, h1, h2, h3⟩ := h
  refine (put_any w base v l i h1 (by omega)).mono ?_
  rintro e w' ⟨rfl, hs, hg⟩
  refine ⟨rfl, ⟨_, hs, by rw [putL_length, h2], fun r hr => ?_⟩, hg⟩
  rw [bit_put, h3 r hr]
  have : decide (i = (r : Int) ∧ r / 64 < l.length) = decide (i = (r : Int)) := by rw [decide_eq_decide]; exact ⟨fun h => h.1, fun h => ⟨h, by omega⟩⟩
  rw [this]
theorem out_b (w : World) (i : Int) (h : SetB w base v R S) (hR : R ≤ 1000000) (hi : i < R) : Calls Tryd.prog 59 #[v, .int .i64 i] w (SetTB w base v R (fun r => S r && !decide (i = (r : Int)))) := by
  obtain ⟨l, h1, h2, h3⟩ := h
  refine (out_any w base v l i h1 (by omega)).mono ?_
  rintro e w' ⟨rfl, hs, hg⟩
  exact ⟨rfl, ⟨_, hs, by rw [outL_length, h2], fun r hr => by rw [bit_out, h3 r hr]⟩, hg⟩
theorem join_b (w : World) {base2 : Nat} (h : SetB w base v R S) (h2 : SetB w base2 v2 R T) (hd : v2.ownBlock = none ∨ v2.ownBlock ≠ v.ownBlock) :
    Calls Tryd.prog 62 #[v, v2] w fun e w' => ∃ b : Bool, e = .returned (.bool b) ∧ SetB w' base v R (fun r => S r || T r) ∧ w.grownBy w' v.ownBlock := by
  obtain ⟨l, a1, a2, a3⟩ := h
  obtain ⟨o, b1, b2, b3⟩ := h2
  refine (join_any w base base2 v v2 l o a1 b1 hd).mono ?_
  rintro e w' ⟨rfl, hs, hg⟩
  exact ⟨_, rfl, ⟨_, hs, by rw [joinK_length, a2], fun r hr => by rw [joinK_bits rfl r (a2.trans b2.symm), a3 r hr, b3 r hr]⟩, hg⟩
theorem copy_b (w : World) (h : SetB w base v R S) (hR : R ≤ 1000000) : Calls Tryd.prog 35 #[v] w fun e w' => ∃ v2, e = .returned v2 ∧ SetB w' w.heap.size v2 R S ∧ Below w.heap.size w w' := by
  obtain ⟨l, h1, h2, h3⟩ := h
  refine (copy_any w base v l h1 (by omega)).mono ?_
  rintro e w' ⟨v2, rfl, hs, hb⟩
  exact ⟨v2, rfl, ⟨l, hs, h2, h3⟩, hb⟩
theorem empty_b (w : World) (R : Nat) (hR : R ≤ 1000000) : Calls Tryd.prog 51 #[.int .i64 (R : Nat)] w fun e w' => ∃ v2, e = .returned v2 ∧ SetB w' w.heap.size v2 R (fun _ => false) ∧ Below w.heap.size w w' := by
  refine (empty_any w R hR).mono ?_
  rintro e w' ⟨v2, rfl, hs, hb⟩
  exact ⟨v2, rfl, SetB.zero (n := R) hs, hb⟩
end
/-! ### what may change -/
/-- a block of the types that are written -/
def Hot (w : World) (k : Nat) : Prop := ∃ cs T fr, w.heap[k]? = some (.cells cs T fr) ∧ (T = 3 ∨ T = 127 ∨ T = 119 ∨ T = 132)
theorem own_hot {w : World} {base size n : Nat} {T : TypeId} {v : Value} {xs : List Value} (h : w.ownsRow base T size v n xs) {k : Nat} (hk : v.ownBlock = some k) (hT : T = 3 ∨ T = 127 ∨ T = 119 ∨ T = 132) : Hot w k := by
  rcases h.2 with ⟨rfl, e⟩ | ⟨g, cap, cur, rfl, h3, h4, _⟩
  · cases hk
  · cases hk
    exact ⟨_, _, _, h4, hT⟩
theorem SetB.hot {w : World} {base R : Nat} {v : Value} {S : Nat → Bool} (h : SetB w base v R S) {k : Nat} (hk : v.ownBlock = some k) : Hot w k := let ⟨l, h1, _⟩ := h; own_hot h1.1 hk (Or.inr (Or.inl rfl))
/-- nothing below B, nothing from L0 to L1; nothing of other types -/
structure Mid (B L0 L1 : Nat) (w w' : World) : Prop where
  os : w'.os = w.os
  tape : w'.tape = w.tape
  output : w'.output = w.output
  size : w.heap.size ≤ w'.heap.size
  block : ∀ k, k < w.heap.size → (k < B ∨ (L0 ≤ k ∧ k < L1) ∨ ¬ Hot w k) → w'.heap[k]? = w.heap[k]?
section
variable {B L0 L1 : Nat} {w w' w2 : World}
theorem Mid.refl (B L0 L1 : Nat) (w : World) : Mid B L0 L1 w w := ⟨rfl, rfl, rfl, Nat.le_refl _, fun _ _ _ => rfl⟩
theorem Mid.trans (h : Mid B L0 L1 w w') (k : Mid B L0 L1 w' w2) : Mid B L0 L1 w w2 := ⟨k.os.trans h.os, k.tape.trans h.tape, k.output.trans h.output, Nat.le_trans h.size k.size, fun i hi hj => by
  have e := h.block i hi hj
  refine (k.block i (Nat.lt_of_lt_of_le hi h.size) ?_).trans e
  rcases hj with h1 | h1 | h1
  · exact Or.inl h1
  · exact Or.inr (Or.inl h1)
  · refine Or.inr (Or.inr (fun ⟨cs, T, fr, h2, h3⟩ => h1 ⟨cs, T, fr, by rw [← e]; exact h2, h3⟩))⟩
theorem Mid.of_grown {r : Option Nat} (hg : w.grownBy w' r) (hr : ∀ k, r = some k → (B ≤ k ∧ (k < L0 ∨ L1 ≤ k)) ∧ Hot w k) : Mid B L0 L1 w w' := ⟨hg.os, hg.tape, hg.output, hg.size, fun k hk hj => hg.block k hk (fun e => by
  have := hr k e.symm
  rcases hj with h1 | h1 | h1
  · omega
  · omega
  · exact h1 this.2)⟩
theorem Mid.of_below (hb : Below w.heap.size w w') : Mid B L0 L1 w w' := Mid.of_grown (r := none) (grown_of_below hb) (fun k h => by cases h)
theorem Mid.below (h : Mid B L0 L1 w w') (hB : B ≤ w.heap.size) : Below B w w' := ⟨h.os, h.tape, h.output, h.size, fun k hk => h.block k (by omega) (Or.inl hk)⟩
theorem Mid.mono {M1 : Nat} (h : Mid B L0 L1 w w') (hM : M1 ≤ L1) : Mid B L0 M1 w w' := ⟨h.os, h.tape, h.output, h.size, fun k hk hj => h.block k hk (by
  rcases hj with h1 | h1 | h1
  · exact Or.inl h1
  · exact Or.inr (Or.inl ⟨h1.1, by omega⟩)
  · exact Or.inr (Or.inr h1))⟩
theorem Mid.blk_ (h : Mid B L0 L1 w w') {k : Nat} {cs : Array Value} {T : TypeId} {fr : Nat × Nat} (hk : w.heap[k]? = some (.cells cs T fr)) (hT : ¬ (T = 3 ∨ T = 127 ∨ T = 119 ∨ T = 132)) : w'.heap[k]? = some (.cells cs T fr) :=
  (h.block k (blk_lt hk) (Or.inr (Or.inr (fun ⟨cs', T', fr', h1, h2⟩ => by rw [hk] at h1; cases h1; exact hT h2)))).trans hk
/-- a row between is as it was -/
theorem Mid.row (h : Mid B L0 L1 w w') {base size n : Nat} {T : TypeId} {v : Value} {xs : List Value} (ho : w.ownsRow base T size v n xs) (hb : L0 ≤ base) (hl : ∀ g, v.ownBlock = some g → g < L1) : w'.ownsRow base T size v n xs := by
  refine ⟨ho.1, ?_⟩
  rcases ho.2 with h1 | ⟨g, cap, cur, rfl, h2, h3, h4⟩
  · exact Or.inl h1
  · exact Or.inr ⟨g, cap, cur, rfl, h2, (h.block g (blk_lt h3) (Or.inr (Or.inl ⟨Nat.le_trans hb h2, hl g rfl⟩))).trans h3, h4⟩
theorem Mid.set_ (h : Mid B L0 L1 w w') {base R : Nat} {v : Value} {S : Nat → Bool} (ho : SetB w base v R S) (hb : L0 ≤ base) (hl : ∀ g, v.ownBlock = some g → g < L1) : SetB w' base v R S := let ⟨l, h1, h2, h3⟩ := ho; ⟨l, ⟨h.row h1.1 hb hl, h1.2⟩, h2, h3⟩
/-- a slice of arguments that nothing here writes -/
def KeepV (w : World) (B : Nat) (v : Value) (l : List ArgD) : Prop := SlR w 2 ArgR v l ∧ (l = [] ∨ ∀ b, v.ownBlock = some b → b < B ∨ ∃ cs fr, w.heap[b]? = some (.cells cs 52 fr))
theorem KeepV.mid {v : Value} {l : List ArgD} (h : KeepV w B v l) (hm : Mid B L0 L1 w w') : KeepV w' B v l := by
  obtain ⟨⟨A, cap, rfl, h2, h3, h4⟩, h5⟩ := h
  have h5' : l = [] ∨ ∀ b, (Value.slice A l.length cap).ownBlock = some b → b < B ∨ ∃ cs fr, w'.heap[b]? = some (.cells cs 52 fr) := by
    rcases h5 with h5 | h5
    · exact Or.inl h5
    · refine Or.inr (fun b hb => ?_)
      rcases h5 b hb with h6 | ⟨cs, fr, h6⟩
      · exact Or.inl h6
      · exact Or.inr ⟨cs, fr, hm.blk_ h6 (by decide)⟩
  refine ⟨⟨A, cap, rfl, h2, h3, fun i x hi => ?_⟩, h5'⟩
  obtain ⟨b, o, cs, rfl, g2, g3, g4⟩ := h4 i x hi
  refine ⟨b, o, cs, rfl, g2, fun j hj => ?_, g4⟩
  rw [← g3 j hj]
  have hb : b < w.heap.size := by
    have e := g3 j hj
    rw [List.getElem?_eq_getElem (by omega)] at e
    exact World.block_lt_of_cell? _ _ e
  refine World.cell?_of_block (w := w) (a := ⟨b, o + i * 2 + j, none⟩) ?_
  rcases h5 with h5 | h5
  · subst h5; simp at hi
  · rcases h5 b rfl with h6 | ⟨cs, fr, h6⟩
    · exact hm.block b hb (Or.inl h6)
    · exact (hm.blk_ h6 (by decide)).trans h6.symm
end
/-! ### the graph -/
def cpv (cp : List (Int × Int)) : List Value := cp.flatMap fun c => [.int .i64 c.1, .int .i64 c.2]
theorem cpv_len (cp : List (Int × Int)) : (cpv cp).length = cp.length * 2 := by
  unfold cpv
  induction cp with
  | nil => rfl
  | cons c cp ih => rw [List.flatMap_cons, List.length_append, ih, List.length_cons]; simp; omega
theorem cpv_snoc (cp : List (Int × Int)) (a b : Int) : cpv (cp ++ [(a, b)]) = cpv cp ++ [.int .i64 a, .int .i64 b] := by simp [cpv]
structure GrR (w : World) (B L0 L1 gb R : Nat) (av cv mv uv : Value) (vs : List Value) (E : Nat → Nat → Bool) (M : Nat → Bool) (us : List Int) (cp : List (Int × Int)) : Prop where
  blk : w.heap[gb]? = some (.cells #[av, cv, mv, uv] 119 (0, 0))
  gB : B ≤ gb
  gH : gb < L0
  ra : w.ownsRow B 103 1 av R vs
  ha : ∀ g, av.ownBlock = some g → g < L0
  sa : ∀ i, i < R → ∃ v, vs[i]? = some v ∧ SetB w B v R (E i)
  hs : ∀ (i : Nat) v g, vs[i]? = some v → v.ownBlock = some g → g < L0
  ap : ∀ (i j : Nat) u v, i ≠ j → vs[i]? = some u → vs[j]? = some v → u.ownBlock = none ∨ u.ownBlock ≠ v.ownBlock
  sm : SetB w B mv R M
  hm : ∀ g, mv.ownBlock = some g → g < L0
  am : ∀ (i : Nat) v, vs[i]? = some v → mv.ownBlock = none ∨ mv.ownBlock ≠ v.ownBlock
  ui : OwnI w B uv us
  hu : ∀ g, uv.ownBlock = some g → g < L0
  ul : us.length = R
  ci : w.ownsRow L1 132 2 cv cp.length (cpv cp)
  le : L0 ≤ L1
  top : L1 ≤ w.heap.size
section
variable {w w' : World} {B L0 L1 gb R : Nat} {av cv mv uv : Value} {vs : List Value} {E : Nat → Nat → Bool} {M : Nat → Bool} {us : List Int} {cp : List (Int × Int)}
theorem ne_of_lt {v : Value} {L : Nat} {r : Option Nat} (h : ∀ g, v.ownBlock = some g → g < L) (hr : ∀ k, r = some k → L ≤ k) : v.ownBlock = none ∨ v.ownBlock ≠ r := by
  cases e : v.ownBlock with
  | none => exact Or.inl rfl
  | some g => exact Or.inr (fun e2 => by have := h g e; have := hr g e2.symm; omega)
/-- what is written lies behind it -/
theorem GrR.kept (h : GrR w B L0 L1 gb R av cv mv uv vs E M us cp) {r : Option Nat} (hg : w.grownBy w' r) (hr : ∀ k, r = some k → L0 ≤ k) (hc : cv.ownBlock = none ∨ cv.ownBlock ≠ r) : GrR w' B L0 L1 gb R av cv mv uv vs E M us cp :=
  ⟨(hg.block gb (blk_lt h.blk) (fun e => by have := hr gb e.symm; have := h.gH; omega)).trans h.blk, h.gB, h.gH, h.ra.kept hg (ne_of_lt h.ha hr), h.ha, fun i hi => let ⟨v, h1, h2⟩ := h.sa i hi; ⟨v, h1, h2.kept hg (ne_of_lt (fun g => h.hs i v g h1) hr)⟩, h.hs, h.ap,
    h.sm.kept hg (ne_of_lt h.hm hr), h.hm, h.am, World.ownsRow.kept h.ui hg (ne_of_lt h.hu hr), h.hu, h.ul, h.ci.kept hg hc, h.le, Nat.le_trans h.top hg.size⟩
theorem GrR.more (h : GrR w B L0 L1 gb R av cv mv uv vs E M us cp) (hb : Below w.heap.size w w') : GrR w' B L0 L1 gb R av cv mv uv vs E M us cp :=
  h.kept (r := none) (grown_of_below hb) (fun k e => by cases e) (by cases cv.ownBlock <;> simp)
def updE (E : Nat → Nat → Bool) (i : Nat) (S : Nat → Bool) (x : Nat) : Nat → Bool := if x = i then S else E x
theorem low_ne {v : Value} {r : Option Nat} (h : ∀ g, v.ownBlock = some g → L1 ≤ g) (hr : ∀ k, r = some k → k < L1) : v.ownBlock = none ∨ v.ownBlock ≠ r := by
  cases e : v.ownBlock with
  | none => exact Or.inl rfl
  | some g => exact Or.inr (fun e2 => by have := h g e; have := hr g e2.symm; omega)
theorem GrR.cLo (h : GrR w B L0 L1 gb R av cv mv uv vs E M us cp) : ∀ g, cv.ownBlock = some g → L1 ≤ g := fun g hg => (h.ci.lt g hg).1
/-- one of the sets is written -/
theorem GrR.setE (h : GrR w B L0 L1 gb R av cv mv uv vs E M us cp) {i : Nat} {v : Value} (hi : i < R) (hv : vs[i]? = some v) {S : Nat → Bool} (hs : SetB w' B v R S) (hg : w.grownBy w' v.ownBlock) : GrR w' B L0 L1 gb R av cv mv uv vs (updE E i S) M us cp := by
  obtain ⟨n0, xs0, h0⟩ : ∃ n xs, w.ownsRow B 127 1 v n xs := by
    obtain ⟨v0, e0, s0⟩ := h.sa i hi
    rw [hv] at e0
    cases e0
    exact s0.own_
  have hlo : ∀ k, v.ownBlock = some k → k < L1 := fun k hk => Nat.lt_of_lt_of_le (h.hs i v k hv hk) h.le
  refine ⟨?_, h.gB, h.gH, h.ra.kept hg (own_ne h.ra h0 (by decide)), h.ha, fun j hj => ?_, h.hs, h.ap, h.sm.kept hg (h.am i v hv), h.hm, h.am, World.ownsRow.kept h.ui hg (own_ne h.ui h0 (by decide)), h.hu, h.ul, h.ci.kept hg (low_ne h.cLo hlo), h.le, Nat.le_trans h.top hg.size⟩
  · exact blk_kept h.blk hg (own_blk h0 h.blk (by decide))
  · by_cases e : j = i
    · subst e
      exact ⟨v, hv, by unfold updE; rw [if_pos rfl]; exact hs⟩
    · obtain ⟨u, e1, e2⟩ := h.sa j hj
      refine ⟨u, e1, ?_⟩
      unfold updE
      rw [if_neg e]
      exact e2.kept hg (h.ap j i u v e e1 hv)
theorem GrR.setM (h : GrR w B L0 L1 gb R av cv mv uv vs E M us cp) {S : Nat → Bool} (hs : SetB w' B mv R S) (hg : w.grownBy w' mv.ownBlock) : GrR w' B L0 L1 gb R av cv mv uv vs E S us cp := by
  obtain ⟨n0, xs0, h0⟩ := h.sm.own_
  have hlo : ∀ k, mv.ownBlock = some k → k < L1 := fun k hk => Nat.lt_of_lt_of_le (h.hm k hk) h.le
  refine ⟨blk_kept h.blk hg (own_blk h0 h.blk (by decide)), h.gB, h.gH, h.ra.kept hg (own_ne h.ra h0 (by decide)), h.ha, fun j hj => ?_, h.hs, h.ap, hs, h.hm, h.am, World.ownsRow.kept h.ui hg (own_ne h.ui h0 (by decide)), h.hu, h.ul, h.ci.kept hg (low_ne h.cLo hlo), h.le, Nat.le_trans h.top hg.size⟩
  obtain ⟨u, e1, e2⟩ := h.sa j hj
  exact ⟨u, e1, e2.kept hg (apart_symm (h.am j u e1))⟩
theorem GrR.congr {E' : Nat → Nat → Bool} {M' : Nat → Bool} (h : GrR w B L0 L1 gb R av cv mv uv vs E M us cp) (hE : ∀ a b, a < R → b < R → E a b = E' a b) (hM : ∀ r, r < R → M r = M' r) : GrR w B L0 L1 gb R av cv mv uv vs E' M' us cp :=
  { h with sa := fun i hi => let ⟨v, e1, e2⟩ := h.sa i hi; ⟨v, e1, e2.congr (fun r hr => hE i r hi hr)⟩, sm := h.sm.congr hM }
/-- one of the numbers is written -/
theorem GrR.setU {g cap : Nat} (h : GrR w B L0 L1 gb R av cv mv (.slice (some ⟨g, 0, none⟩) R cap) vs E M us cp) (j : Nat) (x : Int) :
    GrR (w.setCell ⟨g, j, none⟩ (.int .i64 x)) B L0 L1 gb R av cv mv (.slice (some ⟨g, 0, none⟩) R cap) vs E M (us.set j x) cp ∧ w.grownBy (w.setCell ⟨g, j, none⟩ (.int .i64 x)) (some g) := by
  have hui := h.ui
  unfold OwnI at hui
  rw [h.ul] at hui
  obtain ⟨k1, hg⟩ := hui.stored j (.int .i64 x)
  have hgl := h.hu g rfl
  have hlo : ∀ k, (some g : Option Nat) = some k → k < L1 := fun k hk => by cases hk; exact Nat.lt_of_lt_of_le hgl h.le
  have h0 := hui
  have ne : ∀ {T size n : Nat} {v : Value} {xs : List Value} {b : Nat}, w.ownsRow b T size v n xs → T ≠ 3 → v.ownBlock = none ∨ v.ownBlock ≠ some g := fun ho hT => own_ne ho h0 hT
  refine ⟨⟨blk_kept h.blk hg (own_blk h0 h.blk (by decide)), h.gB, h.gH, h.ra.kept hg (ne h.ra (by decide)), h.ha, fun i hi => ?_, h.hs, h.ap, h.sm.kept hg ?_, h.hm, h.am, ?_, h.hu, by simp [h.ul], h.ci.kept hg (low_ne h.cLo hlo), h.le, Nat.le_trans h.top hg.size⟩, hg⟩
  · obtain ⟨v, e1, e2⟩ := h.sa i hi
    exact ⟨v, e1, e2.kept hg (e2.ne_ h0 (by decide))⟩
  · exact h.sm.ne_ h0 (by decide)
  · unfold OwnI
    rw [List.length_set, h.ul, show iv (us.set j x) = (iv us).set j (.int .i64 x) by simp [iv, List.map_set]]
    exact k1
theorem GrR.lenU (h : GrR w B L0 L1 gb R av cv mv uv vs E M us cp) (hR : 0 < R) : ∃ g cap, uv = .slice (some ⟨g, 0, none⟩) R cap := by
  have hui := h.ui
  unfold OwnI at hui
  rw [h.ul] at hui
  obtain ⟨g, cap, e, _⟩ := own_form hui hR
  exact ⟨g, cap, e⟩
theorem GrR.cellU {g cap j : Nat} {x : Int} (h : GrR w B L0 L1 gb R av cv mv (.slice (some ⟨g, 0, none⟩) R cap) vs E M us cp) (hx : us[j]? = some x) : w.cell? ⟨g, j, none⟩ = some (.int .i64 x) ∧ w.frozen? ⟨g, j, none⟩ = false ∧ g < w.heap.size := by
  have hj := (List.getElem?_eq_some_iff.1 hx).1
  have hc := OwnI.cell h.ui hj x hx
  have hui := h.ui
  unfold OwnI at hui
  rw [h.ul] at hui
  exact ⟨hc, hui.frozenAt j, (hui.lt g rfl).2⟩
theorem GrR.lenA (h : GrR w B L0 L1 gb R av cv mv uv vs E M us cp) : ∃ A cap, av = .slice A R cap := by
  obtain ⟨A, cap, e, _⟩ := own_slice h.ra
  exact ⟨A, cap, e⟩
theorem GrR.formA (h : GrR w B L0 L1 gb R av cv mv uv vs E M us cp) (hR : 0 < R) : ∃ g cap, av = .slice (some ⟨g, 0, none⟩) R cap := by
  obtain ⟨g, cap, e, _⟩ := own_form h.ra hR
  exact ⟨g, cap, e⟩
theorem GrR.cellA {g cap i : Nat} {v : Value} (h : GrR w B L0 L1 gb R (.slice (some ⟨g, 0, none⟩) R cap) cv mv uv vs E M us cp) (hi : i < R) (hv : vs[i]? = some v) : w.cell? ⟨g, i, none⟩ = some v := (row_cell h.ra hi hv).1
theorem GrR.at_ (h : GrR w B L0 L1 gb R av cv mv uv vs E M us cp) {i : Nat} (hi : i < R) : ∃ v, vs[i]? = some v ∧ SetB w B v R (E i) := h.sa i hi
end
end Go.Proofs.YtbogcompeefoaaaDoor
