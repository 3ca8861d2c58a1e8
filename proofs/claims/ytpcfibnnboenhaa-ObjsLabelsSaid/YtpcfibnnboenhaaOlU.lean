/- A table of structs that the call itself has made: one struct more. No condition. -/
import Derived.Test.YtpcfibnnboenhaaOlC
namespace Go.Proofs.Ytpcfibnnboenhaa
open Go.RowKit
set_option linter.unusedVariables false
set_option maxHeartbeats 2000000
/-- rows of cells that read as these -/
def El {α : Type} (C : Nat) (R : List Value → α → Prop) (l : List α) (css : List (List Value)) : Prop := css.length = l.length ∧ (∀ cs ∈ css, cs.length = C) ∧ ∀ (i : Nat) cs x, css[i]? = some cs → l[i]? = some x → R cs x
theorem El.nil {α : Type} (C : Nat) (R : List Value → α → Prop) : El C R [] [] := ⟨rfl, (fun cs h => by cases h), fun i cs x h => by simp at h⟩
theorem El.snoc {α : Type} {C : Nat} {R : List Value → α → Prop} {l : List α} {css : List (List Value)} (h : El C R l css) (cs : List Value) (x : α) (hc : cs.length = C) (hr : R cs x) : El C R (l ++ [x]) (css ++ [cs]) := by
  obtain ⟨h1, h2, h3⟩ := h
  refine ⟨by simp [h1], fun c hm => ?_, fun i c y hi hy => ?_⟩
  · rcases List.mem_append.1 hm with hm | hm
    · exact h2 c hm
    · rw [List.mem_singleton.1 hm]; exact hc
  · by_cases hlt : i < css.length
    · rw [List.getElem?_append_left hlt] at hi
      rw [List.getElem?_append_left (by omega)] at hy
      exact h3 i c y hi hy
    · have e : i = css.length := by have := (List.getElem?_eq_some_iff.1 hi).1; simp at this; omega
      subst e
      rw [List.getElem?_append_right (Nat.le_refl _), Nat.sub_self] at hi
      rw [h1, List.getElem?_append_right (Nat.le_refl _), Nat.sub_self] at hy
      simp only [List.getElem?_cons_zero, Option.some.injEq] at hi hy
      subst hi hy
      exact hr
theorem El.weaken {α : Type} {C : Nat} {R R' : List Value → α → Prop} {l : List α} {css : List (List Value)} (h : El C R l css) (hR : ∀ cs x, R cs x → R' cs x) : El C R' l css := ⟨h.1, h.2.1, fun i cs x h1 h2 => hR _ _ (h.2.2 i cs x h1 h2)⟩
theorem El.slR {α : Type} {C B : Nat} {T : TypeId} {R : List Value → α → Prop} {l : List α} {css : List (List Value)} {w : World} {v : Value} (h : El C R l css) (ho : w.ownsRow B T C v l.length css.flatten) : SlR w C R v l := row_slR ho h.1 h.2.1 h.2.2 (fun _ _ => rfl)
/-- what stood stands, but for rows of structs' records and tables -/
def KeptT (w w' : World) : Prop := w.heap.size ≤ w'.heap.size ∧ ∀ (b : Nat) (cs : Array Value) (T : TypeId) (fr : Nat × Nat), w.heap[b]? = some (Obj.cells cs T fr) → T ≠ 69 → T ≠ 30 → w'.heap[b]? = some (Obj.cells cs T fr)
theorem KeptT.trans {a b c : World} (h : KeptT a b) (k : KeptT b c) : KeptT a c := ⟨Nat.le_trans h.1 k.1, fun i cs T fr h0 h1 h2 => k.2 _ _ _ _ (h.2 _ _ _ _ h0 h1 h2) h1 h2⟩
theorem KeptT.below {w w' : World} (h : Below w.heap.size w w') : KeptT w w' := ⟨h.size, fun b cs T fr h0 _ _ => blk_below h0 h⟩
theorem KeptT.blk {w w' : World} {g : Nat} {cs : Array Value} {T : TypeId} {fr : Nat × Nat} {r : Option Nat} (hg : w.grownBy w' r) (hr : ∀ g, r = some g → ∃ cs T fr, w.heap[g]? = some (.cells cs T fr) ∧ (T = 69 ∨ T = 30)) : KeptT w w' :=
  ⟨hg.size, fun b cs T fr h0 h1 h2 => by
    refine (hg.block b (blk_lt h0) (fun e => ?_)).trans h0
    obtain ⟨cs', T', fr', k1, k2⟩ := hr b e.symm
    rw [h0] at k1
    simp only [Option.some.injEq, Obj.cells.injEq] at k1
    rw [← k1.2.1] at k2
    rcases k2 with k2 | k2
    · exact h1 k2
    · exact h2 k2⟩
theorem TyC.keptT {w w' : World} {lo : Nat → Prop} (k : KeptT w w') : ∀ {t : Ty} {cs : List Value}, TyC w lo t cs → TyC w' lo t cs
  | .int s sg c, cs, h => h
  | .ptr e, cs, ⟨b, ds, h, hl, h1, h2⟩ => ⟨b, ds, h, hl, k.2 _ _ _ _ h1 (by decide) (by decide), TyC.keptT k h2⟩
  | .arr e n, cs, ⟨b, ds, h, hl, h1, h2⟩ => ⟨b, ds, h, hl, k.2 _ _ _ _ h1 (by decide) (by decide), TyC.keptT k h2⟩
  | .str n, cs, h => h
  | .fn r a b, cs, ⟨q, g1, cap, ds, es, fs, h, hl, h1, h2, h3, h4, h5⟩ => ⟨q, g1, cap, ds, es, fs, h, hl, k.2 _ _ _ _ h1 (by decide) (by decide), k.2 _ _ _ _ h2 (by decide) (by decide), TyC.keptT k h3, TyC.keptT k h4, TyC.keptT k h5⟩
theorem FldR.keptT {w w' : World} (k : KeptT w w') {cs : List Value} {f : FldP} (h : FldR w cs f) : FldR w' cs f := by
  obtain ⟨ds, h1, h2, h3, h4⟩ := h
  exact ⟨ds, h1, h2, h3.keptT k, h4⟩
theorem own_keptT {w w' : World} (k : KeptT w w') {base size n : Nat} {T : TypeId} {v : Value} {xs : List Value} (h1 : T ≠ 69) (h2 : T ≠ 30) (h : w.ownsRow base T size v n xs) : w'.ownsRow base T size v n xs := by
  refine ⟨h.1, ?_⟩
  rcases h.2 with e | ⟨g, cap, cur, e, k1, k2, k3⟩
  · exact Or.inl e
  · exact Or.inr ⟨g, cap, cur, e, k1, k.2 _ _ _ _ k2 h1 h2, k3⟩
def KeptY (w w' : World) : Prop := w.heap.size ≤ w'.heap.size ∧ ∀ (b : Nat) (cs : Array Value) (fr : Nat × Nat), w.heap[b]? = some (Obj.cells cs 39 fr) → w'.heap[b]? = some (Obj.cells cs 39 fr)
theorem KeptY.trans {a b c : World} (h : KeptY a b) (k : KeptY b c) : KeptY a c := ⟨Nat.le_trans h.1 k.1, fun i cs fr h0 => k.2 _ _ _ (h.2 _ _ _ h0)⟩
theorem KeptY.below {w w' : World} (h : Below w.heap.size w w') : KeptY w w' := ⟨h.size, fun b cs fr h0 => blk_below h0 h⟩
theorem KeptY.grown {w w' : World} {r : Option Nat} (hg : w.grownBy w' r) (hr : ∀ g, r = some g → ∃ cs T fr, w.heap[g]? = some (Obj.cells cs T fr) ∧ T ≠ 39) : KeptY w w' :=
  ⟨hg.size, fun b cs fr h0 => by
    refine (hg.block b (blk_lt h0) (fun e => ?_)).trans h0
    obtain ⟨cs', T', fr', k1, k2⟩ := hr b e.symm
    rw [h0] at k1
    simp only [Option.some.injEq, Obj.cells.injEq] at k1
    exact k2 k1.2.1.symm⟩
theorem TyC.keptY {w w' : World} {lo : Nat → Prop} (k : KeptY w w') : ∀ {t : Ty} {cs : List Value}, TyC w lo t cs → TyC w' lo t cs
  | .int s sg c, cs, h => h
  | .ptr e, cs, ⟨b, ds, h, hl, h1, h2⟩ => ⟨b, ds, h, hl, k.2 _ _ _ h1, TyC.keptY k h2⟩
  | .arr e n, cs, ⟨b, ds, h, hl, h1, h2⟩ => ⟨b, ds, h, hl, k.2 _ _ _ h1, TyC.keptY k h2⟩
  | .str n, cs, h => h
  | .fn r a b, cs, ⟨q, g1, cap, ds, es, fs, h, hl, h1, h2, h3, h4, h5⟩ => ⟨q, g1, cap, ds, es, fs, h, hl, k.2 _ _ _ h1, k.2 _ _ _ h2, TyC.keptY k h3, TyC.keptY k h4, TyC.keptY k h5⟩
theorem FldR.keptY {w w' : World} (k : KeptY w w') {cs : List Value} {f : FldP} (h : FldR w cs f) : FldR w' cs f := by
  obtain ⟨ds, h1, h2, h3, h4⟩ := h
  exact ⟨ds, h1, h2, h3.keptY k, h4⟩
/-- the one who owns a row of fields writes no type -/
theorem own_typ {w w' : World} {base size n : Nat} {T : TypeId} {v : Value} {xs : List Value} (h : w.ownsRow base T size v n xs) (hT : T ≠ 39) (hg : w.grownBy w' v.ownBlock) : KeptY w w' := KeptY.grown hg (fun g hg => by
  rcases h.2 with ⟨rfl, e⟩ | ⟨g', cap, cur, rfl, k1, k2, _⟩
  · simp [Value.ownBlock] at hg
  · simp only [Value.ownBlock, Option.some.injEq] at hg
    subst hg
    exact ⟨_, _, _, k2, hT⟩)
theorem set_typ {w : World} {g j : Nat} {u : Value} {cs : Array Value} {T : TypeId} {fr : Nat × Nat} (h : w.heap[g]? = some (.cells cs T fr)) (hT : T ≠ 39) : KeptY w (w.setCell ⟨g, j, none⟩ u) := KeptY.grown (grown_set w g j u) (fun k hk => by
  simp only [Option.some.injEq] at hk
  subst hk
  exact ⟨_, _, _, h, hT⟩)
theorem FldR.cells {w : World} {cs : List Value} {f : FldP} (h : FldR w cs f) : cs.length = 11 := by
  obtain ⟨ds, rfl, h2, _⟩ := h
  simp [h2]
/-- a struct's record whose fields are a row that nobody writes -/
def TrecO (w : World) (cs : List Value) (r : RecP) : Prop := ∃ vf fss, cs = [.string r.name, vf, .int .i64 r.size, .int .i64 r.align] ∧ w.ownsRow 0 43 11 vf r.fields.length fss.flatten ∧ El 11 (FldR w) r.fields fss ∧ In64 r.size ∧ In64 r.align ∧ r.fields.length ≤ 1000000
theorem TrecO.keptT {w w' : World} (k : KeptT w w') {cs : List Value} {r : RecP} (h : TrecO w cs r) : TrecO w' cs r := by
  obtain ⟨vf, fss, h1, h2, h3, h4⟩ := h
  exact ⟨vf, fss, h1, own_keptT k (by decide) (by decide) h2, h3.weaken (fun _ _ h => h.keptT k), h4⟩
theorem TrecO.recR {w : World} {cs : List Value} {r : RecP} (h : TrecO w cs r) : TrecR w cs r := by
  obtain ⟨vf, fss, h1, h2, h3, h4⟩ := h
  exact ⟨vf, h1, h3.slR h2, h4⟩
structure TabO (w : World) (B p : Nat) (tab : List RecP) (v : Value) (css : List (List Value)) : Prop where
  blk : w.heap[p]? = some (.cells #[v] 30 (0, 0))
  own : w.ownsRow B 69 4 v tab.length css.flatten
  el : El 4 (TrecO w) tab css
  len : tab.length ≤ 20
theorem TabO.tabC {w : World} {B p : Nat} {tab : List RecP} {v : Value} {css : List (List Value)} (h : TabO w B p tab v css) : TabC w p tab :=
  ⟨v, h.blk, (h.el.slR h.own).weaken (fun _ _ h => h.recR), by have := h.len; omega⟩
theorem TabO.later {w w' : World} {B p : Nat} {tab : List RecP} {v : Value} {css : List (List Value)} (h : TabO w B p tab v css) (hb : Below w.heap.size w w') : TabO w' B p tab v css :=
  ⟨blk_below h.blk hb, own_below h.own hb, h.el.weaken (fun _ _ h => h.keptT (KeptT.below hb)), h.len⟩
theorem TrecO.one {w : World} {cs : List Value} {r : RecP} (h : TrecO w cs r) : ∀ u ∈ cs, u.oneCell' = true := by
  obtain ⟨vf, fss, rfl, h2, _⟩ := h
  obtain ⟨A, cap, rfl, _⟩ := own_slice h2
  intro u hu
  simp only [List.mem_cons, List.not_mem_nil, or_false] at hu
  rcases hu with e | e | e | e <;> subst e <;> rfl
/-- one struct more -/
theorem TabO.push {w : World} {B p : Nat} {tab : List RecP} {v : Value} {css : List (List Value)} (h : TabO w B p tab v css) (hB : B ≤ w.heap.size) (hp : B ≤ p) (hlt : tab.length < 20) (r : RecP) (cs : List Value) (hr : TrecO w cs r) (hl : cs.length = 4) :
    ∃ v' w', (Builtin.append_ #[28, 28] 28 #[v, .slice (some ⟨w.heap.size, 0, none⟩) 1 1]).run Try.prog (w.alloc (.cells cs.toArray 69)) = .ok v' w' ∧ (∃ A m c, v' = .slice A m c) ∧
      w'.cell? ⟨p, 0, none⟩ = some v ∧ w'.frozen? ⟨p, 0, none⟩ = false ∧ p < w'.heap.size ∧ TabO (w'.setCell ⟨p, 0, none⟩ v') B p (tab ++ [r]) v' (css ++ [cs]) ∧ Below B w (w'.setCell ⟨p, 0, none⟩ v') ∧ KeptT w (w'.setCell ⟨p, 0, none⟩ v') ∧ w.grownBy w' v.ownBlock := by
  obtain ⟨i0, z0, q1, q2, q3, q4, q5⟩ := info_partsC (C := 4) (B := 56) (show (Try.prog.info? 69).map (fun i => (i.zero.map (·.cells.size), i.size, i.bytes)) = some (some 4, 4, 56) by kernel_rfl)
  obtain ⟨v', w', r1, r2, r3, r4⟩ := append_oneC (P := Try.prog) B 28 69 i0 z0 4 56 Try.underlying28 q1 q2 q4 q5 q3 (by decide) v tab.length css.flatten h.own cs.toArray (by simpa using hl) w.heap.size rfl (fun u hu => hr.one u (by simpa using hu)) (by unfold maxLen; omega) (by omega) hB
  have hpb : w'.heap[p]? = some (.cells #[v] 30 (0, 0)) := by
    refine (r3.block p (blk_lt h.blk) ?_).trans h.blk
    rcases own_blk h.own h.blk (by decide) with e | e
    · rw [e]; simp
    · exact fun e2 => e e2.symm
  have hk1 : KeptT w w' := KeptT.blk (g := 0) (cs := #[]) (T := 0) (fr := (0, 0)) r3 (fun g hg => by
    rcases h.own.2 with ⟨rfl, e⟩ | ⟨g', cap, cur, rfl, k1, k2, _⟩
    · simp [Value.ownBlock] at hg
    · simp only [Value.ownBlock, Option.some.injEq] at hg
      subst hg
      exact ⟨_, _, _, k2, Or.inl rfl⟩)
  have hk2 : KeptT w' (w'.setCell ⟨p, 0, none⟩ v') := KeptT.blk (g := 0) (cs := #[]) (T := 0) (fr := (0, 0)) (grown_set w' p 0 v') (fun g hg => by
    simp only [Option.some.injEq] at hg
    subst hg
    exact ⟨_, _, _, hpb, Or.inr rfl⟩)
  have hk := hk1.trans hk2
  obtain ⟨A9, c9, e9, _⟩ := own_slice r2
  have hb1 : Below B w w' := below_of_grown (Below.refl _ _) hB r3 (fun k hk => by
    rcases h.own.2 with ⟨rfl, e⟩ | ⟨g', cap, cur, rfl, k1, k2, _⟩
    · simp [Value.ownBlock] at hk
    · simp only [Value.ownBlock, Option.some.injEq] at hk
      omega)
  have hsz := hk1.1
  have hb2 : Below B w (w'.setCell ⟨p, 0, none⟩ v') := hb1.trans (below_of_grown (Below.refl _ _) (by omega) (grown_set w' p 0 v') (fun k hk => by cases hk; exact hp))
  refine ⟨v', w', r1, ⟨A9, _, c9, e9⟩, blk_cell hpb rfl, blk_free hpb, blk_lt hpb, ⟨?_, ?_, ?_, by simp; omega⟩, hb2, hk, r3⟩
  · rw [blk_setCell hpb]; rfl
  · rw [List.length_append, List.length_singleton, List.flatten_append]
    have hfl : [cs].flatten = cs := by simp
    rw [hfl]
    have hne : v'.ownBlock ≠ some p := by
      rcases own_blk r2 hpb (by decide) with e | e
      · rw [e]; simp
      · exact e
    refine World.ownsRow.kept (row := some p) (by simpa using r2) (grown_set w' p 0 v') ?_
    exact Or.inr hne
  · exact (h.el.weaken (fun _ _ h => h.keptT hk)).snoc cs r hl (hr.keptT hk)
end Go.Proofs.Ytpcfibnnboenhaa
