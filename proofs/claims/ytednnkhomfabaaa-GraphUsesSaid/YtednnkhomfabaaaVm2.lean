/- A machine to run closed calls: its memory beside the heap; new blocks, reads, writes. No condition. -/
import Derived.Test.YtednnkhomfabaaaVm1
namespace Go.Proofs.Ytednnkhomfabaaa
open Go.RowKit
set_option linter.unusedVariables false
inductive VObj where
  | cells (t : Tr Value) (n : Nat) (T : TypeId)
  | map (es : List (Value × Value × Nat)) (clock : Nat)
  | iter (s : ByteArray) (pos : Nat)
  | rom (t : Tr Value) (n : Nat)
/-- what may be read -/
def rdOf : VObj → Option (Tr Value × Nat)
  | .cells t n _ => some (t, n)
  | .rom t n => some (t, n)
  | _ => none
structure VW where
  heap : Tr VObj
  next : Nat
def VW.empty : VW := ⟨.nil, 0⟩
section
variable (P : Program) (D : Den)
def ObjRel (β : Place) (w : World) (b d x : Nat) : VObj → Prop
  | .cells t n T => ∃ cs : Array Value, w.heap[b]? = some (.cells cs T (0, 0)) ∧ d + n + x * P.cellsOf T ≤ cs.size ∧ ∀ k v, k < n → t.at k = some v → ∃ v', cs[d + k]? = some v' ∧ VR D β v v'
  | .map es clock => d = 0 ∧ ∃ es' : Array MapEntry, w.heap[b]? = some (.map es' clock) ∧ es'.size = es.length ∧ ∀ (i : Nat) k v c, es[i]? = some (k, v, c) → ∃ e, es'[i]? = some e ∧ e.key = k ∧ e.born = c ∧ VR D β v e.val
  | .iter s pos => d = 0 ∧ w.heap[b]? = some (.stringIter s pos)
  | .rom t n => ∀ k v, k < n → t.at k = some v → ∃ v', w.cell? ⟨b, d + k, none⟩ = some v' ∧ VR D β v v'
structure Rel (β : Place) (W : VW) (w : World) : Prop where
  unborn : ∀ i, W.next ≤ i → β i = .unborn
  live : ∀ i o, W.heap.at i = some o → ∃ b d x, β i = .live b d x ∧ ObjRel P D β w b d x o
  inj : ∀ i j b d x d' x', β i = .live b d x → β j = .live b d' x' → i = j
  lt : ∀ i b d x, β i = .live b d x → b < w.heap.size
end
def Touch (lim : Nat) (β : Place) (k : Nat) : Prop := ∃ i d x, lim ≤ i ∧ β i = .live k d x
structure Ext (lim : Nat) (β β' : Place) (w w' : World) : Prop where
  le : LeS β β'
  low : ∀ i, i < lim → β' i = β i
  only : Only (Touch lim β) w w'
  new : ∀ k, k < w.heap.size → Touch lim β' k → Touch lim β k
theorem Ext.refl (lim : Nat) (β : Place) (w : World) : Ext lim β β w w := ⟨LeS.refl β, fun _ _ => rfl, Only.refl _ _, fun _ _ h => h⟩
theorem Ext.trans {lim : Nat} {a b c : Place} {u v w : World} (h : Ext lim a b u v) (k : Ext lim b c v w) : Ext lim a c u w :=
  ⟨h.le.trans k.le, fun i hi => (k.low i hi).trans (h.low i hi), h.only.trans k.only h.new, fun j hj ht => h.new j hj (k.new j (Nat.lt_of_lt_of_le hj h.only.size) ht)⟩
section
variable {P : Program} {D : Den}
theorem ObjRel.mono {β β' : Place} {w w' : World} {b d x : Nat} {o : VObj} (h : ObjRel P D β w b d x o) (hl : LeS β β') (hw : w'.heap[b]? = w.heap[b]?) : ObjRel P D β' w' b d x o := by
  cases o with
  | cells t n T =>
    obtain ⟨cs, h1, h2, h3⟩ := h
    exact ⟨cs, hw.trans h1, h2, fun k v hk hv => let ⟨v', e, r⟩ := h3 k v hk hv; ⟨v', e, r.mono hl⟩⟩
  | map es clock =>
    obtain ⟨h0, es', h1, h2, h3⟩ := h
    exact ⟨h0, es', hw.trans h1, h2, fun i k v c hv => let ⟨e, e1, e2, e3, r⟩ := h3 i k v c hv; ⟨e, e1, e2, e3, r.mono hl⟩⟩
  | iter s pos => exact ⟨h.1, hw.trans h.2⟩
  | rom t n =>
    intro k v hk hv
    obtain ⟨v', e, r⟩ := h k v hk hv
    exact ⟨v', (World.cell?_of_block (w := w) (a := ⟨b, d + k, none⟩) hw).trans e, r.mono hl⟩
/-! #### A new block -/
def updP (β : Place) (i : Nat) (s : Slot) : Place := fun j => bif j.beq i then s else β j
theorem updP_same (β : Place) (i : Nat) (s : Slot) : updP β i s i = s := by
  unfold updP; rw [Nat.beq_refl]; rfl
theorem updP_ne {β : Place} {i j : Nat} {s : Slot} (h : ¬ j = i) : updP β i s j = β j := by
  unfold updP; rw [nbeq h]; rfl
theorem LeS.upd_unborn {β : Place} {i : Nat} (h : β i = .unborn) (s : Slot) : LeS β (updP β i s) := fun j => by
  by_cases e : j = i
  · subst e; exact Or.inl h
  · exact Or.inr (Or.inl (updP_ne e))
theorem LeS.upd_dead {β : Place} {i : Nat} : LeS β (updP β i .dead) := fun j => by
  by_cases e : j = i
  · subst e
    by_cases hu : β j = .unborn
    · exact Or.inl hu
    · exact Or.inr (Or.inr ⟨hu, updP_same _ _ _⟩)
  · exact Or.inr (Or.inl (updP_ne e))
def VW.push (W : VW) (o : VObj) : VW := ⟨W.heap.put W.next o, W.next + 1⟩
theorem Rel.alloc {β : Place} {W : VW} {w : World} (h : Rel P D β W w) {lim x0 : Nat} (hl : lim ≤ W.next) (o : VObj) (O : Obj)
    (ho : ObjRel P D (updP β W.next (.live w.heap.size 0 x0)) (w.alloc O) w.heap.size 0 x0 o) :
    Rel P D (updP β W.next (.live w.heap.size 0 x0)) (W.push o) (w.alloc O) ∧ Ext lim β (updP β W.next (.live w.heap.size 0 x0)) w (w.alloc O) := by
  have hu := h.unborn W.next (Nat.le_refl _)
  have hle := LeS.upd_unborn hu (.live w.heap.size 0 x0)
  refine ⟨⟨?_, ?_, ?_, ?_⟩, ⟨hle, ?_, ?_, ?_⟩⟩
  · intro i hi
    have hi' : W.next + 1 ≤ i := hi
    rw [updP_ne (by omega)]; exact h.unborn i (by omega)
  · intro i o' hi
    rcases Tr.at_put hi with ⟨rfl, rfl⟩ | ⟨hne, hi'⟩
    · exact ⟨_, _, _, updP_same _ _ _, ho⟩
    · obtain ⟨b, d, x, e1, e2⟩ := h.live i o' hi'
      exact ⟨b, d, x, by rw [updP_ne hne]; exact e1, e2.mono hle (Below.heap_alloc _ _ _ (h.lt i b d x e1))⟩
  · intro i j b d x d' x' hi hj
    by_cases e1 : i = W.next
    · by_cases e2 : j = W.next
      · rw [e1, e2]
      · subst e1
        rw [updP_same] at hi
        rw [updP_ne e2] at hj
        injection hi with hb
        have := h.lt j b d' x' hj
        omega
    · rw [updP_ne e1] at hi
      by_cases e2 : j = W.next
      · subst e2
        rw [updP_same] at hj
        injection hj with hb
        have := h.lt i b d x hi
        omega
      · rw [updP_ne e2] at hj
        exact h.inj i j b d x d' x' hi hj
  · intro i b d x hi
    have hs : (w.alloc O).heap.size = w.heap.size + 1 := by simp
    rw [hs]
    by_cases e : i = W.next
    · subst e
      rw [updP_same] at hi
      injection hi with hb
      omega
    · rw [updP_ne e] at hi
      have := h.lt i b d x hi
      omega
  · intro i hi
    exact updP_ne (by omega)
  · exact (Only.refl _ _).alloc O
  · rintro k hk ⟨i, d, x, hi, e⟩
    by_cases e1 : i = W.next
    · subst e1
      rw [updP_same] at e
      injection e with hb
      omega
    · rw [updP_ne e1] at e
      exact ⟨i, d, x, hi, e⟩
/-! #### Reading -/
def rdN (t : Tr Value) (n : Nat) : Nat → Nat → Option (List Value)
  | _, 0 => some []
  | o, m + 1 => bif o.blt n then (match t.at o with
    | some v => (match rdN t n (o + 1) m with | some l => some (v :: l) | none => none)
    | none => none) else none
theorem rdN_spec {t : Tr Value} {n : Nat} : ∀ (m o : Nat) (l : List Value), rdN t n o m = some l → l.length = m ∧ ∀ (j : Nat) v, l[j]? = some v → o + j < n ∧ t.at (o + j) = some v
  | 0, o, l, h => by
    simp only [rdN, Option.some.injEq] at h
    subst h
    exact ⟨rfl, fun j v hv => by simp at hv⟩
  | m + 1, o, l, h => by
    unfold rdN at h
    cases hb : o.blt n with
    | false => rw [hb] at h; cases h
    | true =>
      rw [hb] at h
      simp only [cond_true] at h
      cases ha : t.at o with
      | none => rw [ha] at h; cases h
      | some v =>
        rw [ha] at h
        simp only [] at h
        cases hr : rdN t n (o + 1) m with
        | none => rw [hr] at h; cases h
        | some l' =>
          rw [hr] at h
          simp only [Option.some.injEq] at h
          subst h
          obtain ⟨h1, h2⟩ := rdN_spec m (o + 1) l' hr
          refine ⟨by simp [h1], fun j u hu => ?_⟩
          cases j with
          | zero =>
            simp only [List.getElem?_cons_zero, Option.some.injEq] at hu
            subst hu
            exact ⟨by simpa [Nat.blt_eq] using hb, ha⟩
          | succ j =>
            simp only [List.getElem?_cons_succ] at hu
            have := h2 j u hu
            rw [show o + (j + 1) = o + 1 + j by omega]
            exact this
/-- a cell that may be read, as it stands -/
theorem cell_rel {β : Place} {w : World} {b d x n : Nat} {t : Tr Value} {ob : VObj} (h : ObjRel P D β w b d x ob) (hr : rdOf ob = some (t, n)) {k : Nat} {v : Value} (hk : k < n) (hv : t.at k = some v) : ∃ v', w.cell? ⟨b, k + d, none⟩ = some v' ∧ VR D β v v' := by
  cases ob with
  | cells t' n' T =>
    simp only [rdOf, Option.some.injEq, Prod.mk.injEq] at hr
    obtain ⟨rfl, rfl⟩ := hr
    obtain ⟨cs, h1, h2, h3⟩ := h
    obtain ⟨v', e1, e2⟩ := h3 k v hk hv
    exact ⟨v', blk_cell h1 (by rw [← e1, Nat.add_comm]), e2⟩
  | rom t' n' =>
    simp only [rdOf, Option.some.injEq, Prod.mk.injEq] at hr
    obtain ⟨rfl, rfl⟩ := hr
    obtain ⟨v', e1, e2⟩ := h k v hk hv
    exact ⟨v', by rw [Nat.add_comm]; exact e1, e2⟩
  | map | iter => cases hr
/-- cells that are read, as they stand -/
theorem cells_rel {β : Place} {w : World} {b d x n : Nat} {t : Tr Value} {ob : VObj} (h : ObjRel P D β w b d x ob) (hob : rdOf ob = some (t, n)) {m o : Nat} {l : List Value} (hl : rdN t n o m = some l) :
    ∃ l', LR D β l l' ∧ l'.length = m ∧ ∀ (j : Nat) v', l'[j]? = some v' → w.cell? ⟨b, o + d + j, none⟩ = some v' := by
  obtain ⟨g1, g2⟩ := rdN_spec m o l hl
  have key : ∀ j, j < m → ∃ v v', l[j]? = some v ∧ w.cell? ⟨b, o + d + j, none⟩ = some v' ∧ VR D β v v' := by
    intro j hj
    have hj2 : j < l.length := by omega
    obtain ⟨e1, e2⟩ := g2 j _ (List.getElem?_eq_getElem hj2)
    obtain ⟨v', e3, e4⟩ := cell_rel h hob e1 e2
    exact ⟨l[j], v', List.getElem?_eq_getElem hj2, by rw [← e3]; congr 2; omega, e4⟩
  refine ⟨(List.range m).map (fun j => (w.cell? ⟨b, o + d + j, none⟩).getD undef), ⟨by simp [g1], fun i x y hx hy => ?_⟩, by simp, fun j v' hv => ?_⟩
  · have hi : i < m := by
      have : i < l.length := (List.getElem?_eq_some_iff.1 hx).1
      omega
    obtain ⟨v, v', q1, q2, q3⟩ := key i hi
    rw [q1] at hx
    cases hx
    simp [hi, q2] at hy
    subst hy
    exact q3
  · have hj : j < m := by
      have := (List.getElem?_eq_some_iff.1 hv).1
      simpa using this
    obtain ⟨v, u, q1, q2, q3⟩ := key j hj
    simp [hj, q2] at hv
    subst hv
    exact q2
/-- the kind of a value's cells: one, or so many -/
def aggSize (P : Program) (T : TypeId) : Option (Option Nat) :=
  match P.underlying T with
  | some (.struct _) | some (.array _ _) => some (some (P.cellsOf T))
  | some _ => some none
  | none => none
def vload (P : Program) (W : VW) (T : TypeId) : Value → Option Value
  | .pointer (some ⟨b, o, none⟩) =>
    match W.heap.at b with
    | some ob =>
      match rdOf ob with
      | some (t, n) =>
        (match aggSize P T with
        | some (some m) => (match rdN t n o m with | some l => some (.agg l.toArray) | none => none)
        | some none => bif o.blt n then t.at o else none
        | none => none)
      | none => none
    | none => none
  | _ => none
theorem sizeOf_run {T : TypeId} {i : TypeInfo} (h : P.info? T = some i) (w : World) : (sizeOf T).run P w = .ok (P.cellsOf T) w := by
  simp [sizeOf, typeInfo, program, Program.cellsOf, h, Sem.run, Result.andThen]
theorem info_of_underlying {T : TypeId} {d : TypeDesc} (h : P.underlying T = some d) : ∃ i, P.info? T = some i := by
  unfold Program.underlying at h
  cases hi : P.info? T with
  | none => rw [hi] at h; cases h
  | some i => exact ⟨i, rfl⟩
theorem agg_run {T : TypeId} {r : Option Nat} (h : aggSize P T = some r) (w : World) : (isAgg T).run P w = .ok r.isSome w ∧ ∀ m, r = some m → (sizeOf T).run P w = .ok m w := by
  unfold aggSize at h
  cases hu : P.underlying T with
  | none => rw [hu] at h; cases h
  | some d =>
    rw [hu] at h
    obtain ⟨i, hi⟩ := info_of_underlying hu
    have hr := run_underlying hu w
    have hs := sizeOf_run hi w
    cases d <;> simp only [Option.some.injEq] at h <;> subst h <;> refine ⟨by simp [isAgg, hr, Result.andThen], fun m hm => ?_⟩ <;> first | cases hm | skip
    all_goals exact hs
theorem addr_add (b o j : Nat) : (⟨b, o, none⟩ : Addr).add j = ⟨b, o + j, none⟩ := by
  unfold Addr.add
  split
  · rename_i h; subst h; rfl
  · rfl
theorem vload_ok {β : Place} {W : VW} {w : World} (h : Rel P D β W w) {T : TypeId} {a a' v : Value} (ha : VR D β a a') (hv : vload P W T a = some v) :
    ∃ v', (Instr.loadAt T a').run P w = .ok v' w ∧ VR D β v v' := by
  unfold vload at hv
  split at hv
  rotate_left
  · cases hv
  rename_i b o
  cases ha with
  | sym _ _ h1 => cases h1
  | ptr _ _ a1 hA =>
    split at hv
    rotate_left
    · cases hv
    rename_i ob hb
    obtain ⟨b1, d, x, e1, e2⟩ := h.live b _ hb
    unfold AR at hA
    rw [e1] at hA
    simp only [] at hA
    subst hA
    split at hv
    rotate_left
    · cases hv
    rename_i t n hob
    split at hv
    · rename_i m hm
      obtain ⟨g1, g2⟩ := agg_run hm w
      cases hr : rdN t n o m with
      | none => rw [hr] at hv; cases hv
      | some l =>
        rw [hr] at hv
        simp only [Option.some.injEq] at hv
        subst hv
        obtain ⟨l', k1, k2, k3⟩ := cells_rel e2 hob hr
        refine ⟨.agg l'.toArray, ?_, .agg l l' k1.1 k1.2⟩
        have hc := run_loadCells_list (P := P) (w := w) ⟨b1, o + d, none⟩ l' (fun j u hu => by rw [addr_add]; exact k3 j u hu)
        rw [k2] at hc
        simp [Instr.loadAt, Instr.sureAddr, loadVar, g1, g2 m rfl, hc, Result.andThen]
    · rename_i hm
      obtain ⟨g1, g2⟩ := agg_run hm w
      cases hlt : o.blt n with
      | false => rw [hlt] at hv; cases hv
      | true =>
        rw [hlt] at hv
        simp only [cond_true] at hv
        obtain ⟨v', e3, e4⟩ := cell_rel e2 hob (by simpa [Nat.blt_eq] using hlt) hv
        refine ⟨v', ?_, e4⟩
        simp [Instr.loadAt, Instr.sureAddr, loadVar, g1, Result.andThen, e3]
    · cases hv
/-! #### Writing -/
theorem VR.one {β : Place} {v v' : Value} (h : VR D β v v') (ho : v.oneCell' = true) : v'.oneCell' = true := by
  cases h with
  | sym _ _ h1 h2 h3 => cases v' <;> simp_all [scalar, Value.oneCell']
  | agg | tuple => cases ho
  | _ => rfl
/-- one block is another thing now -/
theorem Rel.reobj {β : Place} {W : VW} {w w' : World} (h : Rel P D β W w) {i b d x : Nat} {o : VObj} (hb : β i = .live b d x) (hs : w.heap.size ≤ w'.heap.size) (hk : ∀ k, k ≠ b → k < w.heap.size → w'.heap[k]? = w.heap[k]?)
    (ho : ObjRel P D β w' b d x o) : Rel P D β ⟨W.heap.put i o, W.next⟩ w' := by
  refine ⟨h.unborn, fun j o' hj => ?_, h.inj, fun j c d' x' hj => Nat.lt_of_lt_of_le (h.lt j c d' x' hj) hs⟩
  rcases Tr.at_put hj with ⟨rfl, rfl⟩ | ⟨hne, hj'⟩
  · exact ⟨b, d, x, hb, ho⟩
  · obtain ⟨b1, d1, x1, e1, e2⟩ := h.live j _ hj'
    refine ⟨b1, d1, x1, e1, e2.mono (LeS.refl _) (hk b1 ?_ (h.lt _ _ _ _ e1))⟩
    rintro rfl
    exact hne (h.inj j i b1 d1 x1 d x e1 hb)
theorem objrel_store {β : Place} {w : World} {b d x n k : Nat} {t : Tr Value} {T : TypeId} {v v' : Value} (h : ObjRel P D β w b d x (.cells t n T)) (hk : k < n) (hv : VR D β v v') :
    ObjRel P D β (w.setCell ⟨b, k + d, none⟩ v') b d x (.cells (t.put k v) n T) ∧ (w.cell? ⟨b, k + d, none⟩).isSome = true ∧ w.frozen? ⟨b, k + d, none⟩ = false := by
  obtain ⟨cs, h1, h2, h3⟩ := h
  have hlt : k + d < cs.size := by omega
  refine ⟨⟨cs.setIfInBounds (k + d) v', blk_setCell h1 v', by simpa using h2, fun k' u hk' hu => ?_⟩, ?_, blk_free h1⟩
  · rcases Tr.at_put hu with ⟨rfl, rfl⟩ | ⟨hn, hu'⟩
    · refine ⟨v', ?_, hv⟩
      rw [Nat.add_comm d k', Array.getElem?_setIfInBounds_self_of_lt (by omega)]
    · obtain ⟨u', g1, g2⟩ := h3 k' u hk' hu'
      exact ⟨u', by rw [Array.getElem?_setIfInBounds_ne (by omega)]; exact g1, g2⟩
  · rw [blk_cell h1 (Array.getElem?_eq_getElem hlt)]; rfl
def wrN (t : Tr Value) : Nat → List Value → Tr Value
  | _, [] => t
  | o, v :: l => wrN (t.put o v) (o + 1) l
theorem Only.setCell' {S : Nat → Prop} {a b : World} (h : Only S a b) {p : Addr} (hp : S p.block) (u : Value) : Only S a (b.setCell p u) := h.setCell (Or.inr hp) u
/-- a row of cells written -/
theorem storeCells_ok {β : Place} {b d x n : Nat} {T : TypeId} : ∀ (l l' : List Value) (t : Tr Value) (o s : Nat) (w : World), ObjRel P D β w b d x (.cells t n T) → o + l.length ≤ n → LR D β l l' → (l.all Value.oneCell') = true →
    ∃ w', (storeCells ⟨b, o + d - s, none⟩ l' s).run P w = .ok () w' ∧ ObjRel P D β w' b d x (.cells (wrN t o l) n T) ∧ (∀ S : Nat → Prop, S b → Only S w w') ∧ w'.heap.size = w.heap.size ∧ (∀ k, k ≠ b → w'.heap[k]? = w.heap[k]?) ∨ o + d < s
  | [], l', t, o, s, w, h, _, hl, _ => by
    obtain rfl : l' = [] := by
      have := hl.1; simp at this; exact List.length_eq_zero_iff.1 this.symm
    exact ⟨w, Or.inl ⟨rfl, h, fun S _ => Only.refl _ _, rfl, fun _ _ => rfl⟩⟩
  | v :: l, l', t, o, s, w, h, hn, hl, h1 => by
    obtain ⟨v', m', rfl⟩ : ∃ v' m', l' = v' :: m' := by
      cases l' with
      | nil => have := hl.1; simp at this
      | cons a b => exact ⟨a, b, rfl⟩
    simp only [List.all_cons, Bool.and_eq_true] at h1
    have hv : VR D β v v' := hl.2 0 v v' rfl rfl
    have hl2 : LR D β l m' := ⟨by simpa using hl.1, fun i x y hx hy => hl.2 (i + 1) x y (by simpa using hx) (by simpa using hy)⟩
    simp only [List.length_cons] at hn
    by_cases hs : o + d < s
    · exact ⟨w, Or.inr hs⟩
    obtain ⟨g1, g2, g3⟩ := objrel_store h (k := o) (by omega) hv
    obtain ⟨w2, hw2⟩ := storeCells_ok l m' (t.put o v) (o + 1) (s + 1) _ g1 (by omega) hl2 h1.2
    rcases hw2 with ⟨e1, e2, e3, e4, e5⟩ | e
    · refine ⟨w2, Or.inl ⟨?_, e2, fun S hS => ((Only.refl _ _).setCell (Or.inr hS) v').trans (e3 S hS) (fun _ _ hh => hh), e4.trans (by simp [World.setCell]), fun k hk => (e5 k hk).trans (Below.heap_setCell _ _ _ _ hk)⟩⟩
      rw [show o + 1 + d - (s + 1) = o + d - s by omega] at e1
      have ha : (⟨b, o + d - s, none⟩ : Addr).add s = ⟨b, o + d, none⟩ := by rw [addr_add]; congr 1; omega
      simp only [storeCells, Sem.run_bind, ha, run_store P w _ v' _ (hv.one h1.1)]
      cases hc : w.cell? ⟨b, o + d, none⟩ with
      | none => rw [hc] at g2; cases g2
      | some u => simp only [g3, Result.andThen]; exact e1
    · omega
def vstoreCells (lim : Nat) (W : VW) (i o : Nat) (l : List Value) : Option VW :=
  match W.heap.at i with
  | some (.cells t n T) => bif lim.ble i && (o + l.length).ble n && l.all Value.oneCell' then some ⟨W.heap.put i (.cells (wrN t o l) n T), W.next⟩ else none
  | _ => none
theorem vstoreCells_ok {β : Place} {W W' : VW} {w : World} (h : Rel P D β W w) {lim i o : Nat} {l l' : List Value} {a : Addr} (ha : AR β i o a) (hl : LR D β l l') (hv : vstoreCells lim W i o l = some W') :
    ∃ w', (storeCells a l').run P w = .ok () w' ∧ Rel P D β W' w' ∧ Ext lim β β w w' := by
  unfold vstoreCells at hv
  split at hv
  · rename_i t n T hi
    cases hb : (lim.ble i && (o + l.length).ble n && l.all Value.oneCell') with
    | false => rw [hb] at hv; cases hv
    | true =>
      rw [hb] at hv
      simp only [cond_true, Option.some.injEq] at hv
      subst hv
      simp only [Bool.and_eq_true, Nat.ble_eq] at hb
      obtain ⟨⟨b1, b2⟩, b3⟩ := hb
      obtain ⟨b, d, x, e1, e2⟩ := h.live i _ hi
      unfold AR at ha
      rw [e1] at ha
      simp only [] at ha
      subst ha
      obtain ⟨w', hw⟩ := storeCells_ok l l' t o 0 w e2 b2 hl b3
      rcases hw with ⟨g1, g2, g3, g4, g5⟩ | g
      · exact ⟨w', g1, h.reobj e1 (by omega) (fun k hk _ => g5 k hk) g2, LeS.refl _, fun _ _ => rfl, g3 _ ⟨i, d, x, b1, e1⟩, fun _ _ ht => ht⟩
      · omega
  · cases hv
def vstore (P : Program) (lim : Nat) (W : VW) (T : TypeId) (a v : Value) : Option VW :=
  match a with
  | .pointer (some ⟨i, o, none⟩) =>
    match P.info? T with
    | some inf => bif v.cells.size.beq inf.size then vstoreCells lim W i o v.cells.toList else none
    | none => none
  | _ => none
theorem VR.cells {β : Place} {v v' : Value} (h : VR D β v v') : LR D β v.cells.toList v'.cells.toList := by
  have one : ∀ v v' : Value, VR D β v v' → LR D β [v] [v'] := fun v v' h => ⟨rfl, fun i x y hx hy => by
    cases i with
    | zero => simp at hx hy; subst hx; subst hy; exact h
    | succ i => simp at hx⟩
  cases h with
  | agg xs ys h1 h2 => exact ⟨h1, h2⟩
  | sym _ _ h1 h2 h3 =>
    cases v <;> simp [isSym] at h1
    cases v' <;> simp [scalar] at h3
    all_goals exact one _ _ (.sym _ _ (by assumption) (by assumption) rfl)
  | bool => exact one _ _ (.bool _)
  | int => exact one _ _ (.int _ _)
  | float => exact one _ _ (.float _ _)
  | string => exact one _ _ (.string _)
  | nilPtr => exact one _ _ .nilPtr
  | ptr _ _ _ h => exact one _ _ (.ptr _ _ _ h)
  | nilSlice => exact one _ _ .nilSlice
  | slice _ _ _ _ _ _ h1 h2 h3 => exact one _ _ (.slice _ _ _ _ _ _ h1 h2 h3)
  | slice0 => exact one _ _ (.slice0 _ _ _ _ _)
  | nilMap => exact one _ _ .nilMap
  | map _ _ h => exact one _ _ (.map _ _ h)
  | nilFunc => exact one _ _ .nilFunc
  | func _ _ _ h1 h2 => exact one _ _ (.func _ _ _ h1 h2)
  | nilIface => exact one _ _ .nilIface
  | tuple _ _ h1 h2 => exact one _ _ (.tuple _ _ h1 h2)
theorem vstore_ok {β : Place} {W W' : VW} {w : World} (h : Rel P D β W w) {lim : Nat} {T : TypeId} {a a' v v' : Value} (ha : VR D β a a') (hr : VR D β v v') (hv : vstore P lim W T a v = some W') :
    ∃ w', (Instr.storeAt T a' v').run P w = .ok () w' ∧ Rel P D β W' w' ∧ Ext lim β β w w' := by
  unfold vstore at hv
  split at hv
  · rename_i i o
    cases ha with
    | sym _ _ h1 => cases h1
    | ptr _ _ a1 hA =>
      split at hv
      · rename_i inf hinf
        cases hb : v.cells.size.beq inf.size with
        | false => rw [hb] at hv; cases hv
        | true =>
          rw [hb] at hv
          simp only [cond_true] at hv
          have hc := hr.cells
          obtain ⟨w', g1, g2, g3⟩ := vstoreCells_ok h hA hc hv
          refine ⟨w', ?_, g2, g3⟩
          have hsz : v'.cells.size = P.cellsOf T := by
            have e1 := Nat.eq_of_beq_eq_true hb
            have e2 := hc.1
            simp only [Array.length_toList] at e2
            simp [Program.cellsOf, hinf, ← e2, e1]
          simp [Instr.storeAt, Instr.sureAddr, storeVar, sizeOf_run hinf, Result.andThen, hsz, g1]
      · cases hv
  · cases hv
/-! #### New cells -/
def trOf : Nat → List Value → Tr Value → Tr Value
  | _, [], t => t
  | k, v :: l, t => trOf (k + 1) l (t.put k v)
theorem trOf_at : ∀ (l : List Value) (k : Nat) (t : Tr Value) (j : Nat) (v : Value), (trOf k l t).at j = some v → (k ≤ j ∧ l[j - k]? = some v) ∨ ((j < k ∨ k + l.length ≤ j) ∧ t.at j = some v)
  | [], k, t, j, v, h => Or.inr ⟨by simp; omega, h⟩
  | u :: l, k, t, j, v, h => by
    rcases trOf_at l (k + 1) (t.put k u) j v h with ⟨h1, h2⟩ | ⟨h1, h2⟩
    · refine Or.inl ⟨by omega, ?_⟩
      rw [show j - k = (j - (k + 1)) + 1 by omega]
      simpa using h2
    · rcases Tr.at_put h2 with ⟨rfl, rfl⟩ | ⟨hne, h3⟩
      · exact Or.inl ⟨Nat.le_refl _, by simp⟩
      · refine Or.inr ⟨?_, h3⟩
        simp only [List.length_cons]
        omega
def vnew (W : VW) (T : TypeId) (l : List Value) : Value × VW :=
  (.pointer (some ⟨W.next, 0, none⟩), W.push (.cells (trOf 0 l .nil) l.length T))
theorem vnew_ok {β : Place} {W : VW} {w : World} (h : Rel P D β W w) {lim : Nat} (hlim : lim ≤ W.next) {T : TypeId} {l l' : List Value} (hl : LR D β l l') :
    ∃ β', β' W.next = .live w.heap.size 0 0 ∧ Rel P D β' (W.push (.cells (trOf 0 l .nil) l.length T)) (w.alloc (.cells l'.toArray T)) ∧ Ext lim β β' w (w.alloc (.cells l'.toArray T)) := by
  refine ⟨updP β W.next (.live w.heap.size 0 0), updP_same _ _ _, ?_⟩
  have hle := LeS.upd_unborn (h.unborn W.next (Nat.le_refl _)) (.live w.heap.size 0 0)
  refine h.alloc hlim _ _ ⟨l'.toArray, blk_new _ _, ?_, fun k v hk hv => ?_⟩
  · have := hl.1
    simp [this]
  · rcases trOf_at l 0 .nil k v hv with ⟨_, h1⟩ | ⟨_, h1⟩
    · have hk' : k < l'.length := by rw [← hl.1]; exact hk
      refine ⟨l'[k], by simp [hk'], (hl.2 k v _ h1 (List.getElem?_eq_getElem hk')).mono hle⟩
    · rw [show (Tr.nil : Tr Value).at k = none from Tr.get_nil _ _] at h1; cases h1
end
end Go.Proofs.Ytednnkhomfabaaa
