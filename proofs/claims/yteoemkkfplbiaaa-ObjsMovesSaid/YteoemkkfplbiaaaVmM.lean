/- A machine to run closed calls: blocks that are known where a call begins, and what stands in them behind it. No condition. -/
import Derived.Test.YteoemkkfplbiaaaVmB
namespace Go.Proofs.Yteoemkkfplbiaaa
open Go.RowKit
set_option linter.unusedVariables false
/-- the machine's memory where these blocks are known: cells and their type -/
def memH : Nat → List (List Value × TypeId) → Tr VObj → Tr VObj
  | _, [], t => t
  | k, (cs, T) :: l, t => memH (k + 1) l (t.put k (.cells (trOf 0 cs .nil) cs.length T))
def memW (L : List (List Value × TypeId)) : VW := ⟨memH 0 L .nil, L.length⟩
theorem memH_at : ∀ (L : List (List Value × TypeId)) (k : Nat) (t : Tr VObj) (i : Nat) (o : VObj), (memH k L t).at i = some o → (∃ cs T, k ≤ i ∧ L[i - k]? = some (cs, T) ∧ o = .cells (trOf 0 cs .nil) cs.length T) ∨ t.at i = some o
  | [], _, _, _, _, h => Or.inr h
  | (cs, T) :: l, k, t, i, o, h => by
    rcases memH_at l (k + 1) _ i o h with ⟨cs', T', h1, h2, h3⟩ | h1
    · refine Or.inl ⟨cs', T', by omega, ?_, h3⟩
      rw [show i - k = (i - (k + 1)) + 1 by omega]; simpa using h2
    · rcases Tr.at_put h1 with ⟨rfl, rfl⟩ | ⟨_, h2⟩
      · exact Or.inl ⟨cs, T, Nat.le_refl _, by simp, rfl⟩
      · exact Or.inr h2
def memP (bs : List Nat) : Place := fun i => match bs[i]? with | some b => .live b 0 0 | none => .unborn
theorem memP_live {bs : List Nat} {i b d x : Nat} (h : memP bs i = .live b d x) : bs[i]? = some b ∧ d = 0 ∧ x = 0 := by
  unfold memP at h
  split at h
  · rename_i b' e
    injection h with h1 h2 h3
    subst h1 h2 h3
    exact ⟨e, rfl, rfl⟩
  · cases h
section
variable {P : Program} {D : Den}
/-- the blocks stand so -/
def Stands (P : Program) (D : Den) (w : World) (bs : List Nat) (L : List (List Value × TypeId)) : Prop :=
  bs.length = L.length ∧ bs.Nodup ∧ ∀ (i b : Nat) cs T, bs[i]? = some b → L[i]? = some (cs, T) → ∃ cs' : Array Value, w.heap[b]? = some (.cells cs' T (0, 0)) ∧ cs.length ≤ cs'.size ∧ ∀ (k : Nat) v, cs[k]? = some v → ∃ v', cs'[k]? = some v' ∧ VR D (memP bs) v v'
theorem stands_rel {w : World} {bs : List Nat} {L : List (List Value × TypeId)} (h : Stands P D w bs L) : Rel P D (memP bs) (memW L) w := by
  obtain ⟨h1, h2, h3⟩ := h
  have hblk : ∀ i b, bs[i]? = some b → b < w.heap.size := fun i b hi => by
    have hlt : i < L.length := by rw [← h1]; exact (List.getElem?_eq_some_iff.1 hi).1
    obtain ⟨cs', e, _⟩ := h3 i b L[i].1 L[i].2 hi (by rw [List.getElem?_eq_getElem hlt])
    exact blk_lt e
  refine ⟨fun i hi => ?_, fun i o hi => ?_, fun i j b d x d' x' hi hj => ?_, fun i b d x hi => hblk i b (memP_live hi).1⟩
  · have hi' : L.length ≤ i := hi
    unfold memP
    rw [List.getElem?_eq_none (by omega)]
  · rcases memH_at L 0 .nil i o hi with ⟨cs, T, _, e, rfl⟩ | e
    · rw [Nat.sub_zero] at e
      have hlt : i < bs.length := by rw [h1]; exact (List.getElem?_eq_some_iff.1 e).1
      have hb := List.getElem?_eq_getElem hlt
      obtain ⟨cs', e1, e2, e3⟩ := h3 i _ cs T hb e
      refine ⟨bs[i], 0, 0, by unfold memP; rw [hb], cs', e1, by omega, fun k v hk hv => ?_⟩
      rcases trOf_at cs 0 .nil k v hv with ⟨_, q⟩ | ⟨_, q⟩
      · rw [Nat.zero_add]; exact e3 k v (by simpa using q)
      · rw [show (Tr.nil : Tr Value).at k = none from Tr.get_nil _ _] at q; cases q
    · rw [show (Tr.nil : Tr VObj).at i = none from Tr.get_nil _ _] at e; cases e
  · obtain ⟨e1, _, _⟩ := memP_live hi
    obtain ⟨e2, _, _⟩ := memP_live hj
    obtain ⟨l1, g1⟩ := List.getElem?_eq_some_iff.1 e1
    obtain ⟨l2, g2⟩ := List.getElem?_eq_some_iff.1 e2
    have hn := List.pairwise_iff_getElem.1 h2
    rcases Nat.lt_trichotomy i j with hlt | rfl | hlt
    · exact absurd (g1.trans g2.symm) (hn i j l1 l2 hlt)
    · rfl
    · exact absurd (g2.trans g1.symm) (hn j i l2 l1 hlt)
/-- a call where these blocks are known -/
theorem vrunM {sy : Sy P D} (hgl : ∀ g, sy.gl g = false) (hmix : P.follows .mixedOrders = true) (F n f : Nat) {xs xs' : List Value} {v : Value} {W' : VW} {w : World} {bs : List Nat} {L : List (List Value × TypeId)} (hs : Stands P D w bs L) (hx : LR D (memP bs) xs xs')
    (h : vcall sy F n 0 f xs (memW L) = some (v, W')) : Calls P f xs'.toArray w fun e w' => ∃ v' β', e = .returned v' ∧ VR D β' v v' ∧ Rel P D β' W' w' ∧ LeS (memP bs) β' ∧ Only (· ∈ bs) w w' := by
  refine (vcall_ok hmix F n 0 f xs (memW L) v W' h _ w xs' (stands_rel hs) (fun g hg => by rw [hgl] at hg; cases hg) hx (Nat.zero_le _)).mono ?_
  rintro e w' ⟨v', β', h1, h2, h3, h4⟩
  refine ⟨v', β', h1, h2, h3, h4.le, h4.only.mono fun k _ hk => ?_⟩
  obtain ⟨i, d, x, _, hi⟩ := hk
  exact List.mem_of_getElem? (memP_live hi).1
theorem place_ptr {b o : Nat} {bs : List Nat} {i : Nat} (h : bs[i]? = some b) : VR D (memP bs) (.pointer (some ⟨i, o, none⟩)) (.pointer (some ⟨b, o, none⟩)) := by
  refine .ptr _ _ _ ?_
  unfold AR memP
  rw [h]
  simp
theorem place_slice {b o len cap : Nat} {bs : List Nat} {i : Nat} (h : bs[i]? = some b) (hl : len ≤ cap) : VR D (memP bs) (.slice (some ⟨i, o, none⟩) len cap) (.slice (some ⟨b, o, none⟩) len cap) := by
  refine .slice _ _ _ _ _ _ ?_ ?_ hl
  · unfold AR memP; rw [h]; simp
  · unfold CR memP; rw [h]; exact ⟨0, Nat.le_refl _, rfl⟩
/-- a cell behind the call -/
theorem rel_cell {β : Place} {W : VW} {w : World} (h : Rel P D β W w) {i k n : Nat} {t : Tr Value} {T : TypeId} {v : Value} (hi : W.heap.at i = some (.cells t n T)) (hk : k < n) (hv : t.at k = some v) :
    ∃ b d x v', β i = .live b d x ∧ w.cell? ⟨b, d + k, none⟩ = some v' ∧ VR D β v v' ∧ w.frozen? ⟨b, d + k, none⟩ = false := by
  obtain ⟨b, d, x, h1, cs, h2, h3, h4⟩ := h.live i _ hi
  obtain ⟨v', e1, e2⟩ := h4 k v hk hv
  exact ⟨b, d, x, v', h1, blk_cell h2 e1, e2, blk_free h2⟩
end
end Go.Proofs.Yteoemkkfplbiaaa
