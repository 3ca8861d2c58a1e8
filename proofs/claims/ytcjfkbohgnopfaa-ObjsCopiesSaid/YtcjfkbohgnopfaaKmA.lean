/- A machine to run calls where a memory stands: what stands is told by a list; contents told anew behind a call. No condition. -/
import Derived.Test.YtcjfkbohgnopfaaVmS
namespace Go.Proofs.Ytcjfkbohgnopfaa
open Go.RowKit
set_option linter.unusedVariables false
abbrev Lst := List (Nat × List Value × TypeId)
def wH : Lst → Tr VObj
  | [] => .nil
  | (i, cs, T) :: l => (wH l).put i (.cells (trOf 0 cs .nil) cs.length T)
def wOf (l : Lst) (N : Nat) : VW := ⟨wH l, N⟩
theorem wH_at : ∀ (l : Lst) (i : Nat) (o : VObj), (wH l).at i = some o → ∃ cs T, (i, cs, T) ∈ l ∧ o = .cells (trOf 0 cs .nil) cs.length T
  | [], i, o, h => by rw [show (wH []).at i = none from Tr.get_nil _ _] at h; cases h
  | (j, cs, T) :: l, i, o, h => by
    rcases Tr.at_put h with ⟨rfl, rfl⟩ | ⟨_, h2⟩
    · exact ⟨cs, T, List.mem_cons_self, rfl⟩
    · obtain ⟨cs', T', h3, h4⟩ := wH_at l i o h2
      exact ⟨cs', T', List.mem_cons_of_mem _ h3, h4⟩
/-- values whose places are below N, marks and numbers -/
def lowV (N : Nat) : Value → Bool
  | .bool _ | .int _ _ | .pointer none => true
  | .slice none 0 0 => true
  | .pointer (some ⟨b, _, none⟩) => b.blt N
  | .slice (some ⟨b, _, none⟩) _ _ => b.blt N
  | .func (.yield _) _ _ => true
  | _ => false
/-- the same cells, for sure -/
def sameV : Value → Value → Bool
  | .int k n, .int k' n' => decide (k = k') && decide (n = n')
  | .bool b, .bool b' => b == b'
  | .pointer none, .pointer none => true
  | .pointer (some ⟨b, o, none⟩), .pointer (some ⟨b', o', none⟩) => b.beq b' && o.beq o'
  | .slice none l c, .slice none l' c' => l.beq l' && c.beq c'
  | .slice (some ⟨b, o, none⟩) l c, .slice (some ⟨b', o', none⟩) l' c' => b.beq b' && (o.beq o' && (l.beq l' && c.beq c'))
  | x, y => teq x y
theorem blt_lt {a b : Nat} (h : a.blt b = true) : a < b := by rwa [Nat.blt_eq] at h
theorem ble_le {a b : Nat} (h : a.ble b = true) : a ≤ b := by rwa [Nat.ble_eq] at h
theorem beq_eq {a b : Nat} (h : a.beq b = true) : a = b := Nat.eq_of_beq_eq_true h
theorem sameV_eq {x y : Value} (h : sameV x y = true) : x = y := by
  unfold sameV at h
  split at h
  · simp only [Bool.and_eq_true, decide_eq_true_eq] at h; rw [h.1, h.2]
  · rw [eq_of_beq h]
  · rfl
  · simp only [Bool.and_eq_true] at h; rw [beq_eq h.1, beq_eq h.2]
  · simp only [Bool.and_eq_true] at h; rw [beq_eq h.1, beq_eq h.2]
  · simp only [Bool.and_eq_true] at h; rw [beq_eq h.1, beq_eq h.2.1, beq_eq h.2.2.1, beq_eq h.2.2.2]
  · exact teq_eq _ _ h
def sameCs (N : Nat) (t : Tr Value) : Nat → List Value → Bool
  | _, [] => true
  | k, c :: cs => (match t.at k with | some v => sameV v c | none => false) && (lowV N c && sameCs N t (k + 1) cs)
theorem sameCs_at {N : Nat} {t : Tr Value} : ∀ (cs : List Value) (k : Nat), sameCs N t k cs = true → ∀ (j : Nat) c, cs[j]? = some c → t.at (k + j) = some c ∧ lowV N c = true
  | [], k, h, j, c, hc => by simp at hc
  | x :: cs, k, h, j, c, hc => by
    unfold sameCs at h
    simp only [Bool.and_eq_true] at h
    obtain ⟨h1, h2, h3⟩ := h
    match j, hc with
    | 0, hc =>
      obtain rfl : x = c := by simpa using hc
      split at h1
      · rename_i v e
        rw [Nat.add_zero, e, sameV_eq h1]; exact ⟨rfl, h2⟩
      · cases h1
    | j + 1, hc =>
      have := sameCs_at cs (k + 1) h3 j c (by simpa using hc)
      rwa [show k + 1 + j = k + (j + 1) by omega] at this
def sameW (W : VW) (N : Nat) : Lst → Bool
  | [] => true
  | (i, cs, T) :: l => i.blt N && ((match W.heap.at i with | some (.cells t n T') => cs.length.ble n && (T.beq T' && sameCs N t 0 cs) | _ => false) && sameW W N l)
theorem sameW_mem {W : VW} {N : Nat} : ∀ {l : Lst}, sameW W N l = true → ∀ {i cs T}, (i, cs, T) ∈ l → i < N ∧ ∃ t n, W.heap.at i = some (.cells t n T) ∧ cs.length ≤ n ∧ ∀ (j : Nat) c, cs[j]? = some c → t.at j = some c ∧ lowV N c = true
  | [], _, i, cs, T, hm => by cases hm
  | (i0, cs0, T0) :: l, h, i, cs, T, hm => by
    unfold sameW at h
    simp only [Bool.and_eq_true] at h
    obtain ⟨h0, h1, h2⟩ := h
    rcases List.mem_cons.1 hm with e | hm
    · cases e
      refine ⟨blt_lt h0, ?_⟩
      split at h1
      · rename_i t n T' e
        simp only [Bool.and_eq_true] at h1
        obtain ⟨k1, k2, k3⟩ := h1
        rw [beq_eq k2]
        exact ⟨t, n, e, ble_le k1, fun j c hc => by have := sameCs_at cs0 0 k3 j c hc; rwa [Nat.zero_add] at this⟩
      · cases h1
    · exact sameW_mem h2 hm
def resB (β : Place) (N : Nat) : Place := fun i => if i < N then β i else .unborn
section
variable {P : Program} {D : Den} {β : Place} {N : Nat}
theorem AR_res {i o : Nat} {a : Addr} (hi : i < N) (h : AR β i o a) : AR (resB β N) i o a := by
  unfold AR resB at *
  rwa [if_pos hi]
theorem CR_res {i c c' : Nat} (hi : i < N) (h : CR β i c c') : CR (resB β N) i c c' := by
  unfold CR resB at *
  rwa [if_pos hi]
theorem VR_res {v v' : Value} (hl : lowV N v = true) (h : VR D β v v') : VR D (resB β N) v v' := by
  cases h with
  | bool b => exact .bool b
  | int k n => exact .int k n
  | sym _ _ h1 h2 h3 => exact .sym _ _ h1 h2 h3
  | nilPtr => exact .nilPtr
  | ptr b o a ha => exact .ptr _ _ _ (AR_res (blt_lt hl) ha)
  | nilSlice => exact .nilSlice
  | slice b o len cap cap' a ha hc hle => exact .slice _ _ _ _ _ _ (AR_res (blt_lt hl) ha) (CR_res (blt_lt hl) hc) hle
  | slice0 => cases hl
  | _ => simp [lowV] at hl
theorem live_res {i b d x : Nat} (h : resB β N i = .live b d x) : β i = .live b d x := by
  unfold resB at h
  split at h
  · exact h
  · cases h
/-- of what stands behind a call: this part -/
theorem rel_part {W : VW} {w : World} {l : Lst} (h : Rel P D β W w) (hs : sameW W N l = true) : Rel P D (resB β N) (wOf l N) w := by
  refine ⟨fun i hi => if_neg (Nat.not_lt.2 hi), fun i o ho => ?_, fun i j b d x d' x' hi hj => h.inj i j b d x d' x' (live_res hi) (live_res hj), fun i b d x hi => h.lt i b d x (live_res hi)⟩
  obtain ⟨cs, T, hm, rfl⟩ := wH_at l i o ho
  obtain ⟨hlt, t, n, e1, e2, e3⟩ := sameW_mem hs hm
  obtain ⟨b, d, x, k1, ⟨cs', k2, k3, k4⟩⟩ := h.live i _ e1
  refine ⟨b, d, x, by unfold resB; rw [if_pos hlt]; exact k1, cs', k2, by omega, fun k v hk hv => ?_⟩
  rcases trOf_at cs 0 .nil k v hv with ⟨_, q⟩ | ⟨_, q⟩
  · rw [Nat.sub_zero] at q
    obtain ⟨q1, q2⟩ := e3 k v q
    obtain ⟨v', r1, r2⟩ := k4 k v (by omega) q1
    exact ⟨v', r1, VR_res q2 r2⟩
  · rw [show (Tr.nil : Tr Value).at k = none from Tr.get_nil _ _] at q; cases q
/-- what stands, told in other words -/
theorem rel_tell {D2 : Den} {w : World} {l l2 : Lst} (h : Rel P D β (wOf l N) w) (hs : ∀ i cs2 T, (i, cs2, T) ∈ l2 → ∃ t cs, (wH l).at i = some (.cells t cs.length T) ∧ t = trOf 0 cs .nil ∧ cs2.length = cs.length ∧ ∀ (k : Nat) c2, cs2[k]? = some c2 → ∃ c, t.at k = some c ∧ ∀ v', VR D β c v' → VR D2 β c2 v') : Rel P D2 β (wOf l2 N) w := by
  refine ⟨h.unborn, fun i o ho => ?_, h.inj, h.lt⟩
  obtain ⟨cs2, T, hm, rfl⟩ := wH_at l2 i o ho
  obtain ⟨t, cs, e1, e2, e3, e4⟩ := hs i cs2 T hm
  obtain ⟨b, d, x, k1, ⟨cs', k2, k3, k4⟩⟩ := h.live i _ e1
  refine ⟨b, d, x, k1, cs', k2, by omega, fun k v hk hv => ?_⟩
  rcases trOf_at cs2 0 .nil k v hv with ⟨_, q⟩ | ⟨_, q⟩
  · rw [Nat.sub_zero] at q
    obtain ⟨c, q1, q2⟩ := e4 k v q
    obtain ⟨v', r1, r2⟩ := k4 k c (by omega) q1
    exact ⟨v', r1, q2 v' r2⟩
  · rw [show (Tr.nil : Tr Value).at k = none from Tr.get_nil _ _] at q; cases q
/-- all blocks lie at B or behind -/
def Far (β : Place) (B : Nat) : Prop := ∀ k, Touch 0 β k → B ≤ k
theorem Far.res {B : Nat} (h : Far β B) : Far (resB β N) B := fun k ⟨i, d, x, h0, hi⟩ => h k ⟨i, d, x, h0, live_res hi⟩
/-- a call, told by lists -/
theorem callL {sy : Sy P D} (hgl : ∀ g, sy.gl g = false) (hmix : P.follows .mixedOrders = true) (f : Nat) {xs xs' : List Value} {w : World} {l l2 : Lst} {N2 B : Nat} {ok : Value → Bool} (hr : Rel P D β (wOf l N) w) (hx : LR D β xs xs') (hF : Far β B) (hB : B ≤ w.heap.size)
    (h : (match vcall sy 100000 60 0 f xs (wOf l N) with | some (v, W') => ok v && sameW W' N2 l2 | none => false) = true) :
    Calls P f xs'.toArray w fun e w' => ∃ v v' β', e = .returned v' ∧ ok v = true ∧ VR D β' v v' ∧ Rel P D (resB β' N2) (wOf l2 N2) w' ∧ LeS β β' ∧ Far (resB β' N2) B ∧ Below B w w' ∧ Ext 0 β β' w w' := by
  split at h
  · rename_i v W' hrun
    simp only [Bool.and_eq_true] at h
    refine (vcall_ok hmix 100000 60 0 f xs (wOf l N) v W' hrun β w xs' hr (fun g hg => by rw [hgl] at hg; cases hg) hx (Nat.zero_le _)).mono ?_
    rintro e w' ⟨v', β', h1, h2, h3, h4⟩
    have hF' : Far β' B := fun k hk => by
      by_cases hlt : k < w.heap.size
      · exact hF k (h4.new k hlt hk)
      · omega
    exact ⟨v, v', β', h1, h.1, h2, rel_part h3 h.2, h4.le, hF'.res, h4.only.below hB (fun k hk => hF k hk), h4⟩
  · cases h
/-- a block that is new to what stands -/
theorem rel_more {w w' : World} {l : Lst} (h : Rel P D β (wOf l N) w) (hw : Below w.heap.size w w') {b : Nat} (hb : w'.heap.size > b) (hn : ∀ i d x, β i ≠ .live b d x) (cs : List Value) (cs' : Array Value) (T : TypeId) (hc : w'.heap[b]? = some (.cells cs' T (0, 0))) (hcs : cs.length ≤ cs'.size) (hv : ∀ (k : Nat) v, cs[k]? = some v → ∃ v', cs'[k]? = some v' ∧ ∀ β, VR D β v v') :
    Rel P D (fun i => if i = N then .live b 0 0 else β i) (wOf ((N, cs, T) :: l) (N + 1)) w' := by
  have hN : β N = .unborn := h.unborn N (Nat.le_refl _)
  have hle : LeS β (fun i => if i = N then .live b 0 0 else β i) := fun i => by
    by_cases e : i = N
    · subst e; exact Or.inl hN
    · exact Or.inr (Or.inl (if_neg e))
  refine ⟨fun i hi => ?_, fun i o ho => ?_, fun i j b1 d x d' x' hi hj => ?_, fun i b1 d x hi => ?_⟩
  · have : N + 1 ≤ i := hi
    show (if i = N then _ else _) = _
    rw [if_neg (by omega)]
    exact h.unborn i (by show N ≤ i; omega)
  · rcases Tr.at_put ho with ⟨rfl, rfl⟩ | ⟨hne, h2⟩
    · refine ⟨b, 0, 0, if_pos rfl, cs', hc, by omega, fun k v hk hv2 => ?_⟩
      rcases trOf_at cs 0 .nil k v hv2 with ⟨_, q⟩ | ⟨_, q⟩
      · rw [Nat.sub_zero] at q
        obtain ⟨v', r1, r2⟩ := hv k v q
        exact ⟨v', by rw [Nat.zero_add]; exact r1, r2 _⟩
      · rw [show (Tr.nil : Tr Value).at k = none from Tr.get_nil _ _] at q; cases q
    · obtain ⟨b1, d, x, k1, k2⟩ := h.live i o h2
      have hlt := h.lt i b1 d x k1
      refine ⟨b1, d, x, ?_, k2.mono hle (hw.block b1 hlt)⟩
      show (if i = N then _ else _) = _
      rw [if_neg (fun e => by rw [e, hN] at k1; cases k1)]
      exact k1
  · have hi : (if i = N then Slot.live b 0 0 else β i) = .live b1 d x := hi
    have hj : (if j = N then Slot.live b 0 0 else β j) = .live b1 d' x' := hj
    split at hi <;> split at hj
    · omega
    · cases hi; exact absurd hj (hn j d' x')
    · cases hj; exact absurd hi (hn i d x)
    · exact h.inj i j b1 d x d' x' hi hj
  · have hi : (if i = N then Slot.live b 0 0 else β i) = .live b1 d x := hi
    split at hi
    · cases hi; exact hb
    · exact Nat.lt_of_lt_of_le (h.lt i b1 d x hi) hw.size
end
end Go.Proofs.Ytcjfkbohgnopfaa
