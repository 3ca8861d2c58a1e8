/- A machine to run closed calls: maps; ranges over strings; strings and bytes. No condition. -/
import Derived.Test.YtmmpkkpmlaiapaaGreatDoorVm5
import Derived.MapKept
import Derived.Carry
import Derived.Laws.BytesString
namespace Go.Proofs.YtmmpkkpmlaiapaaGreatDoor
open Go.RowKit
set_option linter.unusedVariables false
def keyTy : TypeDesc → Value → Bool
  | .int k, .int k' _ => decide (k' = k)
  | .string, .string _ => true
  | .bool, .bool _ => true
  | _, _ => false
theorem keyTy_ok {d : TypeDesc} {k : Value} (h : keyTy d k = true) : MapKept.IsKey d k ∧ pf k = true := by
  unfold keyTy at h
  split at h
  · exact ⟨by simpa [MapKept.IsKey] using h, rfl⟩
  · exact ⟨trivial, rfl⟩
  · exact ⟨trivial, rfl⟩
  · cases h
def bytesEq : List UInt8 → List UInt8 → Bool
  | [], [] => true
  | x :: xs, y :: ys => x.toNat.beq y.toNat && bytesEq xs ys
  | _, _ => false
theorem bytesEq_eq : ∀ (a b : List UInt8), bytesEq a b = (a == b)
  | [], [] => rfl
  | x :: xs, y :: ys => by
    rw [List.cons_beq_cons, bytesEq, bytesEq_eq xs ys]
    congr 1
    rw [Bool.eq_iff_iff, Nat.beq_eq, beq_iff_eq]
    exact UInt8.toNat_inj
  | [], _ :: _ => rfl
  | _ :: _, [] => rfl
def vsame : TypeDesc → Value → Value → Option Bool
  | .int _, .int k a, .int k' b => bif decide (k = k') then some (decide (a = b)) else none
  | .string, .string a, .string b => some (bytesEq a.data.toList b.data.toList)
  | .bool, .bool a, .bool b => some (a == b)
  | _, _, _ => none
theorem vsame_ok {d : TypeDesc} {x y : Value} {b : Bool} (h : vsame d x y = some b) : Instr.sameNow d x y = some b := by
  unfold vsame at h
  split at h
  · rename_i k a k' b'
    by_cases hk : k = k'
    · simp only [hk, decide_true, cond_true] at h
      simp only [Instr.sameNow, hk, if_true, ← h]
      congr 1
    · simp [hk] at h
  · rename_i a b'
    simp only [Instr.sameNow, ← h, bytesEq_eq]
    rw [beq_toListBytes, toList_data, toList_data]
  · exact h
  · cases h
def vfind (d : TypeDesc) (k : Value) : List (Value × Value × Nat) → Nat → Option (Option (Nat × Value))
  | [], _ => some none
  | (k', v, _) :: es, i =>
    match vsame d k k' with
    | some true => some (some (i, v))
    | some false => vfind d k es (i + 1)
    | none => none
section
variable {P : Program} {D : Den}
theorem vfind_ok {β : Place} {d : TypeDesc} {k : Value} : ∀ (es : List (Value × Value × Nat)) (l : List MapEntry) (i : Nat) (r : Option (Nat × Value)), l.length = es.length →
    (∀ (j : Nat) q v c, es[j]? = some (q, v, c) → ∃ e, l[j]? = some e ∧ e.key = q ∧ e.born = c ∧ VR D β v e.val) → vfind d k es i = some r →
    (r = none ∧ Instr.findNow d k l i = some none) ∨ ∃ j v v' q c, r = some (i + j, v) ∧ Instr.findNow d k l i = some (some (i + j, v')) ∧ VR D β v v' ∧ es[j]? = some (q, v, c) ∧ vsame d k q = some true
  | [], [], i, r, _, _, h => by
    simp only [vfind, Option.some.injEq] at h
    exact Or.inl ⟨h.symm, rfl⟩
  | [], _ :: _, _, _, hl, _, _ => by simp at hl
  | _ :: _, [], _, _, hl, _, _ => by simp at hl
  | (q, v, c) :: es, e :: l, i, r, hl, hr, h => by
    obtain ⟨e0, g1, g2, g3, g4⟩ := hr 0 q v c rfl
    simp only [List.getElem?_cons_zero, Option.some.injEq] at g1
    subst g1
    unfold vfind at h
    split at h
    · rename_i hs
      simp only [Option.some.injEq] at h
      refine Or.inr ⟨0, v, e.val, q, c, h.symm, ?_, g4, rfl, hs⟩
      simp only [Instr.findNow, g2, vsame_ok hs]
      rfl
    · rename_i hs
      have ih := vfind_ok es l (i + 1) r (by simpa using hl) (fun j q v c hj => hr (j + 1) q v c (by simpa using hj)) h
      have e1 : Instr.findNow d k (e :: l) i = Instr.findNow d k l (i + 1) := by simp only [Instr.findNow, g2, vsame_ok hs]
      rw [e1]
      rcases ih with ih | ⟨j, v1, v1', q1, c1, a1, a2, a3, a4, a5⟩
      · exact Or.inl ih
      · exact Or.inr ⟨j + 1, v1, v1', q1, c1, by rw [a1, Nat.add_assoc, Nat.add_comm 1 j], by rw [a2, Nat.add_assoc, Nat.add_comm 1 j], a3, a4, a5⟩
    · cases h
def vents (W : VW) : Value → Option (List (Value × Value × Nat))
  | .map none => some []
  | .map (some b) => (match W.heap.at b with | some (.map es _) => some es | _ => none)
  | _ => none
def vzero (P : Program) (T : TypeId) : Option Value :=
  match pureRun P (zeroValue T) with
  | some z => bif pf z then some z else none
  | none => none
def vlookup (P : Program) (W : VW) (T : TypeId) (m k : Value) (ok : Bool) : Option Value :=
  match P.underlying T with
  | some (.map K E) =>
    match P.underlying K, vents W m with
    | some d, some es =>
      bif keyTy d k then
        (match vfind d k es 0 with
        | some (some (_, v)) => some (bif ok then .tuple #[v, .bool true] else v)
        | some none => (match vzero P E with | some z => some (bif ok then .tuple #[z, .bool false] else z) | none => none)
        | none => none)
      else none
    | _, _ => none
  | _ => none
theorem pair_vr {β : Place} {v v' : Value} (h : VR D β v v') (b : Bool) : VR D β (.tuple #[v, .bool b]) (.tuple #[v', .bool b]) :=
  .tuple [v, .bool b] [v', .bool b] rfl (LR.cons h (LR.cons (.bool b) LR.nil)).2
theorem vlookup_ok {β : Place} {W : VW} {w : World} (h : Rel P D β W w) {lim : Nat} {T : TypeId} {m m' k k' u : Value} {ok : Bool} (hm : VR D β m m') (hk : VR D β k k') (hv : vlookup P W T m k ok = some u) :
    VOk P D lim β w (Instr.lookup T m' k' ok) u W := by
  unfold vlookup at hv
  split at hv
  rotate_left
  · cases hv
  rename_i K E hT
  split at hv
  rotate_left
  · cases hv
  rename_i d es hK hes
  cases hkt : keyTy d k with
  | false => rw [hkt] at hv; cases hv
  | true =>
    rw [hkt] at hv
    simp only [cond_true] at hv
    obtain ⟨hkey, hpk⟩ := keyTy_ok hkt
    obtain rfl : k = k' := (pf_eq hpk hk).symm
    -- the entries as they stand
    have hent : ∃ es' : Array MapEntry, (m' = .map none ∧ es' = #[] ∨ ∃ r cl, m' = .map (some r) ∧ w.heap[r]? = some (.map es' cl)) ∧ es'.toList.length = es.length ∧
        ∀ (j : Nat) q v c, es[j]? = some (q, v, c) → ∃ e, es'.toList[j]? = some e ∧ e.key = q ∧ e.born = c ∧ VR D β v e.val := by
      unfold vents at hes
      split at hes
      · simp only [Option.some.injEq] at hes
        subst hes
        have : m' = .map none := pf_eq rfl hm
        exact ⟨#[], Or.inl ⟨this, rfl⟩, rfl, fun j q v c hj => by simp at hj⟩
      · rename_i b
        split at hes
        · rename_i es0 cl hb
          simp only [Option.some.injEq] at hes
          subst hes
          obtain ⟨b1, d1, x1, e1, hd0, es', e2, e3, e4⟩ := h.live b _ hb
          cases hm with
          | sym _ _ h1 => cases h1
          | map _ b' hA =>
            unfold AR at hA
            rw [e1] at hA
            simp only [hd0, Addr.mk.injEq, and_true] at hA
            subst hA
            exact ⟨es', Or.inr ⟨_, _, rfl, e2⟩, by simpa using e3, fun j q v c hj => by simpa using e4 j q v c hj⟩
        · cases hes
      · cases hes
    obtain ⟨es', hm', hlen, hrel⟩ := hent
    have hrun : ∀ (x : Value) (b : Bool), ((Instr.findKey K k es'.toList).run P w).andThen (fun r w1 => (match r with | some (_, v) => (pure (v, true) : Sem (Value × Bool)) | none => (do pure (← zeroValue E, false))).run P w1) = .ok (x, b) w →
        (Instr.lookup T m' k ok).run P w = .ok (bif ok then .tuple #[x, .bool b] else x) w := by
      intro x b hr
      have hc : ∀ bb, (Instr.checkKey bb 10000 K k).run P w = .ok () w := fun bb => MapKept.run_checkKey hK hkey bb 9999
      have hcore : ∀ (pre : Sem (Array MapEntry)), pre.run P w = .ok es' w → (do
          let es ← pre
          Instr.checkKey es.isEmpty 10000 K k
          let (v, okk) ← match ← Instr.findKey K k es.toList with
            | some (_, v) => pure (v, true)
            | none => pure (← zeroValue E, false)
          pure (if ok then .tuple #[v, .bool okk] else v) : Sem Value).run P w = .ok (bif ok then .tuple #[x, .bool b] else x) w := by
        intro pre hp
        simp only [Sem.run_bind, hp, Result.andThen, hc]
        cases hf : (Instr.findKey K k es'.toList).run P w with
        | halt y w1 => rw [hf] at hr; simp [Result.andThen] at hr
        | ok r w1 =>
          rw [hf] at hr
          simp only [Result.andThen] at hr
          cases r with
          | some p =>
            obtain ⟨i, v⟩ := p
            simp only [Sem.run_pure, Result.ok.injEq, Prod.mk.injEq] at hr
            obtain ⟨⟨rfl, rfl⟩, rfl⟩ := hr
            cases ok <;> rfl
          | none =>
            simp only [Sem.run_bind] at hr ⊢
            cases hz : (zeroValue E).run P w1 with
            | halt y w2 => rw [hz] at hr; simp [Result.andThen] at hr
            | ok z w2 =>
              rw [hz] at hr
              simp only [Result.andThen, Sem.run_pure, Result.ok.injEq, Prod.mk.injEq] at hr
              obtain ⟨⟨rfl, rfl⟩, rfl⟩ := hr
              cases ok <;> rfl
      unfold Instr.lookup
      simp only [Sem.run_bind, run_underlying hT, Result.andThen_ok]
      rcases hm' with ⟨rfl, rfl⟩ | ⟨r, cl, rfl, hr0⟩
      · have := hcore (pure #[]) rfl
        simp only [Sem.run_bind, Sem.run_pure, Result.andThen_ok] at this
        simp only [Sem.run_bind, Sem.run_pure, Result.andThen_ok]
        exact this
      · have := hcore (pure es') rfl
        simp only [Sem.run_bind, Sem.run_pure, Result.andThen_ok] at this
        simp only [Sem.run_bind, MapKept.run_getObj_map hr0, Sem.run_pure, Result.andThen_ok]
        exact this
    split at hv
    · rename_i i v hf
      simp only [Option.some.injEq] at hv
      rcases vfind_ok es es'.toList 0 _ hlen hrel hf with ⟨h1, _⟩ | ⟨j, v1, v1', q, c, a1, a2, a3, _⟩
      · cases h1
      · simp only [Option.some.injEq, Prod.mk.injEq] at a1
        obtain ⟨rfl, rfl⟩ := a1
        refine VOk.same h (hrun v1' true ?_) ?_
        · rw [MapKept.run_findKey hK a2]; rfl
        · subst hv
          cases ok
          · exact a3
          · exact pair_vr a3 true
    · rename_i hf
      split at hv
      · rename_i z hz
        simp only [Option.some.injEq] at hv
        unfold vzero at hz
        split at hz
        · rename_i z0 hz0
          cases hpz : pf z0 with
          | false => rw [hpz] at hz; cases hz
          | true =>
            rw [hpz] at hz
            simp only [cond_true, Option.some.injEq] at hz
            subst hz
            rcases vfind_ok es es'.toList 0 _ hlen hrel hf with ⟨_, h2⟩ | ⟨_, _, _, _, _, a1, _⟩
            · refine VOk.same h (hrun z0 false ?_) ?_
              · rw [MapKept.run_findKey hK h2]
                simp only [Result.andThen, Sem.run_bind, pureRun_ok hz0, Sem.run_pure]
              · subst hv
                cases ok
                · exact pf_vr D β z0 hpz
                · exact pair_vr (pf_vr D β z0 hpz) false
            · cases a1
        · cases hz
      · cases hv
    · cases hv
/-! #### A map is made, an entry is laid -/
def vmakeMap (W : VW) : Value × VW := (.map (some W.next), W.push (.map [] 0))
theorem vmakeMap_ok {β : Place} {W : VW} {w : World} (h : Rel P D β W w) {lim : Nat} (hlim : lim ≤ W.next) (T : TypeId) : VOk P D lim β w (Instr.makeMap T none) (vmakeMap W).1 (vmakeMap W).2 := by
  have hr := h.alloc hlim (x0 := 0) (.map [] 0) (.map #[] 0) ⟨rfl, #[], blk_new _ _, rfl, fun i k v c hi => by simp at hi⟩
  refine ⟨.map (some w.heap.size), _, _, run_makeMap T w, .map _ _ ?_, hr.1, hr.2⟩
  unfold AR
  rw [updP_same]
def setEnt (k v : Value) : Nat → List (Value × Value × Nat) → List (Value × Value × Nat)
  | _, [] => []
  | 0, (_, _, c) :: es => (k, v, c) :: es
  | j + 1, e :: es => e :: setEnt k v j es
theorem setEnt_len (k v : Value) : ∀ (j : Nat) (es : List (Value × Value × Nat)), (setEnt k v j es).length = es.length
  | _, [] => by simp [setEnt]
  | 0, (_, _, _) :: es => by simp [setEnt]
  | j + 1, e :: es => by simp [setEnt, setEnt_len k v j es]
theorem setEnt_at (k v : Value) : ∀ (j : Nat) (es : List (Value × Value × Nat)) (i : Nat) (q u : Value) (c : Nat), (setEnt k v j es)[i]? = some (q, u, c) → (i = j ∧ q = k ∧ u = v ∧ ∃ q0 u0, es[i]? = some (q0, u0, c)) ∨ (i ≠ j ∧ es[i]? = some (q, u, c))
  | _, [], i, q, u, c, h => by simp [setEnt] at h
  | 0, (q0, u0, c0) :: es, 0, q, u, c, h => by
    simp only [setEnt, List.getElem?_cons_zero, Option.some.injEq, Prod.mk.injEq] at h
    obtain ⟨rfl, rfl, rfl⟩ := h
    exact Or.inl ⟨rfl, rfl, rfl, q0, u0, rfl⟩
  | 0, (q0, u0, c0) :: es, i + 1, q, u, c, h => Or.inr ⟨by omega, by simpa [setEnt] using h⟩
  | j + 1, e :: es, 0, q, u, c, h => Or.inr ⟨by omega, h⟩
  | j + 1, e :: es, i + 1, q, u, c, h => by
    rcases setEnt_at k v j es i q u c (by simpa [setEnt] using h) with ⟨a, b, c', d⟩ | ⟨a, b⟩
    · exact Or.inl ⟨by omega, b, c', by simpa using d⟩
    · exact Or.inr ⟨by omega, by simpa using b⟩
def vupdate (P : Program) (lim : Nat) (W : VW) (T : TypeId) (m k v : Value) : Option VW :=
  match P.underlying T, m with
  | some (.map K _), .map (some b) =>
    match P.underlying K, W.heap.at b with
    | some d, some (.map es cl) =>
      bif keyTy d k && lim.ble b then
        (match vfind d k es 0 with
        | some (some (j, _)) => some ⟨W.heap.put b (.map (setEnt k v j es) cl), W.next⟩
        | some none => some ⟨W.heap.put b (.map (es ++ [(k, v, cl)]) (cl + 1)), W.next⟩
        | none => none)
      else none
    | _, _ => none
  | _, _ => none
theorem same_bits {d : TypeDesc} {k q : Value} (hk : MapKept.IsKey d k) (h : vsame d k q = some true) : Instr.sameBits 10000 q k = true ∧ q = k := by
  unfold vsame at h
  split at h
  · rename_i kd k1 a k2 b
    by_cases e : k1 = k2
    · simp only [e, decide_true, cond_true, Option.some.injEq, decide_eq_true_eq] at h
      subst h; subst e
      exact ⟨by simp [Instr.sameBits], rfl⟩
    · simp [e] at h
  · rename_i a b
    simp only [Option.some.injEq, bytesEq_eq, beq_iff_eq] at h
    have : a = b := by cases a with | mk x => cases b with | mk y => cases x; cases y; simp_all
    subst this
    refine ⟨?_, rfl⟩
    simp only [Instr.sameBits]
    rw [beq_toListBytes]
    exact beq_self_eq_true _
  · rename_i a b
    simp only [Option.some.injEq, beq_iff_eq] at h
    subst h
    exact ⟨by simp [Instr.sameBits], rfl⟩
  · cases h
theorem vupdate_ok {β : Place} {W W' : VW} {w : World} (h : Rel P D β W w) {lim : Nat} {T : TypeId} {m m' k k' v v' : Value} (hm : VR D β m m') (hk : VR D β k k') (hv : VR D β v v') (hu : vupdate P lim W T m k v = some W') :
    ∃ w', (Instr.mapUpdate T m' k' v').run P w = .ok () w' ∧ Rel P D β W' w' ∧ Ext lim β β w w' := by
  unfold vupdate at hu
  split at hu
  rotate_left
  · cases hu
  rename_i K E b hT
  split at hu
  rotate_left
  · cases hu
  rename_i d es cl hK hb
  cases hc : (keyTy d k && lim.ble b) with
  | false => rw [hc] at hu; cases hu
  | true =>
    rw [hc] at hu
    simp only [cond_true] at hu
    rw [Bool.and_eq_true, Nat.ble_eq] at hc
    obtain ⟨hkey, hpk⟩ := keyTy_ok hc.1
    obtain rfl : k = k' := (pf_eq hpk hk).symm
    obtain ⟨b1, d1, x1, e1, hd0, es', e2, e3, e4⟩ := h.live b _ hb
    obtain rfl : m' = .map (some b1) := by
      cases hm with
      | sym _ _ h1 => cases h1
      | map _ b' hA =>
        unfold AR at hA
        rw [e1] at hA
        simp only [hd0, Addr.mk.injEq, and_true] at hA
        rw [hA]
    have hlen : es'.toList.length = es.length := by simpa using e3
    have hrel : ∀ (j : Nat) q v c, es[j]? = some (q, v, c) → ∃ e, es'.toList[j]? = some e ∧ e.key = q ∧ e.born = c ∧ VR D β v e.val := fun j q v c hj => by simpa using e4 j q v c hj
    have hck : ∀ bb, (Instr.checkKey bb 10000 K k).run P w = .ok () w := fun bb => MapKept.run_checkKey hK hkey bb 9999
    have hlt : b1 < w.heap.size := blk_lt e2
    -- one block is another thing
    have fin : ∀ (es1 : Array MapEntry) (cl1 : Nat) (o : VObj), (Instr.mapUpdate T (.map (some b1)) k v').run P w = .ok () { w with heap := w.heap.setIfInBounds b1 (.map es1 cl1) } →
        ObjRel P D β { w with heap := w.heap.setIfInBounds b1 (.map es1 cl1) } b1 d1 x1 o →
        ∃ w', (Instr.mapUpdate T (.map (some b1)) k v').run P w = .ok () w' ∧ Rel P D β ⟨W.heap.put b o, W.next⟩ w' ∧ Ext lim β β w w' := by
      intro es1 cl1 o hr ho
      refine ⟨_, hr, h.reobj e1 (by simp) (fun k hk _ => by show (w.heap.setIfInBounds b1 _)[k]? = _; rw [Array.getElem?_setIfInBounds_ne (Ne.symm hk)]) ho, LeS.refl _, fun _ _ => rfl, ⟨rfl, rfl, rfl, by simp, fun k hk hn => ?_⟩, fun _ _ ht => ht⟩
      show (w.heap.setIfInBounds b1 _)[k]? = _
      rw [Array.getElem?_setIfInBounds_ne]
      rintro rfl
      exact hn ⟨b, d1, x1, hc.2, e1⟩
    split at hu
    · rename_i j u hf
      simp only [Option.some.injEq] at hu
      subst hu
      rcases vfind_ok es es'.toList 0 _ hlen hrel hf with ⟨h1, _⟩ | ⟨j0, v1, v1', q, c, a1, a2, a3, a4, a5⟩
      · cases h1
      · simp only [Option.some.injEq, Prod.mk.injEq, Nat.zero_add] at a1
        obtain ⟨rfl, rfl⟩ := a1
        rw [Nat.zero_add] at a2
        obtain ⟨e0, f1, f2, f3, f4⟩ := e4 j q _ c a4
        have hsb := same_bits hkey a5
        have hj : j < es'.size := (Array.getElem?_eq_some_iff.1 f1).1
        refine fin (es'.modify j fun e => { e with key := k, val := v' }) cl _ ?_ ⟨hd0, _, by show (w.heap.setIfInBounds b1 _)[b1]? = _; rw [Array.getElem?_setIfInBounds_self_of_lt hlt], by simp [setEnt_len, e3], ?_⟩
        · unfold Instr.mapUpdate
          have hkk : (Instr.keyThatStays (((es'[j]?).map (·.key)).getD k) k).run P w = .ok k w := by
            rw [f1]
            simp only [Option.map_some, Option.getD_some, f2, Instr.keyThatStays, hsb.1, if_true]
            rfl
          simp only [Sem.run_bind, run_underlying hT, Result.andThen_ok, MapKept.run_getObj_map e2, hck, MapKept.run_findKey hK a2, hkk, MapKept.run_setObj_map _ e2]
        · intro i q' u' c' hi
          rcases setEnt_at k v j es i q' u' c' hi with ⟨rfl, rfl, rfl, q0, u0, g⟩ | ⟨hne, g⟩
          · rw [a4] at g
            simp only [Option.some.injEq, Prod.mk.injEq] at g
            obtain ⟨rfl, rfl, rfl⟩ := g
            exact ⟨{ e0 with key := q', val := v' }, by rw [Array.getElem?_modify, if_pos rfl, f1]; rfl, rfl, f3, hv⟩
          · obtain ⟨e5, g1, g2, g3, g4⟩ := e4 i q' u' c' g
            exact ⟨e5, by rw [Array.getElem?_modify, if_neg (Ne.symm hne)]; exact g1, g2, g3, g4⟩
    · rename_i hf
      simp only [Option.some.injEq] at hu
      subst hu
      rcases vfind_ok es es'.toList 0 _ hlen hrel hf with ⟨_, a2⟩ | ⟨_, _, _, _, _, a1, _⟩
      · refine fin (es'.push { key := k, val := v', born := cl }) (cl + 1) _ ?_ ⟨hd0, _, by show (w.heap.setIfInBounds b1 _)[b1]? = _; rw [Array.getElem?_setIfInBounds_self_of_lt hlt], by simp [e3], ?_⟩
        · unfold Instr.mapUpdate
          simp only [Sem.run_bind, run_underlying hT, Result.andThen_ok, MapKept.run_getObj_map e2, hck, MapKept.run_findKey hK a2, MapKept.run_setObj_map _ e2]
        · intro i q' u' c' hi
          by_cases hlt2 : i < es.length
          · rw [List.getElem?_append_left hlt2] at hi
            obtain ⟨e5, g1, g2, g3, g4⟩ := e4 i q' u' c' hi
            exact ⟨e5, by rw [Array.getElem?_push, if_neg (by omega)]; exact g1, g2, g3, g4⟩
          · rw [List.getElem?_append_right (by omega)] at hi
            have hi0 : i - es.length = 0 := by
              have := (List.getElem?_eq_some_iff.1 hi).1
              simp at this; omega
            rw [hi0] at hi
            simp only [List.getElem?_cons_zero, Option.some.injEq, Prod.mk.injEq] at hi
            obtain ⟨rfl, rfl, rfl⟩ := hi
            exact ⟨_, by rw [Array.getElem?_push, if_pos (by omega)], rfl, rfl, hv⟩
      · cases a1
    · cases hu
/-! #### Ranges over strings -/
def vrange (P : Program) (W : VW) (T : TypeId) (x : Value) : Option (Value × VW) :=
  match P.underlying T, x with
  | some .string, .string s => some (.pointer (some ⟨W.next, 0, none⟩), W.push (.iter s 0))
  | _, _ => none
theorem vrange_ok {β : Place} {W W' : VW} {w : World} (h : Rel P D β W w) {lim : Nat} (hlim : lim ≤ W.next) {T : TypeId} {x x' v : Value} (hx : VR D β x x') (hv : vrange P W T x = some (v, W')) : VOk P D lim β w (Instr.range T x') v W' := by
  unfold vrange at hv
  split at hv
  · rename_i s hT
    simp only [Option.some.injEq, Prod.mk.injEq] at hv
    obtain ⟨rfl, rfl⟩ := hv
    obtain rfl : x' = .string s := pf_eq rfl hx
    have hr := h.alloc hlim (x0 := 0) (.iter s 0) (.stringIter s 0) ⟨rfl, blk_new _ _⟩
    refine ⟨.pointer (some ⟨w.heap.size, 0, none⟩), _, _, ?_, .ptr _ _ _ ?_, hr.1, hr.2⟩
    · simp only [Instr.range, Sem.run_bind, run_underlying hT, Result.andThen_ok, Sem.run_pure]
      rfl
    · unfold AR
      rw [updP_same]
  · cases hv
def vnext (lim : Nat) (W : VW) (it : Value) (str : Bool) : Option (Value × VW) :=
  match it, str with
  | .pointer (some ⟨b, 0, none⟩), true =>
    match W.heap.at b with
    | some (.iter s pos) =>
      bif lim.ble b then
        (bif pos.blt s.size then some (.tuple #[.bool true, .int .i64 pos, .int .i32 (Utf8.decode s pos).1], ⟨W.heap.put b (.iter s (pos + (Utf8.decode s pos).2)), W.next⟩)
        else some (.tuple #[.bool false], W))
      else none
    | _ => none
  | _, _ => none
theorem vnext_ok {β : Place} {W W' : VW} {w : World} (h : Rel P D β W w) {lim : Nat} {it it' v : Value} {str : Bool} {ty : TypeId} (hi : VR D β it it') (hv : vnext lim W it str = some (v, W')) : VOk P D lim β w (Instr.next it' str ty) v W' := by
  unfold vnext at hv
  split at hv
  · rename_i b
    split at hv
    · rename_i s pos hb
      cases hl : lim.ble b with
      | false => rw [hl] at hv; cases hv
      | true =>
        rw [hl] at hv
        simp only [cond_true] at hv
        rw [Nat.ble_eq] at hl
        obtain ⟨b1, d1, x1, e1, hd0, e2⟩ := h.live b _ hb
        obtain rfl : it' = .pointer (some ⟨b1, 0, none⟩) := by
          cases hi with
          | sym _ _ h1 => cases h1
          | ptr _ _ a hA =>
            unfold AR at hA
            rw [e1] at hA
            simp only [hd0] at hA
            rw [hA]
        have hlt : b1 < w.heap.size := blk_lt e2
        cases hp : pos.blt s.size with
        | false =>
          rw [hp] at hv
          simp only [cond_false, Option.some.injEq, Prod.mk.injEq] at hv
          obtain ⟨rfl, rfl⟩ := hv
          have hp' : ¬ pos < s.size := fun hh => by rw [← Nat.blt_eq, hp] at hh; cases hh
          refine VOk.same h (v' := .tuple #[.bool false]) ?_ (pf_vr D β _ rfl)
          simp only [Instr.next, getObj, Sem.run_bind, Sem.run, e2, Result.andThen, if_neg hp']
          rfl
        | true =>
          rw [hp] at hv
          simp only [cond_true, Option.some.injEq, Prod.mk.injEq] at hv
          obtain ⟨rfl, rfl⟩ := hv
          have hp' : pos < s.size := by rwa [Nat.blt_eq] at hp
          have hset : ∀ o, (setObj b1 o).run P w = .ok () { w with heap := w.heap.setIfInBounds b1 o } := fun o => by
            simp only [setObj, Sem.run, e2]
          refine ⟨.tuple #[.bool true, .int .i64 pos, .int .i32 (Utf8.decode s pos).1], { w with heap := w.heap.setIfInBounds b1 (.stringIter s (pos + (Utf8.decode s pos).2)) }, β, ?_, pf_vr D β _ rfl, h.reobj e1 (by simp) (fun k hk _ => by show (w.heap.setIfInBounds b1 _)[k]? = _; rw [Array.getElem?_setIfInBounds_ne (Ne.symm hk)]) ⟨hd0, by show (w.heap.setIfInBounds b1 _)[b1]? = _; rw [Array.getElem?_setIfInBounds_self_of_lt hlt]⟩, LeS.refl _, fun _ _ => rfl, ⟨rfl, rfl, rfl, by simp, fun k hk hn => ?_⟩, fun _ _ ht => ht⟩
          · simp only [Instr.next, getObj, Sem.run_bind, Sem.run, e2, Result.andThen, if_pos hp']
            rw [hset]
            rfl
          · show (w.heap.setIfInBounds b1 _)[k]? = _
            rw [Array.getElem?_setIfInBounds_ne]
            rintro rfl
            exact hn ⟨b, d1, x1, hl, e1⟩
    · cases hv
  · cases hv
/-! #### Bytes to a string -/
def asBytes : List Value → Option (List Int)
  | [] => some []
  | .int .u8 n :: l => (match asBytes l with | some ns => some (n :: ns) | none => none)
  | _ => none
theorem asBytes_eq : ∀ (l : List Value) (ns : List Int), asBytes l = some ns → l = ns.map (Value.int .u8)
  | [], ns, h => by simp only [asBytes, Option.some.injEq] at h; subst h; rfl
  | v :: l, ns, h => by
    unfold asBytes at h
    split at h
    · rename_i e; cases e
    · rename_i n l' e
      simp only [List.cons.injEq] at e
      obtain ⟨rfl, rfl⟩ := e
      split at h
      · rename_i ns' hn
        simp only [Option.some.injEq] at h
        subst h
        rw [asBytes_eq _ _ hn]
        rfl
      · cases h
    · cases h
theorem foldl_push : ∀ (ns : List Int) (s : ByteArray), ns.foldl (fun r n => r.push (UInt8.ofNat n.toNat)) s = ⟨⟨s.data.toList ++ ns.map (fun n => UInt8.ofNat n.toNat)⟩⟩
  | [], s => by cases s with | mk d => simp
  | n :: ns, s => by
    rw [List.foldl_cons, foldl_push ns]
    congr 2
    cases s with | mk d => simp [ByteArray.push]
def vbstr (P : Program) (W : VW) (src dst : TypeId) (x : Value) : Option Value :=
  match P.underlying src, P.underlying dst with
  | some (.slice e), some .string =>
    match P.underlying e, x with
    | some (.int .u8), .slice none 0 0 => some (.string ⟨⟨[]⟩⟩)
    | some (.int .u8), .slice (some ⟨b, o, none⟩) n c =>
      (match vfirst W (n * 1) (.slice (some ⟨b, o, none⟩) n c) with
      | some l => (match asBytes l with | some ns => some (.string ⟨⟨ns.map fun n => UInt8.ofNat n.toNat⟩⟩) | none => none)
      | none => none)
    | _, _ => none
  | _, _ => none
theorem vbstr_ok {β : Place} {W : VW} {w : World} (h : Rel P D β W w) {lim : Nat} {src dst : TypeId} {x x' v : Value} (hx : VR D β x x') (hv : vbstr P W src dst x = some v) : VOk P D lim β w (convert src dst x') v W := by
  unfold vbstr at hv
  split at hv
  rotate_left
  · cases hv
  rename_i e hs hd
  split at hv
  · rename_i he
    simp only [Option.some.injEq] at hv
    subst hv
    obtain rfl : x' = .slice none 0 0 := pf_eq rfl hx
    refine VOk.same h (v' := .string ⟨⟨[]⟩⟩) ?_ (.string _)
    rw [run_convert_bytes_string w src dst e _ _ _ hs he hd]
    rfl
  · rename_i b o n c he
    split at hv
    rotate_left
    · cases hv
    rename_i l hl
    split at hv
    rotate_left
    · cases hv
    rename_i ns hns
    simp only [Option.some.injEq] at hv
    subst hv
    have hl2 := asBytes_eq _ _ hns
    have hpl : pfs l = true := by
      rw [hl2]
      refine pfs_of_mem fun v hv => ?_
      obtain ⟨b, _, rfl⟩ := List.mem_map.1 hv
      rfl
    obtain ⟨l', g1, g2⟩ := vfirst_ok (size := 1) h hx hl
    obtain rfl : l' = l := pfs_eq l l' hpl g2.1 g2.2
    cases hx with
    | sym _ _ h1 => cases h1
    | slice _ _ _ _ cap' a1 hA =>
      refine VOk.same h (v' := .string ⟨⟨ns.map fun n => UInt8.ofNat n.toNat⟩⟩) ?_ (.string _)
      rw [run_convert_bytes_string w src dst e _ _ _ hs he hd, run_bytesToString w a1 n cap' ns ?_, foldl_push]
      · rfl
      · rw [← hl2]
        simpa [Builtin.firstCells] using g1
  · cases hv
end
end Go.Proofs.YtmmpkkpmlaiapaaGreatDoor
