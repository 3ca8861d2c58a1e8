/- A machine to run closed calls: operations that compute, make, read, write. No condition. -/
import Derived.Test.YtednnkhomfabaaaVm2
import Derived.Deep.AppendSrc
import Derived.Great.BuildSlice
namespace Go.Proofs.Ytednnkhomfabaaa
open Go.RowKit
set_option linter.unusedVariables false
/-- a computation that asks nothing of the memory -/
def pureRun {α : Type} (P : Program) : Sem α → Option α
  | .pure a => some a
  | .program k => pureRun P (k P)
  | .mark _ k => pureRun P k
  | _ => none
theorem pureRun_ok {α : Type} {P : Program} : ∀ {s : Sem α} {a : α}, pureRun P s = some a → ∀ w, s.run P w = .ok a w
  | .pure a, b, h, w => by simp only [pureRun, Option.some.injEq] at h; subst h; rfl
  | .program k, b, h, w => pureRun_ok (s := k P) h w
  | .mark _ k, b, h, w => pureRun_ok (s := k) h w
  | .load .., _, h, _ => by simp [pureRun] at h
  | .store .., _, h, _ => by simp [pureRun] at h
  | .new .., _, h, _ => by simp [pureRun] at h
  | .shape .., _, h, _ => by simp [pureRun] at h
  | .freeze .., _, h, _ => by simp [pureRun] at h
  | .frozen .., _, h, _ => by simp [pureRun] at h
  | .getObj .., _, h, _ => by simp [pureRun] at h
  | .setObj .., _, h, _ => by simp [pureRun] at h
  | .choose .., _, h, _ => by simp [pureRun] at h
  | .sys .., _, h, _ => by simp [pureRun] at h
  | .halt .., _, h, _ => by simp [pureRun] at h
/-- what an operation comes to -/
inductive VN where
  | val (v : Value)
  | skip
  | call (f : FuncId) (args : List Value)
section
variable (P : Program) (D : Den)
/-- a computation that is what the machine says -/
def VOk (lim : Nat) (β : Place) (w : World) (s : Sem Value) (v : Value) (W' : VW) : Prop :=
  ∃ v' w' β', s.run P w = .ok v' w' ∧ VR D β' v v' ∧ Rel P D β' W' w' ∧ Ext lim β β' w w'
def NOk (lim : Nat) (β : Place) (w : World) (s : Sem Next) (W : VW) : VN → VW → Prop
  | .val v, W' => ∃ v' w' β', s.run P w = .ok (.value v') w' ∧ VR D β' v v' ∧ Rel P D β' W' w' ∧ Ext lim β β' w w'
  | .skip, W' => ∃ w' β', s.run P w = .ok .skip w' ∧ Rel P D β' W' w' ∧ Ext lim β β' w w'
  | .call f xs, W' => W' = W ∧ ∃ xs', s.run P w = .ok (.enter f xs'.toArray) w ∧ LR D β xs xs'
end
section
variable {P : Program} {D : Den}
/-- a computation that yields the same in every world -/
def AOk (P : Program) (D : Den) (β : Place) (s : Sem Value) (v : Value) : Prop := ∃ v', VR D β v v' ∧ ∀ w, s.run P w = .ok v' w
theorem VOk.next {lim : Nat} {β : Place} {w : World} {s : Sem Value} {v : Value} {W W' : VW} (h : VOk P D lim β w s v W') : NOk P D lim β w (do pure (.value (← s))) W (.val v) W' := by
  obtain ⟨v', w', β', h1, h2, h3, h4⟩ := h
  exact ⟨v', w', β', by simp [h1, Result.andThen], h2, h3, h4⟩
theorem VOk.same {lim : Nat} {β : Place} {W : VW} {w : World} {s : Sem Value} {v v' : Value} (h : Rel P D β W w) (hs : s.run P w = .ok v' w) (hv : VR D β v v') : VOk P D lim β w s v W :=
  ⟨v', w, β, hs, hv, h, Ext.refl _ _ _⟩
theorem AOk.ok {lim : Nat} {β : Place} {W : VW} {w : World} {s : Sem Value} {v : Value} (h : Rel P D β W w) (ha : AOk P D β s v) : VOk P D lim β w s v W :=
  let ⟨v', h1, h2⟩ := ha; VOk.same h (h2 w) h1
theorem LR.of_pfs {β : Place} {l : List Value} (h : pfs l = true) : LR D β l l := ⟨rfl, pfs_vr D β l h⟩
theorem LR.append {β : Place} {a a' b b' : List Value} (h : LR D β a a') (k : LR D β b b') : LR D β (a ++ b) (a' ++ b') := by
  refine ⟨by simp [h.1, k.1], fun i x y hx hy => ?_⟩
  by_cases hi : i < a.length
  · rw [List.getElem?_append_left hi] at hx
    rw [List.getElem?_append_left (by rw [← h.1]; exact hi)] at hy
    exact h.2 i x y hx hy
  · rw [List.getElem?_append_right (by omega)] at hx
    rw [List.getElem?_append_right (by rw [← h.1]; omega)] at hy
    rw [← h.1] at hy
    exact k.2 _ x y hx hy
theorem LR.nil {β : Place} : LR D β [] [] := ⟨rfl, fun i x y h => by simp at h⟩
theorem LR.cons {β : Place} {v v' : Value} {a a' : List Value} (hv : VR D β v v') (h : LR D β a a') : LR D β (v :: a) (v' :: a') := by
  refine ⟨by simp [h.1], fun i x y hx hy => ?_⟩
  cases i with
  | zero => simp at hx hy; subst hx; subst hy; exact hv
  | succ i => exact h.2 i x y (by simpa using hx) (by simpa using hy)
/-! #### New variables -/
def valloc (P : Program) (W : VW) (T : TypeId) : Option (Value × VW) :=
  match P.info? T with
  | some i => (match i.zero with
    | some z => bif pfs z.cells.toList then some (vnew W T z.cells.toList) else none
    | none => none)
  | none => none
theorem vnew_run {β : Place} {W : VW} {w : World} (h : Rel P D β W w) {lim : Nat} (hlim : lim ≤ W.next) {T : TypeId} {l : List Value} {cs : Array Value} (hl : LR D β l cs.toList) :
    VOk P D lim β w (do pure (.pointer (some (← newRow T cs)))) (vnew W T l).1 (vnew W T l).2 := by
  obtain ⟨β', h1, h2, h3⟩ := vnew_ok h hlim (T := T) hl
  refine ⟨.pointer (some ⟨w.heap.size, 0, none⟩), w.alloc (.cells cs T), β', ?_, ?_, h2, h3⟩
  · simp [newRow, Result.andThen]
  · refine .ptr _ _ _ ?_
    unfold AR; rw [h1]
theorem valloc_ok {β : Place} {W W' : VW} {w : World} (h : Rel P D β W w) {lim : Nat} (hlim : lim ≤ W.next) {T : TypeId} {v : Value} (hv : valloc P W T = some (v, W')) :
    VOk P D lim β w (Instr.alloc T true (.tuple #[])) v W' := by
  unfold valloc at hv
  split at hv
  · rename_i i hi
    split at hv
    · rename_i z hz
      cases hp : pfs z.cells.toList with
      | false => rw [hp] at hv; cases hv
      | true =>
        rw [hp] at hv
        simp only [cond_true, Option.some.injEq] at hv
        have := vnew_run h hlim (T := T) (l := z.cells.toList) (cs := z.cells) (LR.of_pfs hp)
        rw [hv] at this
        obtain ⟨v', w', β', g1, g2⟩ := this
        refine ⟨v', w', β', ?_, g2⟩
        rw [← g1]
        simp [Instr.alloc, zeroValue, typeInfo, hi, hz, newVar, Result.andThen]
    · cases hv
  · cases hv
theorem vbox_ok {β : Place} {W : VW} {w : World} (h : Rel P D β W w) {lim : Nat} (hlim : lim ≤ W.next) {T : TypeId} {v v' : Value} (hv : VR D β v v') :
    VOk P D lim β w (Instr.box T v') (vnew W T v.cells.toList).1 (vnew W T v.cells.toList).2 := by
  have := vnew_run h hlim (T := T) (l := v.cells.toList) (cs := v'.cells) hv.cells
  exact this
/-! #### Structs and arrays as values -/
theorem lr_set {β : Place} {a a' : Array Value} (h : LR D β a.toList a'.toList) {v v' : Value} (hv : VR D β v v') (k : Nat) : LR D β (a.setIfInBounds k v).toList (a'.setIfInBounds k v').toList := by
  refine ⟨by simpa using h.1, fun i x y hx hy => ?_⟩
  simp only [Array.toList_setIfInBounds] at hx hy
  by_cases hik : i = k
  · subst hik
    rw [List.getElem?_set] at hx hy
    simp only [if_true] at hx hy
    split at hx
    · split at hy
      · simp at hx hy; subst hx; subst hy; exact hv
      · cases hy
    · cases hx
  · rw [List.getElem?_set_ne (Ne.symm hik)] at hx hy
    exact h.2 i x y hx hy
theorem lr_fold {β : Place} : ∀ (l l' : List Value) (off j : Nat) (a a' : Array Value), LR D β l l' → LR D β a.toList a'.toList →
    LR D β ((l.zipIdx j).foldl (fun cs (c, j) => cs.setIfInBounds (off + j) c) a).toList ((l'.zipIdx j).foldl (fun cs (c, j) => cs.setIfInBounds (off + j) c) a').toList
  | [], [], _, _, _, _, _, h => h
  | [], _ :: _, _, _, _, _, hl, _ => by have := hl.1; simp at this
  | _ :: _, [], _, _, _, _, hl, _ => by have := hl.1; simp at this
  | v :: l, v' :: l', off, j, a, a', hl, h => by
    simp only [List.zipIdx_cons, List.foldl_cons]
    exact lr_fold l l' off (j + 1) _ _ ⟨by simpa using hl.1, fun i x y hx hy => hl.2 (i + 1) x y (by simpa using hx) (by simpa using hy)⟩ (lr_set h (hl.2 0 v v' rfl rfl) _)
/-- parts with their numbers -/
def PR (D : Den) (β : Place) (xs ys : List (Nat × Value)) : Prop := xs.map (·.1) = ys.map (·.1) ∧ LR D β (xs.map (·.2)) (ys.map (·.2))
theorem fill_ok {β : Place} {place : Nat → Option (Nat × Nat)} : ∀ (ps ps' : List (Nat × Value)) (a a' b : Array Value), PR D β ps ps' → LR D β a.toList a'.toList → Instr.fill place a ps = some b →
    ∃ b', Instr.fill place a' ps' = some b' ∧ LR D β b.toList b'.toList
  | [], [], a, a', b, _, h, hf => by
    simp only [Instr.fill, Option.some.injEq] at hf
    subst hf
    exact ⟨a', rfl, h⟩
  | [], _ :: _, _, _, _, hp, _, _ => by have := hp.1; simp at this
  | _ :: _, [], _, _, _, hp, _, _ => by have := hp.1; simp at this
  | (i, v) :: ps, (i', v') :: ps', a, a', b, hp, h, hf => by
    have hi : i = i' := by have := hp.1; simp at this; exact this.1
    subst hi
    have hv : VR D β v v' := hp.2.2 0 v v' rfl rfl
    have hp' : PR D β ps ps' := ⟨by have := hp.1; simp at this; exact this, ⟨by have := hp.2.1; simpa using this, fun i x y hx hy => hp.2.2 (i + 1) x y (by simpa using hx) (by simpa using hy)⟩⟩
    have hc := hv.cells
    have hcs : v'.cells.size = v.cells.size := by have := hc.1; simp at this; exact this.symm
    have has : a'.size = a.size := by have := h.1; simp at this; exact this.symm
    unfold Instr.fill at hf ⊢
    cases hpl : place i with
    | none => rw [hpl] at hf; cases hf
    | some q =>
      obtain ⟨off, size⟩ := q
      rw [hpl] at hf
      simp only [] at hf ⊢
      rw [hcs, has]
      split at hf
      · cases hf
      · rename_i hb
        rw [if_neg hb]
        refine fill_ok ps ps' _ _ b hp' ?_ hf
        have := lr_fold v.cells.toList v'.cells.toList off 0 a a' hc h
        have e : ∀ c a : Array Value, c.zipIdx.foldl (fun cs (x : Value × Nat) => cs.setIfInBounds (off + x.2) x.1) a = (c.toList.zipIdx).foldl (fun cs (x : Value × Nat) => cs.setIfInBounds (off + x.2) x.1) a := fun c a => by
          rw [← Array.foldl_toList, Array.toList_zipIdx]
        have e1 := e v.cells a
        have e2 := e v'.cells a'
        rw [← e1, ← e2] at this
        exact this
def zeroPf (P : Program) (T : TypeId) : Bool :=
  match P.info? T with
  | some i => (match i.zero with | some z => pfs z.cells.toList | none => false)
  | none => false
def vbuild (P : Program) (T : TypeId) (ps : List (Nat × Value)) : Option Value :=
  bif zeroPf P T then (match P.built T ps with | some cs => some (.agg cs) | none => none) else none
theorem built_ok {β : Place} {T : TypeId} {ps ps' : List (Nat × Value)} {cs : Array Value} (hz : zeroPf P T = true) (hp : PR D β ps ps') (h : P.built T ps = some cs) : ∃ cs', P.built T ps' = some cs' ∧ LR D β cs.toList cs'.toList := by
  unfold Program.built at h ⊢
  unfold zeroPf at hz
  cases hit : P.info? T with
  | none => rw [hit] at hz; cases hz
  | some it =>
    rw [hit] at hz
    simp only [] at hz
    cases hzz : it.zero with
    | none => rw [hzz] at hz; cases hz
    | some z =>
      rw [hzz] at hz
      simp only [] at hz
      rw [hit] at h
      cases hu : P.underlying T with
      | none => rw [hu] at h; cases h
      | some d =>
        rw [hu] at h
        cases d <;> simp only [] at h ⊢ <;> try cases h
        · rename_i n e
          rw [hzz] at h ⊢
          cases hie : P.info? e with
          | none => rw [hie] at h; cases h
          | some ie =>
            rw [hie] at h
            exact fill_ok ps ps' _ _ cs hp (LR.of_pfs hz) h
        · rename_i fields
          rw [hzz] at h ⊢
          cases hm : fields.toList.mapM (fun f => (P.info? f.type).map fun i => (f.offset, i.size)) with
          | none => rw [hm] at h; cases h
          | some places =>
            rw [hm] at h
            exact fill_ok ps ps' _ _ cs hp (LR.of_pfs hz) h
theorem vbuild_all {β : Place} {T : TypeId} {ps ps' : List (Nat × Value)} {v : Value} (hp : PR D β ps ps') (hv : vbuild P T ps = some v) :
    AOk P D β (Instr.build T ps'.toArray) v := by
  unfold vbuild at hv
  cases hz : zeroPf P T with
  | false => rw [hz] at hv; cases hv
  | true =>
    rw [hz] at hv
    simp only [cond_true] at hv
    cases hb : P.built T ps with
    | none => rw [hb] at hv; cases hv
    | some cs =>
      rw [hb] at hv
      simp only [Option.some.injEq] at hv
      subst hv
      obtain ⟨cs', h1, h2⟩ := built_ok hz hp hb
      exact ⟨.agg cs', .agg cs.toList cs'.toList h2.1 h2.2, fun w => run_build w T ps'.toArray cs' (by simpa using h1)⟩
theorem vbuild_ok {β : Place} {W : VW} {w : World} (h : Rel P D β W w) {lim : Nat} {T : TypeId} {ps ps' : List (Nat × Value)} {v : Value} (hp : PR D β ps ps') (hv : vbuild P T ps = some v) :
    VOk P D lim β w (Instr.build T ps'.toArray) v W := (vbuild_all hp hv).ok h
def zeros (z : List Value) : Nat → List Value
  | 0 => []
  | n + 1 => zeros z n ++ z
def vbuildSlice (P : Program) (W : VW) (T : TypeId) (len : Nat) (ps : List (Nat × Value)) : Option (Value × VW) :=
  match P.underlying T with
  | some (.slice e) =>
    match P.info? e with
    | some ie =>
      match ie.zero with
      | some z =>
        bif (len * ie.size).beq 0 || !(len * ie.size).ble (2 ^ 24) || !pfs z.cells.toList || z.cells.size.beq 0 then none else
          match Instr.fill (fun i => some (i * ie.size, ie.size)) ((Array.range (len * ie.size)).map (z.cells[· % z.cells.size]!)) ps with
          | some cs => some (.slice (some ⟨W.next, 0, none⟩) len len, (vnew W e cs.toList).2)
          | none => none
      | none => none
    | none => none
  | _ => none
theorem pfs_mem : ∀ {l : List Value}, pfs l = true → ∀ v ∈ l, pf v = true
  | [], _, v, h => by cases h
  | x :: l, hp, v, h => by
    simp only [pfs, Bool.and_eq_true] at hp
    rcases List.mem_cons.1 h with rfl | h'
    · exact hp.1
    · exact pfs_mem hp.2 v h'
theorem pfs_of_mem : ∀ {l : List Value}, (∀ v ∈ l, pf v = true) → pfs l = true
  | [], _ => rfl
  | x :: l, h => by
    simp only [pfs, Bool.and_eq_true]
    exact ⟨h x List.mem_cons_self, pfs_of_mem fun v hv => h v (List.mem_cons_of_mem _ hv)⟩
theorem pfs_cycle {z : Array Value} (hp : pfs z.toList = true) (hz : z.size ≠ 0) (n : Nat) : pfs ((Array.range n).map (z[· % z.size]!)).toList = true := by
  refine pfs_of_mem fun v hv => ?_
  simp only [Array.toList_map, List.mem_map] at hv
  obtain ⟨i, _, rfl⟩ := hv
  have hlt : i % z.size < z.size := Nat.mod_lt _ (by omega)
  refine pfs_mem hp _ ?_
  rw [getElem!_pos z _ hlt]
  simp
theorem vbuildSlice_ok {β : Place} {W W' : VW} {w : World} (h : Rel P D β W w) {lim : Nat} (hlim : lim ≤ W.next) {T : TypeId} {len : Nat} {ps ps' : List (Nat × Value)} {v : Value} (hp : PR D β ps ps') (hv : vbuildSlice P W T len ps = some (v, W')) :
    VOk P D lim β w (Instr.buildSlice T len ps'.toArray) v W' := by
  unfold vbuildSlice at hv
  split at hv
  · rename_i e hu
    split at hv
    · rename_i ie hie
      split at hv
      · rename_i z hz
        cases hc : ((len * ie.size).beq 0 || !(len * ie.size).ble (2 ^ 24) || !pfs z.cells.toList || z.cells.size.beq 0) with
        | true => rw [hc] at hv; cases hv
        | false =>
          rw [hc] at hv
          simp only [cond_false] at hv
          simp only [Bool.or_eq_false_iff, Bool.not_eq_false'] at hc
          obtain ⟨⟨⟨c1, c2⟩, c3⟩, c4⟩ := hc
          have c1' : ¬ len * ie.size = 0 := fun e => by rw [e] at c1; cases c1
          have c4' : z.cells.size ≠ 0 := fun e => by rw [e] at c4; cases c4
          have c2' : ¬ len * ie.size > 2 ^ 24 := by have := Nat.le_of_ble_eq_true c2; omega
          split at hv
          · rename_i cs hf
            simp only [Option.some.injEq, Prod.mk.injEq] at hv
            obtain ⟨rfl, rfl⟩ := hv
            obtain ⟨cs', f1, f2⟩ := fill_ok ps ps' _ _ cs hp (LR.of_pfs (pfs_cycle c3 c4' (len * ie.size))) hf
            obtain ⟨β', g1, g2, g3⟩ := vnew_ok h hlim (T := e) f2
            refine ⟨.slice (some ⟨w.heap.size, 0, none⟩) len len, w.alloc (.cells cs' e), β', ?_, ?_, g2, g3⟩
            · exact run_buildSlice w T e len ps'.toArray cs' ie z hu hie hz c2' c1' (by simpa using f1)
            · refine .slice _ _ _ _ _ _ ?_ ?_ (Nat.le_refl _)
              · unfold AR; rw [g1]
              · unfold CR; rw [g1]; exact ⟨0, Nat.le_refl _, rfl⟩
          · cases hv
      · cases hv
    · cases hv
  · cases hv
/-! #### Parts -/
def vpart (P : Program) (T : TypeId) (cs : List Value) (off : Nat) : Option Value :=
  match aggSize P T with
  | some (some m) => some (.agg (cs.toArray.extract off (off + m)))
  | some none => cs[off]?
  | none => none
theorem vpart_ok {β : Place} {T : TypeId} {cs cs' : List Value} {off : Nat} {v : Value} (h : LR D β cs cs') (hv : vpart P T cs off = some v) : AOk P D β (part T cs'.toArray off) v := by
  unfold vpart at hv
  split at hv
  · rename_i m hm
    simp only [Option.some.injEq] at hv
    subst hv
    refine ⟨.agg (cs'.toArray.extract off (off + m)), ?_, fun w => (by
      obtain ⟨g1, g2⟩ := agg_run hm w
      simp [part, g1, g2 m rfl, Result.andThen])⟩
    have e : ∀ l : List Value, l.toArray.extract off (off + m) = ((l.drop off).take m).toArray := fun l => by simp [List.extract_eq_take_drop]
    rw [e, e]
    refine .agg _ _ (by simp [h.1]) fun i x y hx hy => ?_
    by_cases hi : i < m
    · rw [List.getElem?_take_of_lt hi, List.getElem?_drop] at hx hy
      exact h.2 _ x y hx hy
    · rw [List.getElem?_take_eq_none (by omega)] at hx
      cases hx
  · rename_i hm
    have hlt : off < cs.length := (List.getElem?_eq_some_iff.1 hv).1
    have hlt' : off < cs'.length := by rw [← h.1]; exact hlt
    refine ⟨cs'[off], h.2 off v _ hv (List.getElem?_eq_getElem hlt'), fun w => (by
      obtain ⟨g1, g2⟩ := agg_run hm w
      simp [part, g1, Result.andThen, hlt'])⟩
  · cases hv
def vfield (P : Program) (T : TypeId) (v : Value) (f : Nat) : Option Value :=
  match v, P.underlying T with
  | .agg cs, some (.struct fields) => (match fields.toList[f]? with | some fd => vpart P fd.type cs.toList fd.offset | none => none)
  | _, _ => none
theorem vfield_all {β : Place} {T : TypeId} {v v' u : Value} {f : Nat} (hv : VR D β v v') (hf : vfield P T v f = some u) : AOk P D β (Instr.field T v' f) u := by
  unfold vfield at hf
  split at hf
  · rename_i cs fields hu
    cases hv with
    | sym _ _ h1 => cases h1
    | agg xs ys e1 e2 =>
      split at hf
      · rename_i fd hfd
        obtain ⟨u', g2, g1⟩ := vpart_ok (show LR D β xs ys from ⟨e1, e2⟩) hf
        refine ⟨u', g2, fun w => ?_⟩
        have hfd' : fields[f]? = some fd := by simpa using hfd
        simp [Instr.field, run_underlying hu, Result.andThen, hfd', asAgg, g1]
      · cases hf
  · cases hf
theorem vfield_ok {β : Place} {W : VW} {w : World} (h : Rel P D β W w) {lim : Nat} {T : TypeId} {v v' u : Value} {f : Nat} (hv : VR D β v v') (hf : vfield P T v f = some u) : VOk P D lim β w (Instr.field T v' f) u W := (vfield_all hv hf).ok h
def vindex (P : Program) (T : TypeId) (v i : Value) : Option Value :=
  match v, i, P.underlying T with
  | .agg cs, .int _ k, some (.array len e) =>
    match P.info? e with
    | some ie => bif decide (0 ≤ k) && decide (k < len) then vpart P e cs.toList (k.toNat * ie.size) else none
    | none => none
  | _, _, _ => none
theorem vindex_all {β : Place} {T : TypeId} {v v' i i' u : Value} (hv : VR D β v v') (hi : VR D β i i') (hf : vindex P T v i = some u) : AOk P D β (Instr.index T v' i') u := by
  unfold vindex at hf
  split at hf
  · rename_i cs kk k len e hu
    cases hi with
    | sym _ _ h1 => cases h1
    | int =>
      cases hv with
      | sym _ _ h1 => cases h1
      | agg xs ys e1 e2 =>
        split at hf
        · rename_i ie hie
          cases hc : (decide (0 ≤ k) && decide (k < (len : Int))) with
          | false => rw [hc] at hf; cases hf
          | true =>
            rw [hc] at hf
            simp only [cond_true] at hf
            simp only [Bool.and_eq_true, decide_eq_true_eq] at hc
            obtain ⟨u', g2, g1⟩ := vpart_ok (show LR D β xs ys from ⟨e1, e2⟩) hf
            refine ⟨u', g2, fun w => ?_⟩
            have hs := sizeOf_run hie w
            have hie' : P.cellsOf e = ie.size := by simp [Program.cellsOf, hie]
            rw [hie'] at hs
            simp [Instr.index, asIntOf, run_underlying hu, Result.andThen, hc.1, hc.2, hs, g1]
        · cases hf
  · cases hf
theorem vindex_ok {β : Place} {W : VW} {w : World} (h : Rel P D β W w) {lim : Nat} {T : TypeId} {v v' i i' u : Value} (hv : VR D β v v') (hi : VR D β i i') (hf : vindex P T v i = some u) : VOk P D lim β w (Instr.index T v' i') u W := (vindex_all hv hi hf).ok h
end
end Go.Proofs.Ytednnkhomfabaaa
