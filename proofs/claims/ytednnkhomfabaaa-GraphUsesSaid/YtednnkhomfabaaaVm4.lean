/- A machine to run closed calls: addresses, slices, append, copy. No condition. -/
import Derived.Test.YtednnkhomfabaaaVm3
import Derived.Deep.Upon
import Derived.Laws.BytesString
namespace Go.Proofs.Ytednnkhomfabaaa
open Go.RowKit
set_option linter.unusedVariables false
section
variable {P : Program} {D : Den}
theorem AR.add {β : Place} {b o : Nat} {a : Addr} (h : AR β b o a) (n : Nat) : AR β b (o + n) (a.add n) := by
  unfold AR at *
  cases hb : β b with
  | unborn => rw [hb] at h; exact h
  | dead => trivial
  | live c d x =>
    rw [hb] at h
    simp only [] at h ⊢
    rw [h, addr_add]
    congr 1
    omega
def vfieldAt (P : Program) (T : TypeId) (a : Value) (f : Nat) : Option Value :=
  match a, P.underlying T with
  | .pointer (some ⟨i, o, none⟩), some (.struct fields) =>
    match fields.toList[f]? with
    | some fd => (match P.info? fd.type with | some inf => bif inf.size.beq 0 then none else some (.pointer (some ⟨i, o + fd.offset, none⟩)) | none => none)
    | none => none
  | _, _ => none
theorem vfieldAt_all {β : Place} {T : TypeId} {a a' u : Value} {f : Nat} (ha : VR D β a a') (hf : vfieldAt P T a f = some u) : AOk P D β (Instr.fieldAt T a' f) u := by
  unfold vfieldAt at hf
  split at hf
  · rename_i i o fields hu
    cases ha with
    | sym _ _ h1 => cases h1
    | ptr _ _ a1 hA =>
      split at hf
      · rename_i fd hfd
        split at hf
        · rename_i inf hinf
          cases hz : inf.size.beq 0 with
          | true => rw [hz] at hf; cases hf
          | false =>
            rw [hz] at hf
            simp only [cond_false, Option.some.injEq] at hf
            subst hf
            have hz' : ¬ inf.size = 0 := fun e => by rw [e] at hz; cases hz
            have hfd' : fields[f]? = some fd := by simpa using hfd
            refine ⟨.pointer (some (a1.add fd.offset)), .ptr _ _ _ (hA.add _), fun w => ?_⟩
            have hs := sizeOf_run hinf w
            have hie' : P.cellsOf fd.type = inf.size := by simp [Program.cellsOf, hinf]
            rw [hie'] at hs
            simp [Instr.fieldAt, run_underlying hu, Result.andThen, hfd', Instr.sureAddr, fieldPlace, hs, hz']
        · cases hf
      · cases hf
  · cases hf
theorem vfieldAt_ok {β : Place} {W : VW} {w : World} (h : Rel P D β W w) {lim : Nat} {T : TypeId} {a a' u : Value} {f : Nat} (ha : VR D β a a') (hf : vfieldAt P T a f = some u) : VOk P D lim β w (Instr.fieldAt T a' f) u W := (vfieldAt_all ha hf).ok h
def vindexAt (P : Program) (T : TypeId) (a i : Value) : Option Value :=
  match a, i, P.underlying T with
  | .pointer (some ⟨b, o, none⟩), .int _ k, some (.array len e) =>
    (match P.info? e with
    | some ie => bif decide (0 ≤ k) && decide (k < len) then some (.pointer (some ⟨b, o + k.toNat * ie.size, none⟩)) else none
    | none => none)
  | .slice (some ⟨b, o, none⟩) len _, .int _ k, some (.slice e) =>
    (match P.info? e with
    | some ie => bif decide (0 ≤ k) && decide (k < len) then some (.pointer (some ⟨b, o + k.toNat * ie.size, none⟩)) else none
    | none => none)
  | _, _, _ => none
theorem vindexAt_all {β : Place} {T : TypeId} {a a' i i' u : Value} (ha : VR D β a a') (hi : VR D β i i') (hf : vindexAt P T a i = some u) : AOk P D β (Instr.indexAt T a' i') u := by
  unfold vindexAt at hf
  split at hf
  · rename_i b o kk k len e hu
    cases hi with
    | sym _ _ h1 => cases h1
    | int =>
      cases ha with
      | sym _ _ h1 => cases h1
      | ptr _ _ a1 hA =>
        split at hf
        · rename_i ie hie
          cases hc : (decide (0 ≤ k) && decide (k < (len : Int))) with
          | false => rw [hc] at hf; cases hf
          | true =>
            rw [hc] at hf
            simp only [cond_true, Option.some.injEq] at hf
            subst hf
            simp only [Bool.and_eq_true, decide_eq_true_eq] at hc
            refine ⟨.pointer (some (a1.add (k.toNat * ie.size))), .ptr _ _ _ (hA.add _), fun w => ?_⟩
            have hs := sizeOf_run hie w
            have hie' : P.cellsOf e = ie.size := by simp [Program.cellsOf, hie]
            rw [hie'] at hs
            simp [Instr.indexAt, asIntOf, run_underlying hu, Result.andThen, Instr.sureAddr, hc.1, hc.2, hs]
        · cases hf
  · rename_i b o len cap kk k e hu
    cases hi with
    | sym _ _ h1 => cases h1
    | int =>
      cases ha with
      | sym _ _ h1 => cases h1
      | slice _ _ _ _ cap' a1 hA =>
        split at hf
        · rename_i ie hie
          cases hc : (decide (0 ≤ k) && decide (k < (len : Int))) with
          | false => rw [hc] at hf; cases hf
          | true =>
            rw [hc] at hf
            simp only [cond_true, Option.some.injEq] at hf
            subst hf
            simp only [Bool.and_eq_true, decide_eq_true_eq] at hc
            refine ⟨.pointer (some (a1.add (k.toNat * ie.size))), .ptr _ _ _ (hA.add _), fun w => ?_⟩
            have hs := sizeOf_run hie w
            have hie' : P.cellsOf e = ie.size := by simp [Program.cellsOf, hie]
            rw [hie'] at hs
            simp [Instr.indexAt, asIntOf, run_underlying hu, Result.andThen, hc.1, hc.2, hs]
        · cases hf
  · cases hf
theorem vindexAt_ok {β : Place} {W : VW} {w : World} (h : Rel P D β W w) {lim : Nat} {T : TypeId} {a a' i i' u : Value} (ha : VR D β a a') (hi : VR D β i i') (hf : vindexAt P T a i = some u) : VOk P D lim β w (Instr.indexAt T a' i') u W := (vindexAt_all ha hi hf).ok h
/-! #### Slices of slices -/
def vbound (lo : Option Value) (dflt : Nat) : Option Nat :=
  match lo with
  | none => some dflt
  | some (.int _ k) => bif decide (0 ≤ k) then some k.toNat else none
  | _ => none
def alive (W : VW) (b : Nat) : Bool :=
  match W.heap.at b with
  | some _ => true
  | none => false
def vslice (P : Program) (W : VW) (T : TypeId) (x : Value) (lo hi : Option Value) : Option Value :=
  match x, P.underlying T with
  | .slice (some ⟨b, o, none⟩) len cap, some (.slice e) =>
    match P.info? e, vbound lo 0, vbound hi len with
    | some ie, some l, some h =>
      bif alive W b && l.ble h && h.ble cap then
        (bif cap.beq l then some (.slice (some ⟨b, o, some 0⟩) 0 0) else some (.slice (some ⟨b, o + l * ie.size, none⟩) (h - l) (cap - l))) else none
    | _, _, _ => none
  | .pointer (some ⟨b, o, none⟩), some (.array n e) =>
    match P.info? e, vbound lo 0, vbound hi n with
    | some ie, some l, some h =>
      bif alive W b && l.ble h && h.ble n then
        (bif n.beq l then some (.slice (some ⟨b, o, some 0⟩) 0 0) else some (.slice (some ⟨b, o + l * ie.size, none⟩) (h - l) (n - l))) else none
    | _, _, _ => none
  | _, _ => none
def OR (D : Den) (β : Place) : Option Value → Option Value → Prop
  | none, none => True
  | some v, some v' => VR D β v v'
  | _, _ => False
theorem vbound_ok {β : Place} {lo lo' : Option Value} {dflt l : Nat} (h : OR D β lo lo') (hv : vbound lo dflt = some l) : (lo = none ∧ lo' = none ∧ l = dflt) ∨ ∃ k i, lo' = some (.int k i) ∧ 0 ≤ i ∧ l = i.toNat := by
  unfold vbound at hv
  split at hv
  · cases lo' with
    | none => simp only [Option.some.injEq] at hv; exact Or.inl ⟨rfl, rfl, hv.symm⟩
    | some v => exact h.elim
  · rename_i k i
    cases lo' with
    | none => exact h.elim
    | some v' =>
      have h' : VR D β (.int k i) v' := h
      cases h' with
      | sym _ _ h1 => cases h1
      | int =>
        cases hc : decide (0 ≤ i) with
        | false => rw [hc] at hv; cases hv
        | true =>
          rw [hc] at hv
          simp only [cond_true, Option.some.injEq] at hv
          exact Or.inr ⟨k, i, rfl, by simpa using hc, hv.symm⟩
  · cases hv
theorem sliceBound_run {w : World} {k : IntKind} {i : Int} {y : Nat} {c : BoundsCode} (h0 : 0 ≤ i) (h1 : i.toNat ≤ y) : (Instr.sliceBound (.int k i) y c).run P w = .ok i.toNat w := by
  have : i ≤ (y : Int) := by omega
  simp [Instr.sliceBound, asIntOf, h0, this]
theorem sliceBounds_run {β : Place} {w : World} {lo lo' hi hi' : Option Value} {len cap cap' l h : Nat} {b : Bool} (hl : OR D β lo lo') (hh : OR D β hi hi') (hvl : vbound lo 0 = some l) (hvh : vbound hi len = some h) (h1 : l ≤ h) (h2 : h ≤ cap) (h3 : cap ≤ cap') :
    (Instr.sliceBounds b len cap' lo' hi' none).run P w = .ok (l, h, cap') w := by
  have e1 : ((match hi' with
    | some v => Instr.sliceBound v cap' (if b then .sliceAcap else .sliceAlen)
    | none => pure len) : Sem Nat).run P w = .ok h w := by
    rcases vbound_ok hh hvh with ⟨_, rfl, rfl⟩ | ⟨k, i, rfl, i0, rfl⟩
    · rfl
    · exact sliceBound_run i0 (by omega)
  have e2 : ((match lo' with
    | some v => Instr.sliceBound v h .sliceB
    | none => pure 0) : Sem Nat).run P w = .ok l w := by
    rcases vbound_ok hl hvl with ⟨_, rfl, rfl⟩ | ⟨k, i, rfl, i0, rfl⟩
    · rfl
    · exact sliceBound_run i0 (by omega)
  unfold Instr.sliceBounds
  rcases vbound_ok hh hvh with ⟨_, rfl, rfl⟩ | ⟨k, i, rfl, i0, rfl⟩ <;> rcases vbound_ok hl hvl with ⟨_, rfl, rfl⟩ | ⟨k', i', rfl, i0', rfl⟩ <;> simp only [Sem.run_bind, Sem.run_pure, Result.andThen] at * <;> simp [e1, e2]
theorem vslice_ok {β : Place} {W : VW} {w : World} (h : Rel P D β W w) {lim : Nat} {T : TypeId} {x x' u : Value} {lo lo' hi hi' : Option Value} (hx : VR D β x x') (hl : OR D β lo lo') (hh : OR D β hi hi') (hf : vslice P W T x lo hi = some u) :
    VOk P D lim β w (Instr.sliceAt T x' lo' hi' none) u W := by
  unfold vslice at hf
  split at hf
  · rename_i b o len cap e hu
    split at hf
    · rename_i ie l hh1 hie hvl hvh
      cases hc : (alive W b && l.ble hh1 && hh1.ble cap) with
      | false => rw [hc] at hf; cases hf
      | true =>
        rw [hc] at hf
        simp only [cond_true] at hf
        simp only [Bool.and_eq_true, Nat.ble_eq] at hc
        obtain ⟨⟨c1, c2⟩, c3⟩ := hc
        cases hx with
        | sym _ _ h1 => cases h1
        | slice _ _ _ _ cap' a1 hA hC hle =>
          have hlive : ∃ b1 d x, β b = .live b1 d x := by
            unfold alive at c1
            split at c1
            · rename_i ob hb
              obtain ⟨b1, d, x, e1, _⟩ := h.live b _ hb
              exact ⟨b1, d, x, e1⟩
            · cases c1
          obtain ⟨b1, d, xx, e1⟩ := hlive
          have hC' := hC
          unfold CR at hC'
          rw [e1] at hC'
          simp only [] at hC'
          obtain ⟨dd, hd1, rfl⟩ := hC'
          have hs := sizeOf_run hie w
          have hie' : P.cellsOf e = ie.size := by simp [Program.cellsOf, hie]
          rw [hie'] at hs
          have hb := sliceBounds_run (P := P) (w := w) (b := true) (cap' := cap + dd) hl hh hvl hvh c2 c3 (by omega)
          refine VOk.same h (v' := .slice (if cap + dd = l then some a1 else some (a1.add (l * ie.size))) (hh1 - l) (cap + dd - l)) ?_ ?_
          · simp [Instr.sliceAt, Instr.slice, run_underlying hu, Result.andThen, hb, hs]
          · cases hcl : cap.beq l with
            | true =>
              rw [hcl] at hf
              simp only [cond_true, Option.some.injEq] at hf
              subst hf
              have e2 := Nat.eq_of_beq_eq_true hcl
              subst e2
              have e3 : hh1 = cap := by omega
              subst e3
              rw [Nat.sub_self]
              split <;> exact .slice0 _ _ _ _ _
            | false =>
              rw [hcl] at hf
              simp only [cond_false, Option.some.injEq] at hf
              subst hf
              have e2 : ¬ cap = l := fun e => by rw [e, Nat.beq_refl] at hcl; cases hcl
              rw [if_neg (by omega)]
              refine .slice _ _ _ _ _ _ (hA.add _) ?_ (by omega)
              unfold CR
              rw [e1]
              exact ⟨dd, hd1, by omega⟩
    · cases hf
  · rename_i b o n e hu
    split at hf
    · rename_i ie l hh1 hie hvl hvh
      cases hc : (alive W b && l.ble hh1 && hh1.ble n) with
      | false => rw [hc] at hf; cases hf
      | true =>
        rw [hc] at hf
        simp only [cond_true] at hf
        simp only [Bool.and_eq_true, Nat.ble_eq] at hc
        obtain ⟨⟨c1, c2⟩, c3⟩ := hc
        cases hx with
        | sym _ _ h1 => cases h1
        | ptr _ _ a1 hA =>
          have hs := sizeOf_run hie w
          have hie' : P.cellsOf e = ie.size := by simp [Program.cellsOf, hie]
          rw [hie'] at hs
          have hb := sliceBounds_run (P := P) (w := w) (b := false) (cap' := n) hl hh hvl hvh c2 c3 (Nat.le_refl _)
          refine VOk.same h (v' := .slice (some (if n = l then a1 else a1.add (l * ie.size))) (hh1 - l) (n - l)) ?_ ?_
          · simp [Instr.sliceAt, run_underlying hu, Result.andThen, Instr.sureAddr, hb, hs]
          · cases hcl : n.beq l with
            | true =>
              rw [hcl] at hf
              simp only [cond_true, Option.some.injEq] at hf
              subst hf
              have e2 := Nat.eq_of_beq_eq_true hcl
              subst e2
              have e3 : hh1 = n := by omega
              subst e3
              rw [Nat.sub_self]
              exact .slice0 _ _ _ _ _
            | false =>
              rw [hcl] at hf
              simp only [cond_false, Option.some.injEq] at hf
              subst hf
              have e2 : ¬ n = l := fun e => by rw [e, Nat.beq_refl] at hcl; cases hcl
              rw [if_neg (by omega)]
              refine .slice _ _ _ _ _ _ (hA.add _) ?_ (by omega)
              unfold CR
              split
              · exact ⟨0, Nat.zero_le _, rfl⟩
              · trivial
    · cases hf
  · cases hf
/-! #### make -/
def vmake (P : Program) (W : VW) (T : TypeId) (l c : Value) : Option (Value × VW) :=
  match l, c, P.underlying T with
  | .int _ l, .int _ c, some (.slice e) =>
    match P.info? e with
    | some ie =>
      match ie.zero with
      | some z =>
        bif decide (0 ≤ l) && decide (l ≤ c) && (c.toNat * ie.size).ble 16777216 && decide ((ie.bytes : Int) * c ≤ 281474976710656) && decide (c ≤ 9223372036854775807) && pfs z.cells.toList && !z.cells.size.beq 0 then
          some (.slice (some ⟨W.next, 0, none⟩) l.toNat c.toNat, (vnew W e (madeCells z.cells (c.toNat * ie.size)).toList).2) else none
      | none => none
    | none => none
  | _, _, _ => none
theorem vmake_ok {β : Place} {W W' : VW} {w : World} (h : Rel P D β W w) {lim : Nat} (hlim : lim ≤ W.next) {T : TypeId} {l l' c c' v : Value} (hl : VR D β l l') (hc : VR D β c c') (hv : vmake P W T l c = some (v, W')) :
    VOk P D lim β w (Instr.makeSlice T l' c') v W' := by
  unfold vmake at hv
  split at hv
  · rename_i kl li kc ci e hu
    cases hl with
    | sym _ _ h1 => cases h1
    | int =>
      cases hc with
      | sym _ _ h1 => cases h1
      | int =>
        split at hv
        · rename_i ie hie
          split at hv
          · rename_i z hz
            cases hb : (decide (0 ≤ li) && decide (li ≤ ci) && (ci.toNat * ie.size).ble 16777216 && decide ((ie.bytes : Int) * ci ≤ 281474976710656) && decide (ci ≤ 9223372036854775807) && pfs z.cells.toList && !z.cells.size.beq 0) with
            | false => rw [hb] at hv; cases hv
            | true =>
              rw [hb] at hv
              simp only [cond_true, Option.some.injEq, Prod.mk.injEq] at hv
              obtain ⟨rfl, rfl⟩ := hv
              simp only [Bool.and_eq_true, Bool.not_eq_true', decide_eq_true_eq, Nat.ble_eq] at hb
              obtain ⟨⟨⟨⟨⟨⟨b1, b2⟩, b3⟩, b4⟩, b5⟩, b6⟩, b7⟩ := hb
              have b7' : z.cells.size ≠ 0 := fun e => by rw [e] at b7; cases b7
              obtain ⟨β', g1, g2, g3⟩ := vnew_ok h hlim (T := e) (LR.of_pfs (D := D) (pfs_cycle b6 b7' (ci.toNat * ie.size)))
              refine ⟨_, _, β', run_makeSlice w T e ie z hu hie hz kl kc li ci b1 b2 b3 b4 b5, ?_, g2, g3⟩
              refine .slice _ _ _ _ _ _ ?_ ?_ (by omega)
              · unfold AR; rw [g1]
              · unfold CR; rw [g1]; exact ⟨0, Nat.le_refl _, rfl⟩
          · cases hv
        · cases hv
  · cases hv
/-! #### append -/
def vsrc (P : Program) (W : VW) (es : Nat) (tx : TypeId) (x : Value) : Option (Nat × List Value) :=
  match P.underlying tx with
  | some (.slice _) =>
    (match x with
    | .slice none 0 0 => some (0, [])
    | .slice (some ⟨_, _, some _⟩) 0 0 => some (0, [])
    | .slice (some ⟨b, o, none⟩) n _ =>
      (match W.heap.at b with
      | some ob => (match rdOf ob with
        | some (t, m) => (match rdN t m o (n * es) with | some l => bif l.all Value.oneCell' then some (n, l) else none | none => none)
        | none => none)
      | none => none)
    | _ => none)
  | some .string =>
    (match x with
    | .string s => bif es.beq 1 then some (s.size, byteCells s) else none
    | _ => none)
  | _ => none
theorem lr_one {β : Place} {l l' : List Value} (h : LR D β l l') (ho : l.all Value.oneCell' = true) : ∀ u ∈ l', u.oneCell' = true := by
  intro u hu
  obtain ⟨i, hi⟩ := List.getElem?_of_mem hu
  have hlt : i < l.length := by rw [h.1]; exact (List.getElem?_eq_some_iff.1 hi).1
  refine (h.2 i _ u (List.getElem?_eq_getElem hlt) hi).one ?_
  simp only [List.all_eq_true] at ho
  exact ho _ (List.getElem_mem _)
theorem pfs_bytes (s : ByteArray) : pfs (byteCells s) = true := by
  refine pfs_of_mem fun v hv => ?_
  obtain ⟨b, _, rfl⟩ := List.mem_map.1 hv
  rfl
theorem vsrc_ok {β : Place} {W : VW} {w : World} (h : Rel P D β W w) {es : Nat} {tx : TypeId} {x x' : Value} {n : Nat} {l : List Value} (hx : VR D β x x') (hv : vsrc P W es tx x = some (n, l)) :
    ∃ l', Src P es tx x' n l' w ∧ LR D β l l' ∧ l.all Value.oneCell' = true := by
  unfold vsrc at hv
  split at hv
  · rename_i e' hk
    split at hv
    · simp only [Option.some.injEq, Prod.mk.injEq] at hv
      obtain ⟨rfl, rfl⟩ := hv
      cases hx with
      | sym _ _ h1 => cases h1
      | nilSlice => exact ⟨[], Src.ofNil w hk 0, LR.nil, rfl⟩
    · simp only [Option.some.injEq, Prod.mk.injEq] at hv
      obtain ⟨rfl, rfl⟩ := hv
      cases hx with
      | sym _ _ h1 => cases h1
      | slice0 _ _ _ c a => exact ⟨[], Src.ofSlice w hk a 0 c [] (by simp) (fun j u hu => by simp at hu) (fun _ hu => by cases hu), LR.nil, rfl⟩
    · rename_i b o n' cap
      split at hv
      · rename_i ob hb
        split at hv
        rotate_left
        · cases hv
        rename_i t m hob
        split at hv
        · rename_i l0 hr
          cases ho : l0.all Value.oneCell' with
          | false => rw [ho] at hv; cases hv
          | true =>
            rw [ho] at hv
            simp only [cond_true, Option.some.injEq, Prod.mk.injEq] at hv
            obtain ⟨rfl, rfl⟩ := hv
            obtain ⟨b1, d, x, e1, e2⟩ := h.live b _ hb
            cases hx with
            | sym _ _ h1 => cases h1
            | slice _ _ _ _ cap' a1 hA =>
              unfold AR at hA
              rw [e1] at hA
              simp only [] at hA
              subst hA
              obtain ⟨l', k1, k2, k3⟩ := cells_rel e2 hob hr
              exact ⟨l', Src.ofSlice w hk _ n' cap' l' k2 (fun j u hu => by rw [addr_add]; exact k3 j u hu) (lr_one k1 ho), k1, ho⟩
        · cases hv
      · cases hv
    · cases hv
  · rename_i hk
    split at hv
    · rename_i s
      cases hb : es.beq 1 with
      | false => rw [hb] at hv; cases hv
      | true =>
        rw [hb] at hv
        simp only [cond_true, Option.some.injEq, Prod.mk.injEq] at hv
        obtain ⟨rfl, rfl⟩ := hv
        obtain rfl := Nat.eq_of_beq_eq_true hb
        cases hx with
        | sym _ _ h1 => cases h1
        | string =>
          refine ⟨byteCells s, Src.ofString w hk s, LR.of_pfs (pfs_bytes s), ?_⟩
          rw [List.all_eq_true]
          intro u hu
          obtain ⟨_, _, rfl⟩ := List.mem_map.1 hu
          rfl
    · cases hv
  · cases hv
def vappend (P : Program) (lim : Nat) (W : VW) (T tx : TypeId) (s x : Value) : Option (Value × VW) :=
  match P.underlying T with
  | some (.slice e) =>
    match P.info? e with
    | some ie =>
      match ie.zero with
      | some z =>
        match vsrc P W ie.size tx x with
        | some (n, l) =>
          match s with
          | .slice none 0 0 =>
            bif n.beq 0 then some (.slice none 0 0, W) else
              bif n.ble 1000000 && ie.bytes.ble 100000 && l.length.beq (n * ie.size) && z.cells.size.beq ie.size then some (.slice (some ⟨W.next, 0, none⟩) n n, (vnew W e l).2) else none
          | .slice (some ⟨b, o, some k⟩) 0 0 => bif n.beq 0 then some (.slice (some ⟨b, o, some k⟩) 0 0, W) else none
          | .slice (some ⟨b, o, none⟩) len cap =>
            bif (len + n).ble cap then
              (match vstoreCells lim W b (o + len * ie.size) l with | some W' => some (.slice (some ⟨b, o, none⟩) (len + n) cap, W') | none => none)
            else
              (match W.heap.at b with
              | some (.cells t m T0) =>
                bif lim.ble b && T0.beq e && (o + cap * ie.size).ble m && (len + n).ble 1000000 && ie.bytes.ble 100000 && l.length.beq (n * ie.size) && z.cells.size.beq ie.size then
                  (match rdN t m o (len * ie.size) with
                  | some old => some (.slice (some ⟨W.next, 0, none⟩) (len + n) (len + n), (vnew ⟨Tr.set DD W.heap b none, W.next⟩ e (old ++ l)).2)
                  | none => none) else none
              | _ => none)
          | _ => none
        | none => none
      | none => none
    | none => none
  | _ => none
theorem run_append_room' {w w' : World} {t tx ty e : TypeId} {i : TypeInfo} (ht : P.underlying t = some (.slice e)) (hi : P.info? e = some i) {a : Addr} {sLen sCap : Nat} {x : Value} {n : Nat} {news : List Value} (hs : Src P i.size tx x n news w)
    (hroom : sLen + n ≤ sCap) (hst : (storeCells (a.add (sLen * i.size)) news).run P w = .ok () w') :
    (Builtin.append_ #[t, tx] ty #[.slice (some a) sLen sCap, x]).run P w = .ok (.slice (some a) (sLen + n) sCap) w' := by
  rcases hs.kind with ⟨e', hk⟩ | hk <;> simp [Builtin.append_, run_underlying ht, run_underlying hk, sizeOf, typeInfo, hi, hs.len, hroom, hs.cells, hst]
theorem Rel.drew {β : Place} {W : VW} {w : World} (h : Rel P D β W w) : Rel P D β W w.drew := ⟨h.unborn, fun i o hi => let ⟨b, d, x, e1, e2⟩ := h.live i o hi; ⟨b, d, x, e1, e2.mono (LeS.refl _) rfl⟩, h.inj, h.lt⟩
theorem Ext.drew {lim : Nat} {β β' : Place} {w w' : World} (h : Ext lim β β' w.drew w') : Ext lim β β' w w' :=
  ⟨h.le, h.low, ⟨h.only.os, h.only.tape, h.only.output, h.only.size, h.only.block⟩, h.new⟩
theorem Rel.lt_next {β : Place} {W : VW} {w : World} (h : Rel P D β W w) {b : Nat} {o : VObj} (hb : W.heap.at b = some o) : b < W.next := by
  obtain ⟨c, d, x, e, _⟩ := h.live b o hb
  rcases Nat.lt_or_ge b W.next with h1 | h1
  · exact h1
  · rw [h.unborn b h1] at e; cases e
theorem Rel.kill {β : Place} {W : VW} {w : World} (h : Rel P D β W w) {lim b : Nat} (hlim : lim ≤ b) (hb : b < W.next) : Rel P D (updP β b .dead) ⟨Tr.set DD W.heap b none, W.next⟩ w ∧ Ext lim β (updP β b .dead) w w := by
  refine ⟨⟨fun i hi => ?_, fun i o hi => ?_, fun i j c d x d' x' hi hj => ?_, fun i c d x hi => ?_⟩, ⟨LeS.upd_dead, fun i hi => updP_ne (by omega), Only.refl _ _, ?_⟩⟩
  · have hi' : W.next ≤ i := hi
    rw [updP_ne (by omega)]; exact h.unborn i hi'
  · obtain ⟨hne, hi'⟩ := Tr.at_drop hi
    obtain ⟨c, d, x, e1, e2⟩ := h.live i o hi'
    exact ⟨c, d, x, by rw [updP_ne hne]; exact e1, e2.mono LeS.upd_dead rfl⟩
  · by_cases e1 : i = b
    · subst e1; rw [updP_same] at hi; cases hi
    · by_cases e2 : j = b
      · subst e2; rw [updP_same] at hj; cases hj
      · rw [updP_ne e1] at hi; rw [updP_ne e2] at hj; exact h.inj i j c d x d' x' hi hj
  · by_cases e1 : i = b
    · subst e1; rw [updP_same] at hi; cases hi
    · rw [updP_ne e1] at hi; exact h.lt i c d x hi
  · rintro k hk ⟨i, d, x, hi, e⟩
    by_cases e1 : i = b
    · subst e1; rw [updP_same] at e; cases e
    · rw [updP_ne e1] at e; exact ⟨i, d, x, hi, e⟩
theorem wrN_eq : ∀ (l : List Value) (o : Nat) (t : Tr Value), wrN t o l = trOf o l t
  | [], _, _ => rfl
  | v :: l, o, t => wrN_eq l (o + 1) (t.put o v)
theorem trOf_append : ∀ (a b : List Value) (k : Nat) (t : Tr Value), trOf k (a ++ b) t = trOf (k + a.length) b (trOf k a t)
  | [], b, k, t => rfl
  | v :: a, b, k, t => by
    have := trOf_append a b (k + 1) (t.put k v)
    simp only [List.cons_append, trOf, List.length_cons]
    rw [this]
    congr 1
    omega
/-- behind the last cell there is room: the slice grows where it lies -/
theorem grow_in {β : Place} {W : VW} {w : World} (h : Rel P D β W w) {lim b t m o e : Nat} {tt : Tr Value} {b1 d x cap dd len n es : Nat} {old l l' : List Value} (hb : W.heap.at b = some (.cells tt m e)) (hβ : β b = .live b1 d x) (hlim : lim ≤ b) (hes : P.cellsOf e = es)
    (ho : o + cap * es ≤ m) (hdd : dd ≤ x) (hr : rdN tt m o (len * es) = some old) (hn : len + n ≤ cap + dd) (hll : l.length = n * es) (hl : LR D β l l') (h1 : l.all Value.oneCell' = true) (hle : len ≤ cap) :
    ∃ w' β', (storeCells (⟨b1, o + d + len * es, none⟩ : Addr) l').run P w = .ok () w' ∧ β' W.next = .live b1 (d + o) (cap + dd - (len + n)) ∧
      Rel P D β' (vnew ⟨Tr.set DD W.heap b none, W.next⟩ e (old ++ l)).2 w' ∧ Ext lim β β' w w' := by
  obtain ⟨g1, g2⟩ := rdN_spec _ _ _ hr
  obtain ⟨c0, d0, x0, f1, f2⟩ := h.live b _ hb
  rw [hβ] at f1
  injection f1 with fa fb fc
  subst fa fb fc
  have hbn := h.lt_next hb
  have hblk := f2
  obtain ⟨cs, q1, q2, q3⟩ := hblk
  have hsz : (d + o) + (len + n) * es + (cap + dd - (len + n)) * es ≤ cs.size := by
    rw [hes] at q2
    have e1 : (len + n) * es + (cap + dd - (len + n)) * es = (cap + dd) * es := by rw [← Nat.add_mul]; congr 1; omega
    have e2 : (cap + dd) * es ≤ cap * es + x * es := by rw [Nat.add_mul]; exact Nat.add_le_add_left (Nat.mul_le_mul_right _ hdd) _
    omega
  have hnew : ObjRel P D β w b1 (d + o) (cap + dd - (len + n)) (.cells (trOf 0 old .nil) ((len + n) * es) e) := by
    refine ⟨cs, q1, by rw [hes]; exact hsz, fun k v hk hv => ?_⟩
    rcases trOf_at old 0 .nil k v hv with ⟨_, hh⟩ | ⟨_, hh⟩
    · obtain ⟨k1, k2⟩ := g2 (k - 0) v hh
      obtain ⟨v', r1, r2⟩ := q3 _ v k1 k2
      exact ⟨v', by rw [← r1]; congr 1; omega, r2⟩
    · rw [show (Tr.nil : Tr Value).at k = none from Tr.get_nil _ _] at hh; cases hh
  obtain ⟨w', hw⟩ := storeCells_ok l l' _ (len * es) 0 w hnew (by rw [hll, ← Nat.add_mul]; exact Nat.le_refl _) hl h1
  rcases hw with ⟨s1, s2, s3, s4, s5⟩ | s
  rotate_left
  · omega
  have hle1 : LeS β (updP β b .dead) := LeS.upd_dead
  have hun : (updP β b .dead) W.next = .unborn := by rw [updP_ne (by omega)]; exact h.unborn _ (Nat.le_refl _)
  have hle2 := hle1.trans (LeS.upd_unborn hun (.live b1 (d + o) (cap + dd - (len + n))))
  refine ⟨w', updP (updP β b .dead) W.next (.live b1 (d + o) (cap + dd - (len + n))), ?_, updP_same _ _ _, ⟨?_, ?_, ?_, ?_⟩, ⟨hle2, ?_, s3 _ ⟨b, d, x, hlim, hβ⟩, ?_⟩⟩
  · rw [show o + d + len * es = len * es + (d + o) - 0 by omega]; exact s1
  · intro i hi
    have hi' : W.next + 1 ≤ i := hi
    rw [updP_ne (by omega), updP_ne (by omega)]
    exact h.unborn i (by omega)
  · intro i ob hi
    rcases Tr.at_put hi with ⟨rfl, rfl⟩ | ⟨hne, hi'⟩
    · refine ⟨b1, d + o, cap + dd - (len + n), updP_same _ _ _, ?_⟩
      rw [wrN_eq] at s2
      have e1 : old.length = len * es := g1
      rw [trOf_append, Nat.zero_add, e1, List.length_append, e1, hll, ← Nat.add_mul]
      exact s2.mono hle2 rfl
    · obtain ⟨hnb, hi2⟩ := Tr.at_drop hi'
      obtain ⟨c, d', x', e1, e2⟩ := h.live i ob hi2
      refine ⟨c, d', x', by rw [updP_ne hne, updP_ne hnb]; exact e1, e2.mono hle2 (s5 c ?_)⟩
      rintro rfl
      exact hnb (h.inj i b c d' x' d x e1 hβ)
  · intro i j c d1 x1 d2 x2 hi hj
    by_cases e1 : i = W.next
    · by_cases e2 : j = W.next
      · rw [e1, e2]
      · subst e1
        rw [updP_same] at hi
        injection hi with ha
        subst ha
        rw [updP_ne e2] at hj
        by_cases e3 : j = b
        · subst e3; rw [updP_same] at hj; cases hj
        · rw [updP_ne e3] at hj
          exact absurd (h.inj j b b1 d2 x2 d x hj hβ) e3
    · rw [updP_ne e1] at hi
      by_cases e4 : i = b
      · subst e4; rw [updP_same] at hi; cases hi
      rw [updP_ne e4] at hi
      by_cases e2 : j = W.next
      · subst e2
        rw [updP_same] at hj
        injection hj with ha
        subst ha
        exact absurd (h.inj i b b1 d1 x1 d x hi hβ) e4
      · rw [updP_ne e2] at hj
        by_cases e3 : j = b
        · subst e3; rw [updP_same] at hj; cases hj
        · rw [updP_ne e3] at hj
          exact h.inj i j c d1 x1 d2 x2 hi hj
  · intro i c d1 x1 hi
    rw [s4]
    by_cases e1 : i = W.next
    · subst e1
      rw [updP_same] at hi
      injection hi with ha
      subst ha
      exact h.lt b b1 d x hβ
    · rw [updP_ne e1] at hi
      by_cases e4 : i = b
      · subst e4; rw [updP_same] at hi; cases hi
      · rw [updP_ne e4] at hi
        exact h.lt i c d1 x1 hi
  · intro i hi
    rw [updP_ne (by omega), updP_ne (by omega)]
  · rintro k hk ⟨i, d1, x1, hi, e⟩
    by_cases e1 : i = W.next
    · subst e1
      rw [updP_same] at e
      injection e with ha
      subst ha
      exact ⟨b, d, x, hlim, hβ⟩
    · rw [updP_ne e1] at e
      by_cases e4 : i = b
      · subst e4; rw [updP_same] at e; cases e
      · rw [updP_ne e4] at e
        exact ⟨i, d1, x1, hi, e⟩
theorem zeroCells_size (z : Array Value) (n : Nat) : (Builtin.zeroCells z n).size = n * z.size := by simp [Builtin.zeroCells]
/-- a new row, with room behind -/
theorem grow_new {β : Place} {W : VW} {w : World} (h : Rel P D β W w) {lim e : Nat} (hlim : lim ≤ W.next) {l l' : List Value} {zs : Array Value} {xs : Nat} (hl : LR D β l l') (hz : zs.size = xs * P.cellsOf e) :
    ∃ β', β' W.next = .live w.heap.size 0 xs ∧ Rel P D β' (vnew W e l).2 (w.alloc (.cells (l'.toArray ++ zs) e)) ∧ Ext lim β β' w (w.alloc (.cells (l'.toArray ++ zs) e)) := by
  refine ⟨updP β W.next (.live w.heap.size 0 xs), updP_same _ _ _, ?_⟩
  have hle := LeS.upd_unborn (h.unborn W.next (Nat.le_refl _)) (.live w.heap.size 0 xs)
  refine h.alloc hlim _ _ ⟨l'.toArray ++ zs, blk_new _ _, ?_, fun k v hk hv => ?_⟩
  · have := hl.1
    simp [this, hz]
  · rcases trOf_at l 0 .nil k v hv with ⟨_, h1⟩ | ⟨_, h1⟩
    · have hk' : k < l'.length := by rw [← hl.1]; exact hk
      refine ⟨l'[k], by simp [hk', Array.getElem?_append], (hl.2 k v _ h1 (List.getElem?_eq_getElem hk')).mono hle⟩
    · rw [show (Tr.nil : Tr Value).at k = none from Tr.get_nil _ _] at h1; cases h1
theorem vappend_ok {β : Place} {W W' : VW} {w : World} (h : Rel P D β W w) {lim : Nat} (hlim : lim ≤ W.next) {T tx ty : TypeId} {s s' x x' v : Value} (hs : VR D β s s') (hx : VR D β x x') (hv : vappend P lim W T tx s x = some (v, W')) :
    VOk P D lim β w (Builtin.append_ #[T, tx] ty #[s', x']) v W' := by
  unfold vappend at hv
  split at hv
  rotate_left
  · cases hv
  rename_i e hu
  split at hv
  rotate_left
  · cases hv
  rename_i ie hie
  split at hv
  rotate_left
  · cases hv
  rename_i z hz
  split at hv
  rotate_left
  · cases hv
  rename_i n l hsrc
  obtain ⟨l', k1, k2, k3⟩ := vsrc_ok h hx hsrc
  have hes : P.cellsOf e = ie.size := by simp [Program.cellsOf, hie]
  split at hv
  · cases hs with
    | sym _ _ h1 => cases h1
    | nilSlice =>
      cases hn : n.beq 0 with
      | true =>
        rw [hn] at hv
        simp only [cond_true, Option.some.injEq, Prod.mk.injEq] at hv
        obtain ⟨rfl, rfl⟩ := hv
        have := Nat.eq_of_beq_eq_true hn
        subst this
        have hl0 : l' = [] := by have := k1.newsLen; simpa using this
        subst hl0
        exact VOk.same h (run_append_nothing w T tx ty e ie hu hie none 0 0 (Nat.le_refl _) x' k1) .nilSlice
      | false =>
        rw [hn] at hv
        simp only [cond_false] at hv
        have hn0 : ¬ n = 0 := fun e => by rw [e] at hn; cases hn
        cases hc : (n.ble 1000000 && ie.bytes.ble 100000 && l.length.beq (n * ie.size) && z.cells.size.beq ie.size) with
        | false => rw [hc] at hv; cases hv
        | true =>
          rw [hc] at hv
          simp only [cond_true, Option.some.injEq, Prod.mk.injEq] at hv
          obtain ⟨rfl, rfl⟩ := hv
          simp only [Bool.and_eq_true, Nat.ble_eq] at hc
          obtain ⟨⟨⟨c1, c2⟩, c3⟩, c4⟩ := hc
          have c4' := Nat.eq_of_beq_eq_true c4
          have hnx : Builtin.nextslicecap (0 + n) 0 * ie.bytes ≤ 281474976710656 := by
            have h1 := nextslicecap_le (need := 0 + n) (old := 0) (by omega)
            calc _ ≤ (2 * (0 + n)) * ie.bytes := Nat.mul_le_mul_right _ h1
              _ ≤ (2 * 1000000) * 100000 := Nat.mul_le_mul (by omega) c2
              _ ≤ _ := by decide
          have hrun := run_append_grow_src w T tx ty e ie z hu hie hz none 0 0 [] (by simp [Builtin.firstCells]) x' n l' k1 (by omega) (by omega) hnx
          have hz2 : (Builtin.zeroCells z.cells (grownCap w (0 + n) 0 e - (0 + n))).size = (grownCap w (0 + n) 0 e - (0 + n)) * P.cellsOf e := by rw [zeroCells_size, hes, c4']
          obtain ⟨β', g1, g2, g3⟩ := grow_new h.drew hlim k2 hz2
          refine ⟨_, _, β', hrun, ?_, by simpa using g2, Ext.drew (by simpa using g3)⟩
          have hge := grownCap_ge w (0 + n) 0 e
          rw [Nat.zero_add]
          refine .slice _ _ _ _ _ _ ?_ ?_ (Nat.le_refl _)
          · unfold AR; rw [g1]; rfl
          · unfold CR; rw [g1]
            refine ⟨_, Nat.le_refl _, ?_⟩
            rw [Nat.zero_add] at *
            omega
  · rename_i b o k
    cases hn : n.beq 0 with
    | false => rw [hn] at hv; cases hv
    | true =>
      rw [hn] at hv
      simp only [cond_true, Option.some.injEq, Prod.mk.injEq] at hv
      obtain ⟨rfl, rfl⟩ := hv
      have := Nat.eq_of_beq_eq_true hn
      subst this
      have hl0 : l' = [] := by have := k1.newsLen; simpa using this
      subst hl0
      cases hs with
      | sym _ _ h1 => cases h1
      | slice0 _ _ _ c a => exact VOk.same h (run_append_nothing w T tx ty e ie hu hie (some a) 0 c (Nat.zero_le _) x' k1) (.slice0 _ _ _ _ _)
  · rename_i b o len cap
    cases hs with
    | sym _ _ h1 => cases h1
    | slice _ _ _ _ cap' a1 hA hC hle =>
      cases hcap : (len + n).ble cap with
      | true =>
        rw [hcap] at hv
        simp only [cond_true] at hv
        split at hv
        · rename_i W1 hst
          simp only [Option.some.injEq, Prod.mk.injEq] at hv
          obtain ⟨rfl, rfl⟩ := hv
          have hc' := Nat.le_of_ble_eq_true hcap
          have hlive : ∃ b1 d x, β b = .live b1 d x := by
            unfold vstoreCells at hst
            split at hst
            · rename_i t m T0 hb
              obtain ⟨b1, d, x, e1, _⟩ := h.live b _ hb
              exact ⟨b1, d, x, e1⟩
            · cases hst
          obtain ⟨b1, d, xx, e1⟩ := hlive
          have hC' := hC
          unfold CR at hC'
          rw [e1] at hC'
          simp only [] at hC'
          obtain ⟨dd, hd1, rfl⟩ := hC'
          obtain ⟨w', g1, g2, g3⟩ := vstoreCells_ok h (hA.add (len * ie.size)) k2 hst
          refine ⟨_, w', β, run_append_room' hu hie k1 (by omega) g1, .slice _ _ _ _ _ _ hA hC hc', g2, g3⟩
        · cases hv
      | false =>
        rw [hcap] at hv
        simp only [cond_false] at hv
        have hc' : ¬ len + n ≤ cap := fun hh => by rw [← Nat.ble_eq] at hh; rw [hh] at hcap; cases hcap
        split at hv
        rotate_left
        · cases hv
        rename_i t m T0 hb
        cases hc : (lim.ble b && T0.beq e && (o + cap * ie.size).ble m && (len + n).ble 1000000 && ie.bytes.ble 100000 && l.length.beq (n * ie.size) && z.cells.size.beq ie.size) with
        | false => rw [hc] at hv; cases hv
        | true =>
          rw [hc] at hv
          simp only [cond_true] at hv
          simp only [Bool.and_eq_true, Nat.ble_eq] at hc
          obtain ⟨⟨⟨⟨⟨⟨c0, c1⟩, c2⟩, c3⟩, c4⟩, c5⟩, c6⟩ := hc
          have c1' := Nat.eq_of_beq_eq_true c1
          subst c1'
          have c5' := Nat.eq_of_beq_eq_true c5
          have c6' := Nat.eq_of_beq_eq_true c6
          split at hv
          rotate_left
          · cases hv
          rename_i old hr
          simp only [Option.some.injEq, Prod.mk.injEq] at hv
          obtain ⟨rfl, rfl⟩ := hv
          obtain ⟨b1, d, xx, e1, e2⟩ := h.live b _ hb
          have hC' := hC
          unfold CR at hC'
          rw [e1] at hC'
          simp only [] at hC'
          obtain ⟨dd, hd1, rfl⟩ := hC'
          have hA' := hA
          unfold AR at hA'
          rw [e1] at hA'
          simp only [] at hA'
          subst hA'
          by_cases hin : len + n ≤ cap + dd
          · obtain ⟨w', β', g1, g2, g3, g4⟩ := grow_in (t := 0) h hb e1 c0 hes c2 hd1 hr hin c5' k2 k3 hle
            refine ⟨_, w', β', run_append_room' hu hie k1 hin (by rw [addr_add]; exact g1), ?_, g3, g4⟩
            refine .slice _ _ _ _ _ _ ?_ ?_ (Nat.le_refl _)
            · unfold AR; rw [g2]; simp
            · unfold CR; rw [g2]
              exact ⟨_, Nat.le_refl _, by omega⟩
          · obtain ⟨old', q1, q2, q3⟩ := cells_rel e2 rfl hr
            have hnx : Builtin.nextslicecap (len + n) (cap + dd) * ie.bytes ≤ 281474976710656 := by
              have h1 := nextslicecap_le (need := len + n) (old := cap + dd) (by omega)
              calc _ ≤ (2 * (len + n)) * ie.bytes := Nat.mul_le_mul_right _ h1
                _ ≤ (2 * 1000000) * 100000 := Nat.mul_le_mul (by omega) c4
                _ ≤ _ := by decide
            have hold : (Builtin.firstCells ie.size len (.slice (some ⟨b1, o + d, none⟩) len (cap + dd))).run P w.drew = .ok old'.toArray w.drew :=
              run_firstCells_some w.drew ie.size len _ len (cap + dd) old' q2 (fun j u hu => by rw [addr_add]; exact q3 j u hu)
            have hrun := run_append_grow_src w T tx ty T0 ie z hu hie hz (some ⟨b1, o + d, none⟩) len (cap + dd) old' hold x' n l' k1 (by omega) (by omega) hnx
            have hz2 : (Builtin.zeroCells z.cells (grownCap w (len + n) (cap + dd) T0 - (len + n))).size = (grownCap w (len + n) (cap + dd) T0 - (len + n)) * P.cellsOf T0 := by rw [zeroCells_size, hes, c6']
            obtain ⟨r1, r2⟩ := h.drew.kill (lim := lim) c0 (h.lt_next hb)
            obtain ⟨β', g1, g2, g3⟩ := grow_new r1 (lim := lim) hlim ((q1.append k2).mono LeS.upd_dead) hz2
            refine ⟨_, _, β', hrun, ?_, g2, Ext.drew (r2.trans g3)⟩
            have hge := grownCap_ge w (len + n) (cap + dd) T0
            refine .slice _ _ _ _ _ _ ?_ ?_ (Nat.le_refl _)
            · unfold AR; rw [g1]; rfl
            · unfold CR; rw [g1]
              exact ⟨_, Nat.le_refl _, by omega⟩
  · cases hv
end
end Go.Proofs.Ytednnkhomfabaaa
