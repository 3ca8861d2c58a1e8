/- A machine to run closed calls: copy, len, comparisons, strings, maps. No condition. -/
import Derived.Test.YtednnkhomfabaaaVm4
import Derived.MapKept
import Derived.WideShapes
namespace Go.Proofs.Ytednnkhomfabaaa
open Go.RowKit
set_option linter.unusedVariables false
theorem toListLoop (s : ByteArray) : ∀ (n i : Nat) (r : List UInt8), s.size - i = n → ByteArray.toList.loop s i r = r.reverse ++ s.data.toList.drop i
  | 0, i, r, h => by
    unfold ByteArray.toList.loop
    rw [if_neg (by omega), List.drop_eq_nil_of_le (by have : s.data.toList.length = s.size := Array.length_toList
                                                      omega)]
    simp
  | n + 1, i, r, h => by
    unfold ByteArray.toList.loop
    have hs : s.data.toList.length = s.size := Array.length_toList
    rw [if_pos (by omega), toListLoop s n (i + 1) _ (by omega)]
    have hi : i < s.data.toList.length := by omega
    rw [List.drop_eq_getElem_cons hi]
    simp only [List.reverse_cons, List.append_assoc, List.singleton_append]
    congr 2
    show s.data[i]! = _
    have hi' : i < s.data.size := by simpa using hi
    rw [getElem!_pos s.data i hi']
    rfl
theorem toList_data (s : ByteArray) : s.toList = s.data.toList := by
  have := toListLoop s s.size 0 [] (by omega)
  simpa [ByteArray.toList] using this
section
variable {P : Program} {D : Den}
/-! #### copy, clear, len -/
def vlen : Value → Option Nat
  | .slice none 0 0 => some 0
  | .slice (some _) n _ => some n
  | _ => none
theorem vlen_ok {β : Place} {w : World} {x x' : Value} {n : Nat} (hx : VR D β x x') (h : vlen x = some n) : (Builtin.lenOf x').run P w = .ok n w ∧ ∃ a c, x' = .slice a n c := by
  unfold vlen at h
  split at h
  · simp only [Option.some.injEq] at h
    subst h
    cases hx with
    | sym _ _ h1 => cases h1
    | nilSlice => exact ⟨rfl, _, _, rfl⟩
  · simp only [Option.some.injEq] at h
    subst h
    cases hx with
    | sym _ _ h1 => cases h1
    | slice => exact ⟨rfl, _, _, rfl⟩
    | slice0 => exact ⟨rfl, _, _, rfl⟩
  · cases h
def vlenOp (P : Program) (T : TypeId) (x : Value) : Option Value :=
  match P.underlying T with
  | some (.slice _) => (match vlen x with | some n => some (goInt n) | none => none)
  | _ => none
theorem vlenOp_ok {β : Place} {W : VW} {w : World} (h : Rel P D β W w) {lim : Nat} {T ty : TypeId} {x x' u : Value} (hx : VR D β x x') (hv : vlenOp P T x = some u) : VOk P D lim β w (Builtin.len_ #[T] ty #[x']) u W := by
  unfold vlenOp at hv
  split at hv
  rotate_left
  · cases hv
  rename_i e hu
  split at hv
  rotate_left
  · cases hv
  rename_i n hn
  simp only [Option.some.injEq] at hv
  subst hv
  obtain ⟨_, a, c, rfl⟩ := vlen_ok (P := P) (w := w) hx hn
  refine VOk.same h (v' := goInt n) ?_ (.int _ _)
  simp [Builtin.len_, run_underlying hu, Result.andThen]
def vfirst (W : VW) (k : Nat) : Value → Option (List Value)
  | .slice none 0 0 => some []
  | .slice (some ⟨_, _, some _⟩) _ _ => bif k.beq 0 then some [] else none
  | .slice (some ⟨b, o, none⟩) _ _ =>
    (match W.heap.at b with
    | some ob => (match rdOf ob with | some (t, m) => rdN t m o k | none => none)
    | none => none)
  | _ => none
theorem vfirst_ok {β : Place} {W : VW} {w : World} (h : Rel P D β W w) {x x' : Value} {size n : Nat} {l : List Value} (hx : VR D β x x') (hv : vfirst W (n * size) x = some l) :
    ∃ l', (Builtin.firstCells size n x').run P w = .ok l'.toArray w ∧ LR D β l l' := by
  unfold vfirst at hv
  split at hv
  · simp only [Option.some.injEq] at hv
    subst hv
    cases hx with
    | sym _ _ h1 => cases h1
    | nilSlice => exact ⟨[], by simp [Builtin.firstCells], LR.nil⟩
  · cases hk : (n * size).beq 0 with
    | false => rw [hk] at hv; cases hv
    | true =>
      rw [hk] at hv
      simp only [cond_true, Option.some.injEq] at hv
      subst hv
      have e := Nat.eq_of_beq_eq_true hk
      cases hx with
      | sym _ _ h1 => cases h1
      | slice0 => exact ⟨[], run_firstCells_some w size n _ _ _ [] (by simp [e]) (fun j u hu => by simp at hu), LR.nil⟩
  · rename_i b o len cap
    split at hv
    · rename_i ob hb
      split at hv
      rotate_left
      · cases hv
      rename_i t m hob
      obtain ⟨b1, d, xx, e1, e2⟩ := h.live b _ hb
      obtain ⟨l', k1, k2, k3⟩ := cells_rel e2 hob hv
      cases hx with
      | sym _ _ h1 => cases h1
      | slice _ _ _ _ cap' a1 hA =>
        unfold AR at hA
        rw [e1] at hA
        simp only [] at hA
        subst hA
        exact ⟨l', run_firstCells_some w size n _ _ _ l' k2 (fun j u hu => by rw [addr_add]; exact k3 j u hu), k1⟩
    · cases hv
  · cases hv
def vcopy (P : Program) (lim : Nat) (W : VW) (T : TypeId) (dst src : Value) : Option (Value × VW) :=
  match P.underlying T with
  | some (.slice e) =>
    match P.info? e, vlen dst, vlen src with
    | some ie, some dn, some sn =>
      (match vfirst W (Nat.min sn dn * ie.size) src with
      | some l =>
        (match dst with
        | .slice none 0 0 => some (goInt (Nat.min sn dn), W)
        | .slice (some ⟨b, o, none⟩) _ _ => (match vstoreCells lim W b o l with | some W' => some (goInt (Nat.min sn dn), W') | none => none)
        | .slice (some ⟨_, _, some _⟩) _ _ => (match l with | [] => some (goInt (Nat.min sn dn), W) | _ => none)
        | _ => none)
      | none => none)
    | _, _, _ => none
  | _ => none
theorem vcopy_ok {β : Place} {W W' : VW} {w : World} (h : Rel P D β W w) {lim : Nat} {T sT ty : TypeId} {dst dst' src src' v : Value} (hd : VR D β dst dst') (hs : VR D β src src') (hv : vcopy P lim W T dst src = some (v, W')) :
    VOk P D lim β w (Builtin.copy_ #[T, sT] ty #[dst', src']) v W' := by
  unfold vcopy at hv
  split at hv
  rotate_left
  · cases hv
  rename_i e hu
  split at hv
  rotate_left
  · cases hv
  rename_i ie dn sn hie hdn hsn
  split at hv
  rotate_left
  · cases hv
  rename_i l hl
  obtain ⟨_, da, dc, rfl⟩ := vlen_ok (P := P) (w := w) hd hdn
  obtain ⟨hlen, sa, sc, rfl⟩ := vlen_ok (P := P) (w := w) hs hsn
  obtain ⟨l', g1, g2⟩ := vfirst_ok h hs hl
  have hsz : (sizeOf e).run P w = .ok ie.size w := by
    have := sizeOf_run hie w
    rwa [show P.cellsOf e = ie.size by simp [Program.cellsOf, hie]] at this
  split at hv
  · simp only [Option.some.injEq, Prod.mk.injEq] at hv
    obtain ⟨rfl, rfl⟩ := hv
    cases hd with
    | sym _ _ h1 => cases h1
    | nilSlice =>
      refine VOk.same h (v' := goInt (Nat.min sn 0)) ?_ (.int _ _)
      have e0 : Nat.min sn 0 = 0 := Nat.min_zero sn
      rw [e0] at g1 ⊢
      simp only [Builtin.copy_]
      simp [run_underlying hu, Result.andThen, hlen, hsz, g1]
  · rename_i b o len cap
    split at hv
    · rename_i W1 hst
      simp only [Option.some.injEq, Prod.mk.injEq] at hv
      obtain ⟨rfl, rfl⟩ := hv
      cases hd with
      | sym _ _ h1 => cases h1
      | slice _ _ _ _ cap' a1 hA =>
        obtain ⟨w', q1, q2, q3⟩ := vstoreCells_ok h hA g2 hst
        refine ⟨goInt (Nat.min sn dn), w', β, ?_, .int _ _, q2, q3⟩
        simp only [Builtin.copy_]
        simp [run_underlying hu, Result.andThen, hlen, hsz, g1, q1]
    · cases hv
  · split at hv
    · simp only [Option.some.injEq, Prod.mk.injEq] at hv
      obtain ⟨rfl, rfl⟩ := hv
      have hl0 : l' = [] := by have := g2.1; simp at this; exact List.length_eq_zero_iff.1 this.symm
      subst hl0
      refine VOk.same h (v' := goInt (Nat.min sn dn)) ?_ (.int _ _)
      simp only [Builtin.copy_]
      cases da <;> simp [run_underlying hu, Result.andThen, hlen, hsz, g1, storeCells]
    · cases hv
  · cases hv
def vclear (P : Program) (lim : Nat) (W : VW) (T : TypeId) (x : Value) : Option VW :=
  match P.underlying T with
  | some (.slice e) =>
    (match x with
    | .slice none 0 0 => some W
    | .slice (some ⟨b, o, none⟩) n _ =>
      (match P.info? e with
      | some ie =>
        (match ie.zero with
        | some z => bif !n.beq 0 && pfs z.cells.toList && !z.cells.size.beq 0 then vstoreCells lim W b o (Builtin.zeroCells z.cells n).toList else none
        | none => none)
      | none => none)
    | _ => none)
  | _ => none
theorem vclear_ok {β : Place} {W W' : VW} {w : World} (h : Rel P D β W w) {lim : Nat} {T ty : TypeId} {x x' : Value} (hx : VR D β x x') (hv : vclear P lim W T x = some W') : VOk P D lim β w (Builtin.clear_ #[T] ty #[x']) (.tuple #[]) W' := by
  unfold vclear at hv
  split at hv
  rotate_left
  · cases hv
  rename_i e hu
  split at hv
  · simp only [Option.some.injEq] at hv
    subst hv
    cases hx with
    | sym _ _ h1 => cases h1
    | nilSlice =>
      refine VOk.same h (v' := .tuple #[]) ?_ (pf_vr D β _ rfl)
      simp [Builtin.clear_, run_underlying hu, Result.andThen]
  · rename_i b o n cap
    split at hv
    rotate_left
    · cases hv
    rename_i ie hie
    split at hv
    rotate_left
    · cases hv
    rename_i z hz
    cases hc : (!n.beq 0 && pfs z.cells.toList && !z.cells.size.beq 0) with
    | false => rw [hc] at hv; cases hv
    | true =>
      rw [hc] at hv
      simp only [cond_true] at hv
      simp only [Bool.and_eq_true, Bool.not_eq_true'] at hc
      obtain ⟨⟨c1, c2⟩, c3⟩ := hc
      have c1' : ¬ n = 0 := fun e => by rw [e] at c1; cases c1
      have c3' : z.cells.size ≠ 0 := fun e => by rw [e] at c3; cases c3
      cases hx with
      | sym _ _ h1 => cases h1
      | slice _ _ _ _ cap' a1 hA =>
        have hp : pfs (Builtin.zeroCells z.cells n).toList = true := pfs_cycle c2 c3' _
        obtain ⟨w', q1, q2, q3⟩ := vstoreCells_ok h hA (LR.of_pfs hp) hv
        refine ⟨.tuple #[], w', β, ?_, pf_vr D β _ rfl, q2, q3⟩
        have hzr : (zeroValue e).run P w = .ok z w := by simp [zeroValue, typeInfo, hie, hz, Result.andThen]
        cases n with
        | zero => exact absurd rfl c1'
        | succ n => simp [Builtin.clear_, run_underlying hu, Result.andThen, hzr, q1]
  · cases hv
/-! #### Comparisons with nil -/
def vnilEq (P : Program) (T : TypeId) (x y : Value) : Option Bool :=
  match P.underlying T, x, y with
  | some (.pointer _), .pointer none, .pointer (some ⟨_, _, none⟩) => some false
  | some (.pointer _), .pointer (some ⟨_, _, none⟩), .pointer none => some false
  | some (.slice _), .slice none 0 0, .slice (some _) _ _ => some false
  | some (.slice _), .slice (some _) _ _, .slice none 0 0 => some false
  | some (.map _ _), .map none, .map (some _) => some false
  | some (.map _ _), .map (some _), .map none => some false
  | _, _, _ => none
theorem vnilEq_ok' (dp : Nat) {β : Place} {w : World} {T : TypeId} {x x' y y' : Value} {r : Bool} (hx : VR D β x x') (hy : VR D β y y') (hv : vnilEq P T x y = some r) : (Op.equalIn (dp + 1) T x' y').run P w = .ok r w := by
  unfold vnilEq at hv
  split at hv
  · rename_i e _ _ hu
    simp only [Option.some.injEq] at hv
    subst hv
    cases hx with
    | sym _ _ h1 => cases h1
    | nilPtr => cases hy with
      | sym _ _ h1 => cases h1
      | ptr => simp [Op.equalIn, run_underlying hu, Result.andThen]
  · rename_i e _ _ hu
    simp only [Option.some.injEq] at hv
    subst hv
    cases hy with
    | sym _ _ h1 => cases h1
    | nilPtr => cases hx with
      | sym _ _ h1 => cases h1
      | ptr => simp [Op.equalIn, run_underlying hu, Result.andThen]
  · rename_i e _ _ _ hu
    simp only [Option.some.injEq] at hv
    subst hv
    cases hx with
    | sym _ _ h1 => cases h1
    | nilSlice => cases hy with
      | sym _ _ h1 => cases h1
      | slice => simp [Op.equalIn, run_underlying hu, Result.andThen]
      | slice0 => simp [Op.equalIn, run_underlying hu, Result.andThen]
  · rename_i e _ _ _ hu
    simp only [Option.some.injEq] at hv
    subst hv
    cases hy with
    | sym _ _ h1 => cases h1
    | nilSlice => cases hx with
      | sym _ _ h1 => cases h1
      | slice => simp [Op.equalIn, run_underlying hu, Result.andThen]
      | slice0 => simp [Op.equalIn, run_underlying hu, Result.andThen]
  · rename_i k e _ hu
    simp only [Option.some.injEq] at hv
    subst hv
    cases hx with
    | sym _ _ h1 => cases h1
    | nilMap => cases hy with
      | sym _ _ h1 => cases h1
      | map => simp [Op.equalIn, run_underlying hu, Result.andThen]
  · rename_i k e _ hu
    simp only [Option.some.injEq] at hv
    subst hv
    cases hy with
    | sym _ _ h1 => cases h1
    | nilMap => cases hx with
      | sym _ _ h1 => cases h1
      | map => simp [Op.equalIn, run_underlying hu, Result.andThen]
  · cases hv
theorem vnilEq_ok {β : Place} {w : World} {T : TypeId} {x x' y y' : Value} {r : Bool} (hx : VR D β x x') (hy : VR D β y y') (hv : vnilEq P T x y = some r) : (Op.equal T x' y').run P w = .ok r w := by
  have := vnilEq_ok' 9999 (w := w) hx hy hv
  exact this
def vstrOp (op : BinOp) (x y : ByteArray) : Option Value :=
  match op with
  | .add => bif (x.size + y.size).ble 1000000 then some (.string ⟨⟨x.data.toList ++ y.data.toList⟩⟩) else none
  | .eql => some (.bool (x.data.toList == y.data.toList))
  | .neq => some (.bool !(x.data.toList == y.data.toList))
  | .lss => some (.bool (Op.bytesLess x.data.toList y.data.toList))
  | .geq => some (.bool !(Op.bytesLess x.data.toList y.data.toList))
  | _ => none
theorem vstrOp_ok {op : BinOp} {x y : ByteArray} {v : Value} (h : vstrOp op x y = some v) (T : TypeId) (w : World) : (binOp op T (.string x) (.string y)).run P w = .ok v w := by
  unfold vstrOp at h
  have happ : (⟨⟨x.data.toList ++ y.data.toList⟩⟩ : ByteArray) = x ++ y := by
    refine Go.WideShapes.bytes_inj ?_
    simp
  split at h
  · cases hb : (x.size + y.size).ble 1000000 with
    | false => rw [hb] at h; cases h
    | true =>
      rw [hb] at h
      simp only [cond_true, Option.some.injEq] at h
      subst h
      have := Nat.le_of_ble_eq_true hb
      rw [happ]
      have h2 : ¬ ((x.size + y.size : Nat) : Int) > IntKind.i64.max := by
        have : IntKind.i64.max = 9223372036854775807 := rfl
        rw [this]; omega
      simp only [binOp, Op.stringOp, if_neg h2]
      rfl
  all_goals (try cases h)
  all_goals simp [binOp, Op.stringOp, toList_data]
def vbin (P : Program) (op : BinOp) (T : TypeId) (x y : Value) : Option Value :=
  match op, x, y with
  | op, .string a, .string b => vstrOp op a b
  | .eql, x, y => (match vnilEq P T x y with | some r => some (.bool r) | none => none)
  | .neq, x, y => (match vnilEq P T x y with | some r => some (.bool !r) | none => none)
  | _, _, _ => none
theorem guard_run {op : BinOp} {T : TypeId} {x y : Operand} {a b : Value} {w : World} (ha : (a = .nilIface ∨ ∃ cs, a = .agg cs) → False) : (eqGuard op T x y a b).run P w = .ok () w := by
  unfold eqGuard
  cases a <;> first | (exact (ha (Or.inl rfl)).elim) | (exact (ha (Or.inr ⟨_, rfl⟩)).elim) | (split <;> simp)
theorem vbin_all {β : Place} {op : BinOp} {T : TypeId} {x x' y y' u : Value} {ox oy : Operand} (hx : VR D β x x') (hy : VR D β y y') (hv : vbin P op T x y = some u) :
    AOk P D β (do eqGuard op T ox oy x' y'; binOp op T x' y') u := by
  have key : ∀ (w : World) r, vnilEq P T x y = some r → ((x' = .nilIface ∨ ∃ cs, x' = .agg cs) → False) ∧ (binOp .eql T x' y').run P w = .ok (.bool r) w ∧ (binOp .neq T x' y').run P w = .ok (.bool !r) w := by
    intro w r hr
    have he := vnilEq_ok (w := w) hx hy hr
    unfold vnilEq at hr
    split at hr
    all_goals (try cases hr)
    all_goals cases hx <;> first | (rename_i h1 _ _; cases h1) | skip
    all_goals cases hy <;> first | (rename_i h1 _ _; cases h1) | skip
    all_goals refine ⟨by simp, ?_, ?_⟩ <;> simp only [binOp] <;> simp [he, Result.andThen]
  unfold vbin at hv
  split at hv
  · rename_i sa sb
    cases hx with
    | sym _ _ h1 => cases h1
    | string =>
      cases hy with
      | sym _ _ h1 => cases h1
      | string =>
        have hp : VR D β u u := by
          unfold vstrOp at hv
          split at hv
          · cases hb : (Nat.ble _ 1000000) with
            | false => rw [hb] at hv; cases hv
            | true => rw [hb] at hv; simp only [cond_true, Option.some.injEq] at hv; subst hv; exact .string _
          all_goals (try (simp only [Option.some.injEq] at hv; subst hv; exact .bool _))
          cases hv
        refine ⟨u, hp, fun w => ?_⟩
        have := vstrOp_ok (P := P) hv T w
        have hg := guard_run (P := P) (op := op) (T := T) (x := ox) (y := oy) (a := .string sa) (b := .string sb) (w := w) (by simp)
        simp only [Sem.run_bind, hg, Result.andThen, this]
  · split at hv
    · rename_i r hr
      simp only [Option.some.injEq] at hv
      subst hv
      refine ⟨_, .bool _, fun w => ?_⟩
      obtain ⟨k1, k2, k3⟩ := key w r hr
      simp only [Sem.run_bind, guard_run k1, Result.andThen, k2]
    · cases hv
  · split at hv
    · rename_i r hr
      simp only [Option.some.injEq] at hv
      subst hv
      refine ⟨_, .bool _, fun w => ?_⟩
      obtain ⟨k1, k2, k3⟩ := key w r hr
      simp only [Sem.run_bind, guard_run k1, Result.andThen, k3]
    · cases hv
  · cases hv
theorem vbin_ok {β : Place} {W : VW} {w : World} (h : Rel P D β W w) {lim : Nat} {op : BinOp} {T : TypeId} {x x' y y' u : Value} {ox oy : Operand} (hx : VR D β x x') (hy : VR D β y y') (hv : vbin P op T x y = some u) :
    VOk P D lim β w (do eqGuard op T ox oy x' y'; binOp op T x' y') u W := (vbin_all hx hy hv).ok h
end
end Go.Proofs.Ytednnkhomfabaaa
