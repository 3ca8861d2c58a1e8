/- A program that came in; rows of whole structs; the builder; the text of the data; merlonlaw18.Old. No condition. -/
import Derived.Test.YtpkbkmppkgeklaaDoorLib
import Derived.Test.YtpkbkmppkgeklaaDoorOpen
import Derived.ChangeMaps5
import Derived.DataElems
import Derived.SizedLaws
import Derived.Test.YtpkbkmppkgeklaaDoorChecked
import Derived.ArgAppend
import Derived.Laws.OwnMore
import Derived.OwnWalk
import Derived.OneCell
import Derived.Test.YtpkbkmppkgeklaaDoorShelf
import Derived.Test.YtpkbkmppkgeklaaDoorAsB
import Derived.Test.YtpkbkmppkgeklaaDoorStruct
namespace Go.Proofs.YtpkbkmppkgeklaaDoor
open Go.Joins Go.ChangeShapes Go.WideShapes Go.RowKit Go.Deep
set_option linter.unusedVariables false
section
variable {H : Type} {enc : TypeId × Value → H} {P : Program} {w : World}
/-- the cells read, as of a type -/
def Rd (enc : TypeId × Value → H) (P : Program) (w : World) (T : TypeId) (cs : List Value) : Prop := ∃ fuel x, DataW.trod enc P w 0 (fun _ => true) true fuel T cs = some x
theorem Rd.of_trod {T : TypeId} {v : Value} {d : DataW H} {ps : List MemPlace} (h : DataW.Trod enc P w 0 (fun _ => true) true T v d ps) : Rd enc P w T v.cells.toList := by
  obtain ⟨fuel, hf⟩ := h
  exact ⟨fuel, _, hf⟩
theorem Rd.int {T : TypeId} {k : IntKind} {cs : List Value} (ht : P.underlying T = some (.int k)) (h : Rd enc P w T cs) : ∃ n, cs = [.int k n] ∧ (Lit.int k n).wf = true := by
  obtain ⟨fuel, x, hf⟩ := h
  obtain ⟨n, h1, _, h3⟩ := DataW.trod_int ht hf
  exact ⟨n, h1, h3⟩
theorem Rd.bool {T : TypeId} {cs : List Value} (ht : P.underlying T = some .bool) (h : Rd enc P w T cs) : ∃ b, cs = [.bool b] := by
  obtain ⟨fuel, x, hf⟩ := h
  obtain ⟨b, h1, _⟩ := DataW.trod_bool ht hf
  exact ⟨b, h1⟩
theorem Rd.string {T : TypeId} {cs : List Value} (ht : P.underlying T = some .string) (h : Rd enc P w T cs) : ∃ s : ByteArray, cs = [.string s] ∧ s.size ≤ maxLen := by
  obtain ⟨fuel, x, hf⟩ := h
  obtain ⟨s, h1, _, h3⟩ := DataW.trod_string ht hf
  exact ⟨s, h1, h3⟩
theorem Rd.struct {T : TypeId} {fs : Array Field} {cs : List Value} (hs : P.underlying T = some (.struct fs)) (h : Rd enc P w T cs) :
    cs.length = P.cellsOf T ∧ ∀ (i : Nat) (f : Field), fs[i]? = some f → Rd enc P w f.type ((cs.drop f.offset).take (P.cellsOf f.type)) := by
  obtain ⟨fuel, x, hf⟩ := h
  obtain ⟨xs, n, _, _, h1, h2, h3⟩ := DataW.trod_struct hs hf
  refine ⟨h1, fun i f hi => ?_⟩
  have hlt : i < xs.length := by rw [h2]; exact (Array.getElem?_eq_some_iff.1 hi).1
  exact ⟨n, xs[i], (h3 i f hi).trans (List.getElem?_eq_getElem hlt)⟩
/-- the elements of a slice that came in: C cells each -/
def SliceAt (w : World) (A : Option Addr) (len C : Nat) (R : List Value → Prop) : Prop :=
  ∀ i, i < len → ∃ ad cs, A = some ad ∧ cs.length = C ∧ (∀ j, j < C → w.cell? (ad.add (i * C + j)) = cs[j]?) ∧ R cs
theorem Rd.slice {T e : TypeId} {cs : List Value} (ht : P.underlying T = some (.slice e)) (h : Rd enc P w T cs) :
    ∃ A len cap, cs = [.slice A len cap] ∧ len ≤ cap ∧ cap ≤ maxLen ∧ SliceAt w A len (P.cellsOf e) (Rd enc P w e) := by
  obtain ⟨fuel, x, hf⟩ := h
  rcases DataW.trod_slice ht hf with ⟨h1, _⟩ | ⟨a, len, cap, elems, rest, n, _, h1, _, _, h2, h3, h4, h5, _⟩
  · exact ⟨none, 0, 0, h1, Nat.le_refl _, by decide, fun i hi => by omega⟩
  · refine ⟨some a, len, cap, h1, h2, h3, fun i hi => ?_⟩
    have e := h5 i hi
    rw [List.getElem?_eq_getElem (by omega), Option.bind_eq_some_iff] at e
    obtain ⟨cs', g1, g2⟩ := e
    obtain ⟨_, k1, k2⟩ := World.cells?_some g1
    refine ⟨a, cs', rfl, k1, fun j hj => ?_, n, _, g2⟩
    rw [← k2 j hj, Addr.add_add]
theorem rd_cell_lt {a : Addr} {v : Value} (h : w.cell? a = some v) : a.block < w.heap.size := World.block_lt_of_cell? w a h
end
/-- an element of one cell, in a later world -/
theorem SliceAt.one {w w' : World} {A : Option Addr} {len k : Nat} {R : List Value → Prop} (h : SliceAt w A len 1 R) (hb : Below w.heap.size w w') (hk : k < len) :
    ∃ ad u, A = some ad ∧ w'.cell? (ad.add k) = some u ∧ R [u] := by
  obtain ⟨ad, cs, h1, h2, h3, h4⟩ := h k hk
  obtain ⟨u, rfl⟩ : ∃ u, cs = [u] := by
    match cs, h2 with
    | [u], _ => exact ⟨u, rfl⟩
  have e := h3 0 (by omega)
  rw [Nat.mul_one, Nat.add_zero] at e
  have e' : w.cell? (ad.add k) = some u := by simpa using e
  refine ⟨ad, u, h1, ?_, h4⟩
  rw [← e']
  exact hb.cell (p := ad.add k) (by have := rd_cell_lt e'; exact this)
section
variable {H : Type} {enc : TypeId × Value → H} {P : Program} {w : World}
end
end Go.Proofs.YtpkbkmppkgeklaaDoor
namespace Go.Proofs.YtpkbkmppkgeklaaDoor
open Go.Joins Go.ChangeShapes Go.WideShapes Go.RowKit Go.Deep
set_option linter.unusedVariables false
section
variable {H : Type} {enc : TypeId × Value → H} {P : Program} {w : World}
/-- the cells read, as of a type; nothing weighs more than the reach -/
def Rw (enc : TypeId × Value → H) (P : Program) (w : World) (T : TypeId) (cs : List Value) : Prop := ∃ fuel x, DataW.trod enc P w 0 (fun _ => true) true fuel T cs = some x ∧ ∀ b ∈ x.1.weights P T, b ≤ reachBytes
theorem Rw.rd {T : TypeId} {cs : List Value} (h : Rw enc P w T cs) : Rd enc P w T cs := let ⟨f, x, h1, _⟩ := h; ⟨f, x, h1⟩
theorem Rw.of_trod {T : TypeId} {v : Value} {d : DataW H} {ps : List MemPlace} (h : DataW.Trod enc P w 0 (fun _ => true) true T v d ps) (hw : ∀ b ∈ d.weights P T, b ≤ reachBytes) : Rw enc P w T v.cells.toList := by
  obtain ⟨fuel, hf⟩ := h
  exact ⟨fuel, _, hf, hw⟩
theorem weightsAll_mem {e : TypeId} : ∀ (l : List (DataW H)) (d : DataW H), d ∈ l → ∀ b ∈ d.weights P e, b ∈ DataW.weightsAll P e l
  | x :: l, d, h, b, hb => by
    unfold DataW.weightsAll
    rw [List.mem_append]
    rcases List.mem_cons.1 h with rfl | h
    · exact Or.inl hb
    · exact Or.inr (weightsAll_mem l d h b hb)
theorem weightsEach_mem : ∀ (ts : List TypeId) (l : List (DataW H)) (i : Nat) (t : TypeId) (d : DataW H), ts[i]? = some t → l[i]? = some d → ∀ b ∈ d.weights P t, b ∈ DataW.weightsEach P ts l
  | [], _, i, t, d, h, _, _, _ => by simp at h
  | _ :: _, [], i, t, d, _, h, _, _ => by simp at h
  | t0 :: ts, x :: l, 0, t, d, h1, h2, b, hb => by
    simp only [List.getElem?_cons_zero, Option.some.injEq] at h1 h2
    subst h1 h2
    unfold DataW.weightsEach
    exact List.mem_append.2 (Or.inl hb)
  | t0 :: ts, x :: l, i + 1, t, d, h1, h2, b, hb => by
    unfold DataW.weightsEach
    exact List.mem_append.2 (Or.inr (weightsEach_mem ts l i t d (by simpa using h1) (by simpa using h2) b hb))
theorem Rw.struct {T : TypeId} {fs : Array Field} {cs : List Value} (hs : P.underlying T = some (.struct fs)) (h : Rw enc P w T cs) :
    cs.length = P.cellsOf T ∧ ∀ (i : Nat) (f : Field), fs[i]? = some f → Rw enc P w f.type ((cs.drop f.offset).take (P.cellsOf f.type)) := by
  obtain ⟨fuel, x, hf, hw⟩ := h
  obtain ⟨xs, n, _, hx, h1, h2, h3⟩ := DataW.trod_struct hs hf
  refine ⟨h1, fun i f hi => ?_⟩
  have hlt : i < xs.length := by rw [h2]; exact (Array.getElem?_eq_some_iff.1 hi).1
  refine ⟨n, xs[i], (h3 i f hi).trans (List.getElem?_eq_getElem hlt), fun b hb => hw b ?_⟩
  subst hx
  simp only [DataW.weights, hs]
  exact weightsEach_mem _ _ i f.type xs[i].1 (by simp [hi]) (by simp [List.getElem?_eq_getElem hlt]) b hb
theorem Rw.slice {T e : TypeId} {cs : List Value} (ht : P.underlying T = some (.slice e)) (h : Rw enc P w T cs) :
    ∃ A len cap, cs = [.slice A len cap] ∧ len ≤ cap ∧ cap ≤ maxLen ∧ SliceAt w A len (P.cellsOf e) (Rw enc P w e) ∧ cap * P.bytesOf e ≤ reachBytes := by
  obtain ⟨fuel, x, hf, hw⟩ := h
  rcases DataW.trod_slice ht hf with ⟨h1, _⟩ | ⟨a, len, cap, elems, rest, n, _, h1, hx, _, h2, h3, h4, h5, h6, _⟩
  · exact ⟨none, 0, 0, h1, Nat.le_refl _, by decide, (fun i hi => by omega), by simp [reachBytes]⟩
  · have hr := (h6 rfl).1
    subst hx
    simp only [DataW.weights, ht] at hw
    refine ⟨some a, len, cap, h1, h2, h3, fun i hi => ?_, ?_⟩
    · have e' := h5 i hi
      have hlt : i < elems.length := by omega
      rw [List.getElem?_eq_getElem hlt, Option.bind_eq_some_iff] at e'
      obtain ⟨cs', g1, g2⟩ := e'
      obtain ⟨_, k1, k2⟩ := World.cells?_some g1
      refine ⟨a, cs', rfl, k1, fun j hj => ?_, n, _, g2, fun b hb => hw b ?_⟩
      · rw [← k2 j hj, Addr.add_add]
      · refine List.mem_cons_of_mem _ (List.mem_append.2 (Or.inl ?_))
        exact weightsAll_mem _ _ (List.mem_map_of_mem (List.getElem_mem hlt)) b hb
    · have := hw _ List.mem_cons_self
      simp only [List.length_map, h4, hr] at this
      rw [show len + (cap - len) = cap by omega] at this
      exact this
/-- an argument that is a struct -/
theorem open_structW {r : Reach} {b0 : Nat} {T : TypeId} {fs : Array Field} {v : Value} {d : DataW H} {p : List MemPlace} (hs : P.underlying T = some (.struct fs)) (hv : Value.okWide P w r b0 T v) (h : DataW.Trod enc P w 0 (fun _ => true) true T v d p) (hw : ∀ b ∈ d.weights P T, b ≤ reachBytes) :
    ∃ cs : Array Value, v = .agg cs ∧ Rw enc P w T cs.toList := by
  obtain ⟨cs, rfl, _⟩ := okWide_struct hs hv
  exact ⟨cs, rfl, Rw.of_trod h hw⟩
end
end Go.Proofs.YtpkbkmppkgeklaaDoor
namespace Go.Proofs.YtpkbkmppkgeklaaDoor
open Go.RowKit
set_option linter.unusedVariables false
set_option maxRecDepth 20000
structure XInsD where
  op : Int
  dst : Int
  src : Int
  imm : Int
  size : Int
  signed : Bool
  cond : Int
  to_ : ByteArray
structure XItemD where
  label : ByteArray
  ins : XInsD
structure XDatumD where
  kind : Int
  name : ByteArray
  data : List Int
  n : Int
structure XProgD where
  data : List XDatumD
  code : List XItemD
/-- a slice's value whose elements read as these: C cells each -/
def SlR {α : Type} (w : World) (C : Nat) (R : List Value → α → Prop) (v : Value) (xs : List α) : Prop :=
  ∃ A cap, v = .slice A xs.length cap ∧ xs.length ≤ cap ∧ cap ≤ maxLen ∧ ∀ i x, xs[i]? = some x → ∃ b o cs, A = some ⟨b, o, none⟩ ∧ cs.length = C ∧ (∀ j, j < C → w.cell? ⟨b, o + i * C + j, none⟩ = cs[j]?) ∧ R cs x
def IntR (cs : List Value) (x : Int) : Prop := cs = [.int .i64 x] ∧ In64 x
def BoolR (cs : List Value) (x : Bool) : Prop := cs = [.bool x]
def ByteR (cs : List Value) (x : Int) : Prop := cs = [.int .u8 x] ∧ 0 ≤ x ∧ x ≤ 255
def XInsR (cs : List Value) (x : XInsD) : Prop := cs = [.int .i64 x.op, .int .i64 x.dst, .int .i64 x.src, .int .i64 x.imm, .int .i64 x.size, .bool x.signed, .int .i64 x.cond, .string x.to_] ∧ In64 x.op ∧ In64 x.dst ∧ In64 x.src ∧ In64 x.imm ∧ In64 x.size ∧ In64 x.cond ∧ x.to_.size ≤ maxLen
def XItemR (cs : List Value) (x : XItemD) : Prop := cs = [.string x.label, .int .i64 x.ins.op, .int .i64 x.ins.dst, .int .i64 x.ins.src, .int .i64 x.ins.imm, .int .i64 x.ins.size, .bool x.ins.signed, .int .i64 x.ins.cond, .string x.ins.to_] ∧ x.label.size ≤ maxLen ∧ In64 x.ins.op ∧ In64 x.ins.dst ∧ In64 x.ins.src ∧ In64 x.ins.imm ∧ In64 x.ins.size ∧ In64 x.ins.cond ∧ x.ins.to_.size ≤ maxLen
def XDatumR (w : World) (cs : List Value) (x : XDatumD) : Prop := ∃ v_data, cs = [.int .i64 x.kind, .string x.name, v_data, .int .i64 x.n] ∧ In64 x.kind ∧ x.name.size ≤ maxLen ∧ SlR w 1 ByteR v_data x.data ∧ x.data.length ≤ 140737488351232 ∧ In64 x.n
def XProgR (w : World) (cs : List Value) (x : XProgD) : Prop := ∃ v_data v_code, cs = [v_data, v_code] ∧ SlR w 4 (XDatumR w) v_data x.data ∧ x.data.length ≤ 140737488351232 ∧ SlR w 9 XItemR v_code x.code ∧ x.code.length ≤ 140737488351232
theorem laterC {w w' : World} {a : Addr} {v : Value} (h : w.cell? a = some v) (hb : Below w.heap.size w w') : w'.cell? a = some v := (hb.cell (World.block_lt_of_cell? w _ h)).trans h
theorem SlR.later {α : Type} {w w' : World} {C : Nat} {R : List Value → α → Prop} {v : Value} {xs : List α} (h : SlR w C R v xs) (hC : 0 < C) (hb : Below w.heap.size w w') : SlR w' C R v xs := by
  obtain ⟨A, cap, h1, h2, h3, h4⟩ := h
  refine ⟨A, cap, h1, h2, h3, fun i x hi => ?_⟩
  obtain ⟨b, o, cs, g1, g2, g3, g4⟩ := h4 i x hi
  refine ⟨b, o, cs, g1, g2, fun j hj => ?_, g4⟩
  have hj2 : j < cs.length := by omega
  have e := g3 j hj
  rw [List.getElem?_eq_getElem hj2] at e ⊢
  exact laterC e hb
set_option maxRecDepth 100000 in
section
variable {H : Type} {enc : TypeId × Value → H} {w : World}
theorem choose_list {α : Type} {p : Nat → α → Prop} : ∀ (n : Nat), (∀ i, i < n → ∃ x, p i x) → ∃ xs : List α, xs.length = n ∧ ∀ i x, xs[i]? = some x → p i x
  | 0, _ => ⟨[], rfl, fun i x h => by simp at h⟩
  | n + 1, h => by
    obtain ⟨xs, h1, h2⟩ := choose_list n (fun i hi => h i (by omega))
    obtain ⟨x, hx⟩ := h n (by omega)
    refine ⟨xs ++ [x], by simp [h1], fun i y hi => ?_⟩
    rw [List.getElem?_append] at hi
    split at hi
    · exact h2 i y hi
    · rename_i hlt
      have : i = n := by
        have := (List.getElem?_eq_some_iff.1 hi).1
        simp at this; omega
      subst this
      rw [h1, Nat.sub_self] at hi
      simp at hi
      subst hi
      exact hx
theorem spot_none {a : Addr} {v : Value} (h : w.cell? a = some v) : a.spot = none := by
  unfold World.cell? at h
  split at h
  · split at h
    · cases h
    · rename_i hs
      cases e : a.spot with
      | none => rfl
      | some x => rw [e] at hs; exact absurd rfl hs
  · cases h
theorem addr_lit {a : Addr} (h : a.spot = none) (n : Nat) : a.add n = ⟨a.block, a.off + n, none⟩ := by
  unfold Addr.add
  split
  · rename_i e; subst e; cases a; simp_all
  · rfl
theorem SlR.of {α : Type} {A : Option Addr} {len cap C : Nat} {R0 : List Value → Prop} {R : List Value → α → Prop} (hC : 0 < C) (h : SliceAt w A len C R0) (hl : len ≤ cap) (hc : cap ≤ maxLen) (hR : ∀ cs, R0 cs → ∃ x, R cs x) : ∃ xs : List α, xs.length = len ∧ SlR w C R (.slice A len cap) xs := by
  obtain ⟨xs, h1, h2⟩ := choose_list (p := fun i x => ∃ b o cs, A = some ⟨b, o, none⟩ ∧ cs.length = C ∧ (∀ j, j < C → w.cell? ⟨b, o + i * C + j, none⟩ = cs[j]?) ∧ R cs x) len (fun i hi => by
    obtain ⟨ad, cs, g1, g2, g3, g4⟩ := h i hi
    obtain ⟨ad0, cs0, k1, k2, k3, _⟩ := h 0 (by omega)
    rw [g1] at k1
    obtain rfl := Option.some.inj k1
    have e0 := k3 0 hC
    rw [Nat.zero_mul, List.getElem?_eq_getElem (by omega)] at e0
    have hs : ad.spot = none := spot_none (a := ad) (by simpa [Addr.add] using e0)
    obtain ⟨x, hx⟩ := hR cs g4
    refine ⟨x, ad.block, ad.off, cs, ?_, g2, fun j hj => ?_, hx⟩
    · rw [g1]; cases ad; simp_all
    · rw [← g3 j hj, addr_lit hs, Nat.add_assoc])
  subst h1
  exact ⟨xs, rfl, A, cap, rfl, hl, hc, h2⟩
theorem open_intR {T : TypeId} (ht : Tryd.prog.underlying T = some (.int .i64)) {cs : List Value} (h : Rw enc Tryd.prog w T cs) : ∃ x, IntR cs x := by
  obtain ⟨n, h1, h2⟩ := h.rd.int ht
  exact ⟨n, h1, in64_of h2⟩
theorem open_boolR {T : TypeId} (ht : Tryd.prog.underlying T = some .bool) {cs : List Value} (h : Rw enc Tryd.prog w T cs) : ∃ x, BoolR cs x := by
  obtain ⟨n, h1⟩ := h.rd.bool ht
  exact ⟨n, h1⟩
theorem inU8_of {n : Int} (h : (Lit.int .u8 n).wf = true) : 0 ≤ n ∧ n ≤ 255 := by
  simp [Lit.wf, IntKind.min, IntKind.max, IntKind.signed, IntKind.bits] at h; omega
theorem open_byteR {T : TypeId} (ht : Tryd.prog.underlying T = some (.int .u8)) {cs : List Value} (h : Rw enc Tryd.prog w T cs) : ∃ x, ByteR cs x := by
  obtain ⟨n, h1, h2⟩ := h.rd.int ht
  exact ⟨n, h1, inU8_of h2⟩
theorem Tryd.cells_0 : Tryd.prog.cellsOf 3 = 1 := by kernel_rfl
theorem Tryd.cells_1 : Tryd.prog.cellsOf 2 = 1 := by kernel_rfl
theorem Tryd.cells_2 : Tryd.prog.cellsOf 4 = 1 := by kernel_rfl
theorem Tryd.cells_3 : Tryd.prog.cellsOf 9 = 1 := by kernel_rfl
theorem Tryd.cells_4 : Tryd.prog.cellsOf 23 = 8 := by kernel_rfl
theorem Tryd.cells_5 : Tryd.prog.cellsOf 63 = 1 := by kernel_rfl
theorem Tryd.cells_6 : Tryd.prog.cellsOf 44 = 1 := by kernel_rfl
theorem Tryd.cells_7 : Tryd.prog.cellsOf 45 = 1 := by kernel_rfl
theorem Tryd.cells_e_byte : Tryd.prog.cellsOf 5 = 1 := by kernel_rfl
theorem Tryd.cells_e_XItem : Tryd.prog.cellsOf 62 = 9 := by kernel_rfl
theorem Tryd.cells_e_XDatum : Tryd.prog.cellsOf 65 = 4 := by kernel_rfl
theorem Tryd.bytes_byte : Tryd.prog.bytesOf 5 = 1 := by kernel_rfl
theorem Tryd.bytes_XItem : Tryd.prog.bytesOf 62 = 88 := by kernel_rfl
theorem Tryd.bytes_XDatum : Tryd.prog.bytesOf 65 = 56 := by kernel_rfl
theorem Tryd.cells_s_XProg : Tryd.prog.cellsOf 47 = 2 := by kernel_rfl
theorem open_XInsR {cs : List Value} (h : Rw enc Tryd.prog w 23 cs) : ∃ x, XInsR cs x := by
  obtain ⟨hl, hf⟩ := h.struct Tryd.underlying23
  rw [Tryd.cells_4] at hl
  match cs, hl, hf with
  | [c0, c1, c2, c3, c4, c5, c6, c7], _, hf =>
    have q0 : Rw enc Tryd.prog w 3 (([c0, c1, c2, c3, c4, c5, c6, c7].drop 0).take (Tryd.prog.cellsOf 3)) := hf 0 _ rfl
    have q1 : Rw enc Tryd.prog w 3 (([c0, c1, c2, c3, c4, c5, c6, c7].drop 1).take (Tryd.prog.cellsOf 3)) := hf 1 _ rfl
    have q2 : Rw enc Tryd.prog w 3 (([c0, c1, c2, c3, c4, c5, c6, c7].drop 2).take (Tryd.prog.cellsOf 3)) := hf 2 _ rfl
    have q3 : Rw enc Tryd.prog w 2 (([c0, c1, c2, c3, c4, c5, c6, c7].drop 3).take (Tryd.prog.cellsOf 2)) := hf 3 _ rfl
    have q4 : Rw enc Tryd.prog w 3 (([c0, c1, c2, c3, c4, c5, c6, c7].drop 4).take (Tryd.prog.cellsOf 3)) := hf 4 _ rfl
    have q5 : Rw enc Tryd.prog w 4 (([c0, c1, c2, c3, c4, c5, c6, c7].drop 5).take (Tryd.prog.cellsOf 4)) := hf 5 _ rfl
    have q6 : Rw enc Tryd.prog w 3 (([c0, c1, c2, c3, c4, c5, c6, c7].drop 6).take (Tryd.prog.cellsOf 3)) := hf 6 _ rfl
    have q7 : Rw enc Tryd.prog w 9 (([c0, c1, c2, c3, c4, c5, c6, c7].drop 7).take (Tryd.prog.cellsOf 9)) := hf 7 _ rfl
    clear hf
    rw [Tryd.cells_0] at q0
    replace q0 : Rw enc Tryd.prog w 3 [c0] := q0
    rw [Tryd.cells_0] at q1
    replace q1 : Rw enc Tryd.prog w 3 [c1] := q1
    rw [Tryd.cells_0] at q2
    replace q2 : Rw enc Tryd.prog w 3 [c2] := q2
    rw [Tryd.cells_1] at q3
    replace q3 : Rw enc Tryd.prog w 2 [c3] := q3
    rw [Tryd.cells_0] at q4
    replace q4 : Rw enc Tryd.prog w 3 [c4] := q4
    rw [Tryd.cells_2] at q5
    replace q5 : Rw enc Tryd.prog w 4 [c5] := q5
    rw [Tryd.cells_0] at q6
    replace q6 : Rw enc Tryd.prog w 3 [c6] := q6
    rw [Tryd.cells_3] at q7
    replace q7 : Rw enc Tryd.prog w 9 [c7] := q7
    obtain ⟨x0, e0, n0⟩ := open_intR Tryd.underlying3 q0
    simp only [List.cons.injEq, and_true] at e0
    subst e0
    obtain ⟨x1, e1, n1⟩ := open_intR Tryd.underlying3 q1
    simp only [List.cons.injEq, and_true] at e1
    subst e1
    obtain ⟨x2, e2, n2⟩ := open_intR Tryd.underlying3 q2
    simp only [List.cons.injEq, and_true] at e2
    subst e2
    obtain ⟨x3, e3, n3⟩ := open_intR Tryd.underlying2 q3
    simp only [List.cons.injEq, and_true] at e3
    subst e3
    obtain ⟨x4, e4, n4⟩ := open_intR Tryd.underlying3 q4
    simp only [List.cons.injEq, and_true] at e4
    subst e4
    obtain ⟨x5, e5⟩ := open_boolR Tryd.underlying4 q5
    simp only [BoolR, List.cons.injEq, and_true] at e5
    subst e5
    obtain ⟨x6, e6, n6⟩ := open_intR Tryd.underlying3 q6
    simp only [List.cons.injEq, and_true] at e6
    subst e6
    obtain ⟨x7, e7, n7⟩ := q7.rd.string Tryd.underlying9
    simp only [List.cons.injEq, and_true] at e7
    subst e7
    exact ⟨⟨x0, x1, x2, x3, x4, x5, x6, x7⟩, rfl, n0, n1, n2, n3, n4, n6, n7⟩
theorem open_XItemR {cs : List Value} (h : Rw enc Tryd.prog w 62 cs) : ∃ x, XItemR cs x := by
  obtain ⟨hl, hf⟩ := h.struct Tryd.underlying62
  rw [Tryd.cells_e_XItem] at hl
  match cs, hl, hf with
  | [c0, c1, c2, c3, c4, c5, c6, c7, c8], _, hf =>
    have q0 : Rw enc Tryd.prog w 9 (([c0, c1, c2, c3, c4, c5, c6, c7, c8].drop 0).take (Tryd.prog.cellsOf 9)) := hf 0 _ rfl
    have q1 : Rw enc Tryd.prog w 23 (([c0, c1, c2, c3, c4, c5, c6, c7, c8].drop 1).take (Tryd.prog.cellsOf 23)) := hf 1 _ rfl
    clear hf
    rw [Tryd.cells_3] at q0
    replace q0 : Rw enc Tryd.prog w 9 [c0] := q0
    rw [Tryd.cells_4] at q1
    replace q1 : Rw enc Tryd.prog w 23 [c1, c2, c3, c4, c5, c6, c7, c8] := q1
    obtain ⟨x0, e0, n0⟩ := q0.rd.string Tryd.underlying9
    simp only [List.cons.injEq, and_true] at e0
    subst e0
    obtain ⟨x1, e1, n1_0, n1_1, n1_2, n1_3, n1_4, n1_5, n1_6⟩ := open_XInsR q1
    simp only [List.cons.injEq, and_true] at e1
    obtain ⟨rfl, rfl, rfl, rfl, rfl, rfl, rfl, rfl⟩ := e1
    exact ⟨⟨x0, x1⟩, rfl, n0, n1_0, n1_1, n1_2, n1_3, n1_4, n1_5, n1_6⟩
theorem open_XDatumR {cs : List Value} (h : Rw enc Tryd.prog w 65 cs) : ∃ x, XDatumR w cs x := by
  obtain ⟨hl, hf⟩ := h.struct Tryd.underlying65
  rw [Tryd.cells_e_XDatum] at hl
  match cs, hl, hf with
  | [c0, c1, c2, c3], _, hf =>
    have q0 : Rw enc Tryd.prog w 3 (([c0, c1, c2, c3].drop 0).take (Tryd.prog.cellsOf 3)) := hf 0 _ rfl
    have q1 : Rw enc Tryd.prog w 9 (([c0, c1, c2, c3].drop 1).take (Tryd.prog.cellsOf 9)) := hf 1 _ rfl
    have q2 : Rw enc Tryd.prog w 63 (([c0, c1, c2, c3].drop 2).take (Tryd.prog.cellsOf 63)) := hf 2 _ rfl
    have q3 : Rw enc Tryd.prog w 3 (([c0, c1, c2, c3].drop 3).take (Tryd.prog.cellsOf 3)) := hf 3 _ rfl
    clear hf
    rw [Tryd.cells_0] at q0
    replace q0 : Rw enc Tryd.prog w 3 [c0] := q0
    rw [Tryd.cells_3] at q1
    replace q1 : Rw enc Tryd.prog w 9 [c1] := q1
    rw [Tryd.cells_5] at q2
    replace q2 : Rw enc Tryd.prog w 63 [c2] := q2
    rw [Tryd.cells_0] at q3
    replace q3 : Rw enc Tryd.prog w 3 [c3] := q3
    obtain ⟨x0, e0, n0⟩ := open_intR Tryd.underlying3 q0
    simp only [List.cons.injEq, and_true] at e0
    subst e0
    obtain ⟨x1, e1, n1⟩ := q1.rd.string Tryd.underlying9
    simp only [List.cons.injEq, and_true] at e1
    subst e1
    obtain ⟨A2, l2, p2, e2, g2, h2, s2, w2⟩ := q2.slice Tryd.underlying63
    rw [Tryd.bytes_byte] at w2
    unfold reachBytes at w2
    rw [Tryd.cells_e_byte] at s2
    simp only [List.cons.injEq, and_true] at e2
    subst e2
    obtain ⟨x2, rfl, n2⟩ := SlR.of (R := ByteR) (by decide) s2 g2 h2 (fun cs hc => open_byteR Tryd.underlying5 hc)
    obtain ⟨x3, e3, n3⟩ := open_intR Tryd.underlying3 q3
    simp only [List.cons.injEq, and_true] at e3
    subst e3
    exact ⟨⟨x0, x1, x2, x3⟩, _, rfl, n0, n1, n2, (by show x2.length ≤ 140737488351232; omega), n3⟩
theorem open_XProgR {cs : List Value} (h : Rw enc Tryd.prog w 47 cs) : ∃ x, XProgR w cs x := by
  obtain ⟨hl, hf⟩ := h.struct Tryd.underlying47
  rw [Tryd.cells_s_XProg] at hl
  match cs, hl, hf with
  | [c0, c1], _, hf =>
    have q0 : Rw enc Tryd.prog w 44 (([c0, c1].drop 0).take (Tryd.prog.cellsOf 44)) := hf 0 _ rfl
    have q1 : Rw enc Tryd.prog w 45 (([c0, c1].drop 1).take (Tryd.prog.cellsOf 45)) := hf 1 _ rfl
    clear hf
    rw [Tryd.cells_6] at q0
    replace q0 : Rw enc Tryd.prog w 44 [c0] := q0
    rw [Tryd.cells_7] at q1
    replace q1 : Rw enc Tryd.prog w 45 [c1] := q1
    obtain ⟨A0, l0, p0, e0, g0, h0, s0, w0⟩ := q0.slice Tryd.underlying44
    rw [Tryd.bytes_XDatum] at w0
    unfold reachBytes at w0
    rw [Tryd.cells_e_XDatum] at s0
    simp only [List.cons.injEq, and_true] at e0
    subst e0
    obtain ⟨x0, rfl, n0⟩ := SlR.of (R := XDatumR w) (by decide) s0 g0 h0 (fun cs hc => open_XDatumR hc)
    obtain ⟨A1, l1, p1, e1, g1, h1, s1, w1⟩ := q1.slice Tryd.underlying45
    rw [Tryd.bytes_XItem] at w1
    unfold reachBytes at w1
    rw [Tryd.cells_e_XItem] at s1
    simp only [List.cons.injEq, and_true] at e1
    subst e1
    obtain ⟨x1, rfl, n1⟩ := SlR.of (R := XItemR) (by decide) s1 g1 h1 (fun cs hc => open_XItemR hc)
    exact ⟨⟨x0, x1⟩, _, _, rfl, n0, (by show x0.length ≤ 140737488351232; omega), n1, (by show x1.length ≤ 140737488351232; omega)⟩
end
end Go.Proofs.YtpkbkmppkgeklaaDoor
namespace Go.Proofs.YtpkbkmppkgeklaaDoor
open Go.RowKit
set_option linter.unusedVariables false
set_option maxRecDepth 20000
theorem open_prog {H : Type} {enc : TypeId × Value → H} {w : World} {r : Reach} {b0 : Nat} {v : Value} {d : DataW H} {p : List MemPlace} (hv : Value.okWide Tryd.prog w r b0 47 v) (h : DataW.Trod enc Tryd.prog w 0 (fun _ => true) true 47 v d p) (hw : ∀ b ∈ d.weights Tryd.prog 47, b ≤ reachBytes) :
    ∃ (x : XProgD) (vd vc : Value), v = .agg #[vd, vc] ∧ SlR w 4 (XDatumR w) vd x.data ∧ x.data.length ≤ 140737488351232 ∧ SlR w 9 XItemR vc x.code ∧ x.code.length ≤ 140737488351232 := by
  obtain ⟨cs, rfl, hr⟩ := open_structW Tryd.underlying47 hv h hw
  obtain ⟨x, vd, vc, e, h1, h2, h3, h4⟩ := open_XProgR hr
  refine ⟨x, vd, vc, ?_, h1, h2, h3, h4⟩
  congr 1
  exact Array.ext' (by simpa using e)
end Go.Proofs.YtpkbkmppkgeklaaDoor
namespace Go.Proofs.YtpkbkmppkgeklaaDoor
open Go.RowKit
set_option linter.unusedVariables false
section
variable {P : Program} {w w' : World}
theorem own_ne {base base2 size size2 n n2 : Nat} {T T2 : TypeId} {v v2 : Value} {xs xs2 : List Value} (h : w.ownsRow base T size v n xs) (h2 : w.ownsRow base2 T2 size2 v2 n2 xs2) (hT : T ≠ T2) : v.ownBlock = none ∨ v.ownBlock ≠ v2.ownBlock := by
  rcases h.2 with ⟨rfl, e⟩ | ⟨g, cap, cur, rfl, h3, h4, _⟩
  · exact Or.inl rfl
  · rcases h2.2 with ⟨rfl, e⟩ | ⟨g2, cap2, cur2, rfl, h5, h6, _⟩
    · exact Or.inr (by simp [Value.ownBlock])
    · refine Or.inr (fun e => ?_)
      simp only [Value.ownBlock, Option.some.injEq] at e
      subst e
      rw [h4] at h6
      simp only [Option.some.injEq, Obj.cells.injEq] at h6
      exact hT h6.2.1
theorem own_blk {base size n b : Nat} {T T2 : TypeId} {v : Value} {xs : List Value} {cs : Array Value} {fr : Nat × Nat} (h : w.ownsRow base T size v n xs) (h2 : w.heap[b]? = some (.cells cs T2 fr)) (hT : T ≠ T2) : v.ownBlock = none ∨ v.ownBlock ≠ some b := by
  rcases h.2 with ⟨rfl, e⟩ | ⟨g, cap, cur, rfl, h3, h4, _⟩
  · exact Or.inl rfl
  · refine Or.inr (fun e => ?_)
    simp only [Value.ownBlock, Option.some.injEq] at e
    subst e
    rw [h4] at h2
    simp only [Option.some.injEq, Obj.cells.injEq] at h2
    exact hT h2.2.1
theorem blk_kept {b : Nat} {cs : Array Value} {T : TypeId} {fr : Nat × Nat} {r : Option Nat} (h : w.heap[b]? = some (.cells cs T fr)) (hg : w.grownBy w' r) (hr : r = none ∨ r ≠ some b) : w'.heap[b]? = some (.cells cs T fr) := by
  refine (hg.block b (blk_lt h) ?_).trans h
  rcases hr with rfl | hr
  · simp
  · exact fun e => hr e.symm
theorem own_base {base B size n : Nat} {T : TypeId} {v : Value} {xs : List Value} (h : w.ownsRow base T size v n xs) (hB : B ≤ base) : w.ownsRow B T size v n xs := by
  refine ⟨h.1, ?_⟩
  rcases h.2 with h1 | ⟨g, cap, cur, h1, h2, h3⟩
  · exact Or.inl h1
  · exact Or.inr ⟨g, cap, cur, h1, by omega, h3⟩
theorem own_below {base size n : Nat} {T : TypeId} {v : Value} {xs : List Value} (h : w.ownsRow base T size v n xs) (hb : Below w.heap.size w w') : w'.ownsRow base T size v n xs :=
  h.kept (row := none) ⟨hb.os, hb.tape, hb.output, hb.size, fun k hk _ => hb.block k hk⟩ (by cases v.ownBlock <;> simp)
theorem own_slice {base size n : Nat} {T : TypeId} {v : Value} {xs : List Value} (h : w.ownsRow base T size v n xs) : ∃ A cap, v = .slice A n cap ∧ n ≤ maxLen := by
  rcases h.2 with ⟨rfl, e⟩ | ⟨g, cap, cur, rfl, h1, h2, h3, h4, _⟩
  · exact ⟨_, _, by rw [e], by rw [e]; decide⟩
  · exact ⟨_, _, rfl, by omega⟩
theorem grown_trans {w1 w2 : World} {r : Option Nat} (h : w.grownBy w1 r) (k : w1.grownBy w2 r) : w.grownBy w2 r :=
  ⟨k.os.trans h.os, k.tape.trans h.tape, k.output.trans h.output, Nat.le_trans h.size k.size, fun j hj hne => (k.block j (Nat.lt_of_lt_of_le hj h.size) hne).trans (h.block j hj hne)⟩
theorem below_of_grown {B : Nat} {w0 : World} {r : Option Nat} (hb : Below B w0 w) (hB : B ≤ w0.heap.size) (hg : w.grownBy w' r) (hr : ∀ k, r = some k → B ≤ k) : Below B w0 w' :=
  ⟨hg.os.trans hb.os, hg.tape.trans hb.tape, hg.output.trans hb.output, Nat.le_trans hb.size hg.size, fun k hk => by
    refine (hg.block k (by have := hb.size; omega) (fun e => ?_)).trans (hb.block k hk)
    have := hr k e.symm
    omega⟩
/-- where an appended row lies now -/
def Moved (w : World) (v v' : Value) : Prop := ∀ k, v'.ownBlock = some k → v.ownBlock = some k ∨ w.heap.size ≤ k
theorem append_row (base : Nat) (t ty e : TypeId) (i : TypeInfo) (z : Value) (bytes : Nat) (ht : P.underlying t = some (.slice e)) (hi : P.info? e = some i) (hz : i.zero = some z)
    (hsize : i.size = 1) (hby : i.bytes = bytes) (hzs : z.cells.size = 1) (v : Value) (n : Nat) (xs : List Value) (hown : w.ownsRow base e 1 v n xs)
    (a : Addr) (m c : Nat) (news : List Value) (hl : news.length = m) (hnews : ∀ j u, news[j]? = some u → w.cell? (a.add j) = some u) (h1 : ∀ u ∈ news, u.oneCell' = true)
    (h63 : n + m ≤ maxLen) (hbytes : (n + m) * bytes ≤ 140737488355328) (hbase : base ≤ w.heap.size) :
    ∃ v' w', (Builtin.append_ #[t, t] ty #[v, .slice (some a) m c]).run P w = .ok v' w' ∧ w'.ownsRow base e 1 v' (n + m) (xs ++ news) ∧ w.grownBy w' v.ownBlock ∧ Moved w v v' := by
  have hl' : news.length = m * 1 := by omega
  rcases hown.2 with ⟨rfl, rfl⟩ | ⟨g, cap, cur, rfl, g1, g2, g3, g4, g5, g6⟩
  · obtain ⟨v', w', r1, r2, r3, _⟩ := run_append_own (P := P) (w := w) w.heap.size t ty e i z 1 bytes ht hi hz hsize hby hzs (by decide) _ 0 xs ⟨hown.1, Or.inl ⟨rfl, rfl⟩⟩ a m c news hl' hnews h1 h63 hbytes (Nat.le_refl _)
    exact ⟨v', w', r1, own_base r2 hbase, r3, fun k hk => Or.inr (r2.lt k hk).1⟩
  · by_cases hc : n + m ≤ cap
    · obtain ⟨v', w', r1, r2, r3, _⟩ := run_append_own (P := P) (w := w) base t ty e i z 1 bytes ht hi hz hsize hby hzs (by decide) _ n xs hown a m c news hl' hnews h1 h63 hbytes hbase
      have hx : xs.length = n := by have := hown.1; omega
      have hr := run_append_room_cells (P := P) (w := w) t ty e i ht hi g 0 n cap a m c news (by rw [hsize]; exact hl') hnews h1 hc (fun j hj => by
          rw [hsize]
          have hjc : n * 1 + j < cur.size := by omega
          have : w.cell? ⟨g, 0 + n * 1 + j, none⟩ = some cur[n * 1 + j] := blk_cell g2 (by rw [show 0 + n * 1 + j = n * 1 + j by omega]; exact Array.getElem?_eq_getElem hjc)
          rw [this]; rfl) (fun j hj => blk_free g2)
      rw [hr] at r1
      simp only [Result.ok.injEq] at r1
      obtain ⟨e1, e2⟩ := r1
      subst e1 e2
      exact ⟨_, _, hr, r2, r3, fun k hk => Or.inl hk⟩
    · have hx : xs.length = n := by have := hown.1; omega
      obtain ⟨v', w', r1, r2, r3⟩ := run_append_arg_grows (P := P) (w := w) t ty e i z 1 bytes ht hi hz hsize hby hzs (by decide) ⟨g, 0, none⟩ n cap xs hown.1 (fun j u hj => by
          have hjn : j < n := by have := (List.getElem?_eq_some_iff.1 hj).1; omega
          rw [Addr.add_lit, Nat.zero_add, hown.cellAt j (by omega)]; exact hj) a m c news hl' hnews (by omega) h63 hbytes
      exact ⟨v', w', r1, own_base r2 hbase, ⟨r3.os, r3.tape, r3.output, r3.size, fun k hk _ => r3.block k hk (by simp)⟩, fun k hk => Or.inr (r2.lt k hk).1⟩
/-- one more, that lies in the newest block -/
theorem append_one (base : Nat) (t e : TypeId) (i : TypeInfo) (z : Value) (bytes : Nat) (ht : P.underlying t = some (.slice e)) (hi : P.info? e = some i) (hz : i.zero = some z)
    (hsize : i.size = 1) (hby : i.bytes = bytes) (hzs : z.cells.size = 1) (v : Value) (n : Nat) (xs : List Value) (hown : w.ownsRow base e 1 v n xs) (x : Value) (g : Nat) (hg : g = w.heap.size) (hx : x.oneCell' = true)
    (h63 : n + 1 ≤ maxLen) (hbytes : (n + 1) * bytes ≤ 140737488355328) (hbase : base ≤ w.heap.size) :
    ∃ v' w', (Builtin.append_ #[t, t] t #[v, .slice (some ⟨g, 0, none⟩) 1 1]).run P (w.alloc (.cells #[x] e)) = .ok v' w' ∧ w'.ownsRow base e 1 v' (n + 1) (xs ++ [x]) ∧ w.grownBy w' v.ownBlock ∧ Moved w v v' := by
  subst hg
  obtain ⟨v', w', r1, r2, r3, r4⟩ := append_row (P := P) (w := w.alloc (.cells #[x] e)) base t t e i z bytes ht hi hz hsize hby hzs v n xs (hown.alloc _) ⟨w.heap.size, 0, none⟩ 1 1 [x] rfl
    (fun j u hj => by
      match j, hj with
      | 0, hj => simp at hj; subst hj; exact blk_cell (blk_new w _) (by rfl)
      | j + 1, hj => simp at hj)
    (fun u hu => by rw [List.mem_singleton.1 hu]; exact hx) h63 hbytes (by simp; omega)
  refine ⟨v', w', r1, r2, grown_trans (w1 := w.alloc (.cells #[x] e)) (World.grownBy_alloc w _ _) r3, fun k hk => ?_⟩
  rcases r4 k hk with h | h
  · exact Or.inl h
  · exact Or.inr (by simp at h; omega)
end
end Go.Proofs.YtpkbkmppkgeklaaDoor
namespace Go.Proofs.YtpkbkmppkgeklaaDoor
open Go.RowKit
set_option linter.unusedVariables false
section
variable {P : Program} {w w' : World}
theorem append_rowC (base : Nat) (t ty e : TypeId) (i : TypeInfo) (z : Value) (size bytes : Nat) (ht : P.underlying t = some (.slice e)) (hi : P.info? e = some i) (hz : i.zero = some z)
    (hsize : i.size = size) (hby : i.bytes = bytes) (hzs : z.cells.size = size) (hsz : 0 < size) (v : Value) (n : Nat) (xs : List Value) (hown : w.ownsRow base e size v n xs)
    (a : Addr) (m c : Nat) (news : List Value) (hl : news.length = m * size) (hnews : ∀ j u, news[j]? = some u → w.cell? (a.add j) = some u) (h1 : ∀ u ∈ news, u.oneCell' = true)
    (h63 : n + m ≤ maxLen) (hbytes : (n + m) * bytes ≤ 140737488355328) (hbase : base ≤ w.heap.size) :
    ∃ v' w', (Builtin.append_ #[t, t] ty #[v, .slice (some a) m c]).run P w = .ok v' w' ∧ w'.ownsRow base e size v' (n + m) (xs ++ news) ∧ w.grownBy w' v.ownBlock ∧ Moved w v v' := by
  rcases hown.2 with ⟨rfl, rfl⟩ | ⟨g, cap, cur, rfl, g1, g2, g3, g4, g5, g6⟩
  · obtain ⟨v', w', r1, r2, r3, _⟩ := run_append_own (P := P) (w := w) w.heap.size t ty e i z size bytes ht hi hz hsize hby hzs hsz _ 0 xs ⟨hown.1, Or.inl ⟨rfl, rfl⟩⟩ a m c news hl hnews h1 h63 hbytes (Nat.le_refl _)
    exact ⟨v', w', r1, own_base r2 hbase, r3, fun k hk => Or.inr (r2.lt k hk).1⟩
  · by_cases hc : n + m ≤ cap
    · obtain ⟨v', w', r1, r2, r3, _⟩ := run_append_own (P := P) (w := w) base t ty e i z size bytes ht hi hz hsize hby hzs hsz _ n xs hown a m c news hl hnews h1 h63 hbytes hbase
      have hcs : n * size + m * size ≤ cap * size := by rw [← Nat.add_mul]; exact Nat.mul_le_mul_right _ hc
      have hr := run_append_room_cells (P := P) (w := w) t ty e i ht hi g 0 n cap a m c news (by rw [hsize]; exact hl) hnews h1 hc (fun j hj => by
          rw [hsize]
          have hjc : n * size + j < cur.size := by omega
          have : w.cell? ⟨g, 0 + n * size + j, none⟩ = some cur[n * size + j] := blk_cell g2 (by rw [show 0 + n * size + j = n * size + j by omega]; exact Array.getElem?_eq_getElem hjc)
          rw [this]; rfl) (fun j hj => blk_free g2)
      rw [hr] at r1
      simp only [Result.ok.injEq] at r1
      obtain ⟨e1, e2⟩ := r1
      subst e1 e2
      exact ⟨_, _, hr, r2, r3, fun k hk => Or.inl hk⟩
    · obtain ⟨v', w', r1, r2, r3⟩ := run_append_arg_grows (P := P) (w := w) t ty e i z size bytes ht hi hz hsize hby hzs hsz ⟨g, 0, none⟩ n cap xs hown.1 (fun j u hj => by
          have hx := hown.1
          have hjn : j < n * size := by have := (List.getElem?_eq_some_iff.1 hj).1; omega
          rw [Addr.add_lit, Nat.zero_add, hown.cellAt j hjn]; exact hj) a m c news hl hnews (by omega) h63 hbytes
      exact ⟨v', w', r1, own_base r2 hbase, ⟨r3.os, r3.tape, r3.output, r3.size, fun k hk _ => r3.block k hk (by simp)⟩, fun k hk => Or.inr (r2.lt k hk).1⟩
/-- one struct more, whose cells lie in the newest block -/
theorem append_oneC (base : Nat) (t e : TypeId) (i : TypeInfo) (z : Value) (size bytes : Nat) (ht : P.underlying t = some (.slice e)) (hi : P.info? e = some i) (hz : i.zero = some z)
    (hsize : i.size = size) (hby : i.bytes = bytes) (hzs : z.cells.size = size) (hsz : 0 < size) (v : Value) (n : Nat) (xs : List Value) (hown : w.ownsRow base e size v n xs) (cs : Array Value) (hcs : cs.size = size) (g : Nat) (hg : g = w.heap.size) (h1 : ∀ u ∈ cs.toList, u.oneCell' = true)
    (h63 : n + 1 ≤ maxLen) (hbytes : (n + 1) * bytes ≤ 140737488355328) (hbase : base ≤ w.heap.size) :
    ∃ v' w', (Builtin.append_ #[t, t] t #[v, .slice (some ⟨g, 0, none⟩) 1 1]).run P (w.alloc (.cells cs e)) = .ok v' w' ∧ w'.ownsRow base e size v' (n + 1) (xs ++ cs.toList) ∧ w.grownBy w' v.ownBlock ∧ Moved w v v' := by
  subst hg
  obtain ⟨v', w', r1, r2, r3, r4⟩ := append_rowC (P := P) (w := w.alloc (.cells cs e)) base t t e i z size bytes ht hi hz hsize hby hzs hsz v n xs (hown.alloc _) ⟨w.heap.size, 0, none⟩ 1 1 cs.toList (by simp [hcs])
    (fun j u hj => by
      rw [Addr.add_lit, Nat.zero_add]
      exact blk_cell (blk_new w _) (by rw [← Array.getElem?_toList]; exact hj))
    h1 h63 hbytes (by simp; omega)
  refine ⟨v', w', r1, r2, grown_trans (w1 := w.alloc (.cells cs e)) (World.grownBy_alloc w _ _) r3, fun k hk => ?_⟩
  rcases r4 k hk with h | h
  · exact Or.inl h
  · exact Or.inr (by simp at h; omega)
end
end Go.Proofs.YtpkbkmppkgeklaaDoor
namespace Go.Proofs.YtpkbkmppkgeklaaDoor
open Go.RowKit Go.Shelf
set_option linter.unusedVariables false
theorem Tryd.lays166 : Go.Proofs.Lays.n166 Tryd.prog Tryd.lays156_ren := { Tryd.lays156 with }
theorem write_str (B b : Nat) (bs : List Value) (s : ByteArray) (w : World) (h : Lib.IsBuilder 68 5 B b bs w) (hlen : bs.length + s.size ≤ 140737488355328) (hBw : B ≤ w.heap.size) :
    Calls Tryd.prog 40 #[.pointer (some ⟨b, 0, none⟩), .string s] w fun e w' => e = .returned (.tuple #[.int .i64 s.size, .nilIface]) ∧ (Lib.BuilderAt 68 5 B b (.pointer (some ⟨b, 0, none⟩)) (bs ++ Lib.strCells s) w' ∧ Below B w w') :=
  Any.Builder_WriteString Tryd.lays166 Tryd.Builder_Extra_156 B b bs s w h hlen hBw
/-- a builder that holds these bytes, some text having been written -/
def BLD (B b : Nat) (l : List UInt8) (w : World) : Prop := Lib.BuilderAt 68 5 B b (.pointer (some ⟨b, 0, none⟩)) (Lib.byteCells l) w
theorem BLD.later {B b : Nat} {l : List UInt8} {w w' : World} (h : BLD B b l w) (hb : Below w.heap.size w w') : BLD B b l w' := by
  obtain ⟨h1, v, h2, h3, h4⟩ := h
  exact ⟨h1, v, blk_below h2 hb, own_below h3 hb, h4⟩
theorem BLD.lt {B b : Nat} {l : List UInt8} {w : World} (h : BLD B b l w) : b < w.heap.size := by
  obtain ⟨_, v, h2, _⟩ := h
  exact blk_lt h2
theorem put_first (B b : Nat) (s : List UInt8) (w : World) (h : Lib.IsBuilder 68 5 B b [] w) (hlen : s.length ≤ 1000000) (hBw : B ≤ w.heap.size) :
    Calls Tryd.prog 40 #[.pointer (some ⟨b, 0, none⟩), .string ⟨⟨s⟩⟩] w fun e w' => e = .returned (.tuple #[.int .i64 (s.length : Nat), .nilIface]) ∧ BLD B b s w' ∧ Below B w w' := by
  refine (write_str B b [] ⟨⟨s⟩⟩ w h (by show 0 + s.length ≤ _; omega) hBw).mono ?_
  rintro e w' ⟨rfl, h1, h2⟩
  exact ⟨rfl, h1, h2⟩
theorem put_more (B b : Nat) (l s : List UInt8) (w : World) (h : BLD B b l w) (hl : l.length ≤ 10000000) (hlen : s.length ≤ 1000000) (hBw : B ≤ w.heap.size) :
    Calls Tryd.prog 40 #[.pointer (some ⟨b, 0, none⟩), .string ⟨⟨s⟩⟩] w fun e w' => e = .returned (.tuple #[.int .i64 (s.length : Nat), .nilIface]) ∧ BLD B b (l ++ s) w' ∧ Below B w w' := by
  refine (write_str B b (Lib.byteCells l) ⟨⟨s⟩⟩ w (Or.inr h) (by rw [Lib.byteCells_length]; show l.length + s.length ≤ _; omega) hBw).mono ?_
  rintro e w' ⟨rfl, h1, h2⟩
  refine ⟨rfl, ?_, h2⟩
  have : Lib.byteCells (l ++ s) = Lib.byteCells l ++ Lib.strCells ⟨⟨s⟩⟩ := by rw [Lib.strCells_eq]; simp [Lib.byteCells]
  unfold BLD
  rw [this]
  exact h1
theorem text_of (B b : Nat) (l : List UInt8) (w : World) (h : BLD B b l w) (hBw : B ≤ w.heap.size) :
    Calls Tryd.prog 42 #[.pointer (some ⟨b, 0, none⟩)] w fun e w' => e = .returned (.string ⟨⟨l⟩⟩) ∧ Below B w w' :=
  Tryd.Builder_String_any B b l w (Or.inr h) hBw
theorem info_parts {o : Option TypeInfo} {z : Value} {a b : Nat} (h : o.map (fun i => (i.zero, i.size, i.bytes)) = some (some z, a, b)) : ∃ i, o = some i ∧ i.zero = some z ∧ i.size = a ∧ i.bytes = b := by
  cases o with
  | none => cases h
  | some i => simp at h; exact ⟨i, rfl, h.1, h.2.1, h.2.2⟩
theorem wpList_append_run {P : Program} (w : World) {ops : Array Oper} {rest : List Oper} {o : Oper} {a : Act} {Q : Exit → Act → World → Prop} (hgd : o.guard = none) (s x : Operand) (t : TypeId)
    (ho : o.op = .call { callee := .builtin .append, args := #[s, x], argTypes := #[t, t] }) (v u v' : Value) (w' : World) (hs : a.eval s = v) (hx : a.eval x = u)
    (hr : (Builtin.append_ #[t, t] o.type #[v, u]).run P w = .ok v' w') (h : wpList P ops Q rest (a.put o.dst v') w') : wpList P ops Q (o :: rest) a w :=
  wpList_plain hgd fun _ hK => by
    unfold Oper.wp execOp
    simp only [ho, resolve, invoke, builtin, Sem.run_bind, Sem.run_pure, Result.andThen_ok, List.map_toArray, List.map_cons, List.map_nil, hs, hx, hr]
    exact hK _ _ h
end Go.Proofs.YtpkbkmppkgeklaaDoor
namespace Go.Proofs.YtpkbkmppkgeklaaDoor
open Go.RowKit
set_option linter.unusedVariables false
def byteLs (l : List Int) : List UInt8 := Lib.join (l.map Lib.itoa) [44]
def datL (d : XDatumD) : List UInt8 :=
  if d.kind = 0 then d.name.data.toList ++ [58]
  else if d.kind = 1 then [9, 46, 98, 121, 116, 101, 32] ++ byteLs d.data
  else if d.kind = 2 then [9, 46, 113, 117, 97, 100, 32] ++ d.name.data.toList
  else if d.kind = 3 then [9, 46, 112, 117, 98, 108, 105, 99, 32] ++ Lib.itoa d.n
  else if d.kind = 4 then [9, 46, 115, 101, 99, 114, 101, 116, 32] ++ Lib.itoa d.n
  else [9, 46, 122, 101, 114, 111, 32] ++ Lib.itoa d.n
/-- the text up to so many data, in bytes -/
def datT (l : List XDatumD) : List UInt8 := [9, 46, 100, 97, 116, 97, 10] ++ (l.map fun d => datL d ++ [10]).flatten
theorem datT_snoc (l : List XDatumD) (d : XDatumD) : datT (l ++ [d]) = datT l ++ (datL d ++ [10]) := by
  unfold datT
  rw [List.map_append, List.flatten_append, List.append_assoc]
  simp
theorem take_more {α : Type} {l : List α} {k : Nat} {x : α} (h : l[k]? = some x) : l.take (k + 1) = l.take k ++ [x] := by
  obtain ⟨hlt, e⟩ := List.getElem?_eq_some_iff.1 h
  rw [List.take_succ_eq_append_getElem hlt, e]
theorem byteLs_nil : byteLs [] = [] := rfl
theorem byteLs_one (x : Int) : byteLs [x] = Lib.itoa x := by simp [byteLs, Lib.join, List.intercalate]
theorem join_snoc (sep x : List UInt8) : ∀ (l : List (List UInt8)), l ≠ [] → Lib.join (l ++ [x]) sep = Lib.join l sep ++ sep ++ x
  | [], h => absurd rfl h
  | [a], _ => by simp [Lib.join, List.intercalate]
  | a :: b :: l, _ => by
    have ih := join_snoc sep x (b :: l) (by simp)
    have c : ∀ (y : List UInt8) (z : List UInt8) (r : List (List UInt8)), Lib.join (y :: z :: r) sep = y ++ sep ++ Lib.join (z :: r) sep := fun y z r => by simp [Lib.join, List.intercalate]
    rw [List.cons_append, List.cons_append, c, c, ← List.cons_append, ih]
    simp
theorem byteLs_snoc (l : List Int) (x : Int) (h : l ≠ []) : byteLs (l ++ [x]) = byteLs l ++ [44] ++ Lib.itoa x := by
  unfold byteLs
  rw [List.map_append]
  exact join_snoc _ _ _ (by simpa using h)
/-- bytes that came in -/
def Bytes255 (l : List Int) : Prop := ∀ (i : Nat) x, l[i]? = some x → 0 ≤ x ∧ x ≤ 255
theorem itoa_small {x : Int} (h : 0 ≤ x ∧ x ≤ 255) : (Lib.itoa x).length ≤ 20 := itoa_len ⟨by omega, by omega⟩
theorem join_len (sep : List UInt8) (C : Nat) : ∀ (l : List (List UInt8)), (∀ a ∈ l, a.length ≤ C) → (Lib.join l sep).length ≤ l.length * (C + sep.length)
  | [], _ => by simp [Lib.join, List.intercalate]
  | [a], h => by
    have := h a (by simp)
    simp [Lib.join, List.intercalate]; omega
  | a :: b :: l, h => by
    have ih := join_len sep C (b :: l) (fun x hx => h x (List.mem_cons_of_mem _ hx))
    have ha := h a (by simp)
    have c : Lib.join (a :: b :: l) sep = a ++ sep ++ Lib.join (b :: l) sep := by simp [Lib.join, List.intercalate]
    rw [c]
    simp only [List.length_append, List.length_cons, Nat.add_mul, Nat.one_mul] at ih ⊢
    omega
theorem byteLs_len (l : List Int) (h : Bytes255 l) : (byteLs l).length ≤ l.length * 21 := by
  unfold byteLs
  have := join_len [44] 20 (l.map Lib.itoa) (fun a ha => by
    obtain ⟨x, hx, rfl⟩ := List.mem_map.1 ha
    obtain ⟨i, hi⟩ := List.mem_iff_getElem?.1 hx
    exact itoa_small (h i x hi))
  simpa using this
theorem Bytes255.take {l : List Int} (h : Bytes255 l) (k : Nat) : Bytes255 (l.take k) := fun i x hx => by
  rw [List.getElem?_take] at hx
  split at hx
  · exact h i x hx
  · cases hx
theorem datL_len (d : XDatumD) (hn : In64 d.n) (hs : d.name.size ≤ 100) (hd : Bytes255 d.data) : (datL d).length ≤ 120 + d.data.length * 21 := by
  have h1 := itoa_len hn
  have h2 := byteLs_len d.data hd
  have h3 : d.name.data.toList.length ≤ 100 := hs
  unfold datL
  repeat' split
  all_goals simp only [List.length_append, List.length_cons, List.length_nil]
  all_goals omega
/-- how long the text is -/
def sumD (l : List XDatumD) : Nat := (l.map (·.data.length)).sum
theorem sumD_snoc (l : List XDatumD) (d : XDatumD) : sumD (l ++ [d]) = sumD l + d.data.length := by simp [sumD]
theorem sumD_take (l : List XDatumD) : ∀ k, sumD (l.take k) ≤ sumD l := by
  intro k
  have : sumD l = sumD (l.take k) + sumD (l.drop k) := by
    unfold sumD
    rw [← List.sum_append, ← List.map_append, List.take_append_drop]
  omega
structure DatOk (l : List XDatumD) : Prop where
  each : ∀ (i : Nat) d, l[i]? = some d → In64 d.n ∧ d.name.size ≤ 100 ∧ Bytes255 d.data
  len : l.length ≤ 200
  sum : sumD l ≤ 5000
theorem datT_len (l : List XDatumD) (h : DatOk l) : ∀ k, k ≤ l.length → (datT (l.take k)).length ≤ 7 + k * 121 + sumD (l.take k) * 21
  | 0, _ => by simp [datT]
  | k + 1, hk => by
    have ih := datT_len l h k (by omega)
    obtain ⟨d, hd⟩ : ∃ d, l[k]? = some d := ⟨_, List.getElem?_eq_getElem (by omega)⟩
    obtain ⟨h1, h2, h3⟩ := h.each k d hd
    have h4 := datL_len d h1 h2 h3
    rw [take_more hd, datT_snoc, sumD_snoc]
    simp only [List.length_append, List.length_cons, List.length_nil, Nat.add_mul, Nat.one_mul]
    omega
theorem datT_small (l : List XDatumD) (h : DatOk l) (k : Nat) (hk : k ≤ l.length) : (datT (l.take k)).length ≤ 200000 := by
  have h1 := datT_len l h k hk
  have h2 := sumD_take l k
  have h3 := h.sum
  have h4 := h.len
  omega
theorem DatOk.dat {l : List XDatumD} (h : DatOk l) {k : Nat} {d : XDatumD} (hd : l[k]? = some d) : d.data.length ≤ 5000 := by
  have h1 := sumD_take l (k + 1)
  rw [take_more hd, sumD_snoc] at h1
  have := h.sum
  omega
end Go.Proofs.YtpkbkmppkgeklaaDoor
namespace Go.Proofs.YtpkbkmppkgeklaaDoor
open Go.RowKit
set_option linter.unusedVariables false
set_option maxHeartbeats 2000000
theorem itoa_any (w : World) (hP : PowOk w) (n : Int) (h : In64 n) : Calls Tryd.prog 48 #[.int .i64 n] w fun e w' => e = .returned (.string (numB n)) ∧ Below w.heap.size w w' :=
  (Tryd.strconv_Itoa n h.1 h.2 w hP.1).mono (fun e w' ⟨h1, k, os, h2⟩ => ⟨h1, by rw [h2]; exact Lib.below_grow _ w (Nat.le_refl _) k os⟩)
theorem Tryd.infoStr : (Tryd.prog.info? 9).map (fun i => (i.zero, i.size, i.bytes)) = some (some (.string ⟨#[]⟩), 1, 16) := by kernel_rfl
def sv (l : List Int) : List Value := l.map fun x => Value.string (numB x)
theorem join_any (w : World) (B : Nat) (v : Value) (l : List Int) (hb : Bytes255 l) (hl : l.length ≤ 5000) (h : w.ownsRow B 9 1 v l.length (sv l)) :
    Calls Tryd.prog 49 #[v, .string ⟨#[44]⟩] w fun e w' => e = .returned (.string ⟨⟨byteLs l⟩⟩) ∧ Below w.heap.size w w' := by
  have hlen := byteLs_len l hb
  rcases h.2 with ⟨rfl, e⟩ | ⟨g, cap, cur, rfl, h1, h2, h3, h4, h5⟩
  · obtain rfl : l = [] := List.length_eq_zero_iff.1 e
    refine (Tryd.strings_Join_none none 0 ⟨#[44]⟩ w).mono ?_
    rintro e w' ⟨rfl, rfl⟩
    exact ⟨rfl, Below.refl _ _⟩
  · have hm : (l.map numB).map (·.data.toList) = l.map Lib.itoa := by rw [List.map_map]; rfl
    have H := Tryd.strings_Join g 0 cap (l.map numB) ⟨#[44]⟩ w (fun j x hx => by
      have hj : j < l.length := by have := (List.getElem?_eq_some_iff.1 hx).1; simpa using this
      have e := World.ownsRow.cellAt h j (by omega)
      rw [Nat.zero_add, e]
      unfold sv
      rw [List.getElem?_map] at hx ⊢
      cases hq : l[j]? with
      | none => rw [hq] at hx; cases hx
      | some y => rw [hq] at hx; simp at hx; simp [hx]) (blk_lt h2) (by simp; omega) (by simpa using h3) (by rw [hm]; show (byteLs l).length ≤ _; omega)
    rw [hm, List.length_map] at H
    exact H
theorem own_str {w : World} {B : Nat} {v : Value} {l : List Int} (h : w.ownsRow B 9 1 v l.length (sv l)) (x : Int) (hl : l.length ≤ 5000) (hB : B ≤ w.heap.size) :
    ∃ v' w', (Builtin.append_ #[36, 36] 36 #[v, .slice (some ⟨w.heap.size, 0, none⟩) 1 1]).run Tryd.prog (w.alloc (.cells #[.string (numB x)] 9)) = .ok v' w' ∧ w'.ownsRow B 9 1 v' (l ++ [x]).length (sv (l ++ [x])) ∧ w.grownBy w' v.ownBlock := by
  obtain ⟨i0, hi, hz0, hz1, hz2⟩ := info_parts Tryd.infoStr
  obtain ⟨v', w', r1, r2, r3, r4⟩ := append_one (P := Tryd.prog) (w := w) B 36 9 i0 _ 16 Tryd.underlying36 hi hz0 hz1 hz2 rfl v l.length (sv l) h (.string (numB x)) _ rfl rfl (by unfold maxLen; omega) (by omega) hB
  refine ⟨v', w', r1, ?_, r3⟩
  rw [List.length_append, show sv (l ++ [x]) = sv l ++ [.string (numB x)] by simp [sv]]
  exact r2
def datumV (d : XDatumD) (v : Value) : Value := .agg #[.int .i64 d.kind, .string d.name, v, .int .i64 d.n]
theorem datum_bytes (w : World) (hP : PowOk w) (d : XDatumD) (v : Value) (hk : d.kind = 1) (hs : SlR w 1 ByteR v d.data) (hl : d.data.length ≤ 5000) (hb : Bytes255 d.data) :
    Calls Tryd.prog 41 #[datumV d v] w fun e w' => e = .returned (.string ⟨⟨datL d⟩⟩) ∧ Below w.heap.size w w' := by
  obtain ⟨A, cap, rfl, k1, k2, k3⟩ := hs
  have HS := Lib.hid (show SlR w 1 ByteR (.slice A d.data.length cap) d.data from ⟨A, cap, rfl, k1, k2, k3⟩)
  have HD := Lib.hid (show datL d = [9, 46, 98, 121, 116, 101, 32] ++ byteLs d.data by unfold datL; rw [hk]; rfl)
  have HBy := Lib.hid hb
  have HP := Lib.hid hP
  unfold datumV
  obtain ⟨kind, name, data, n⟩ := d
  subst hk
  simp only at *
  clear k1 k2 k3 hb hP
  go_enter Tryd.func41, Tryd.ntmps41
  go_wp2_with fail
  have HB0 : Below w.heap.size w (w.alloc (.cells #[.int .i64 1, .string name, .slice A data.length cap, .int .i64 n] 65)) := below_alloc _ (Below.refl _ _)
  go_loopw [3, 18] (fun u i wr => ∃ k : Nat, k ≤ data.length ∧ i = .int .i64 k ∧ wr.ownsRow w.heap.size 9 1 u (data.take k).length (sv (data.take k)) ∧ Below w.heap.size w wr) (fun _ i _ => data.length - (intOf i).toNat)
  case atStart => exact ⟨0, by omega, rfl, World.ownsRow_nil _ _ _ _, HB0⟩
  case round =>
    obtain ⟨k, hk, rfl, ho, hb⟩ := hrel
    have HB := Lib.hid hb
    have HO := Lib.hid ho
    have hkl : (data.take k).length = k := by simp; omega
    obtain ⟨A2, c2, hu, _⟩ := own_slice ho
    rw [hkl] at hu
    subst hu
    have HKL := Lib.hid hkl
    clear hb ho hkl
    by_cases hlt : k < data.length
    · obtain ⟨x, hx⟩ : ∃ x, data[k]? = some x := ⟨_, List.getElem?_eq_getElem hlt⟩
      obtain ⟨A3, c3, e1, _, _, e4⟩ := HS.out.later (by decide) HB.out
      simp only [Value.slice.injEq] at e1
      obtain ⟨rfl, _, rfl⟩ := e1
      obtain ⟨b, o, cs, rfl, g2, g3, rfl, g4, g5⟩ := e4 k x hx
      have z0 : wr.cell? ⟨b, o + k, none⟩ = some (.int .u8 x) := by simpa using g3 0 (by decide)
      have HI := Lib.hid (itoa_any wr (HP.out.below HB.out) x ⟨by omega, by omega⟩)
      have HX := Lib.hid (take_more hx)
      have hlx := World.block_lt_of_cell? _ _ z0
      clear g3 e4 hx
      go_wp2_with fail
      refine HI.out.mono ?_
      rintro e w2 ⟨rfl, kb⟩
      obtain ⟨v', w', r1, r2, r3⟩ := own_str (own_below HO.out kb) x (by rw [HKL.out]; omega) (Nat.le_trans HB.out.size kb.size)
      have HR := Lib.hid r2
      have HB2 := Lib.hid (below_of_grown (HB.out.bt kb) (Nat.le_refl _) r3 (fun j hj => (HO.out.lt j hj).1))
      clear r2 r3 kb
      go_wp2_with (at_builtin; refine wpList_append_run _ rfl _ _ _ rfl _ _ _ _ rfl rfl r1 ?_)
      go_roundw
      case rel => exact ⟨k + 1, by omega, by go_num, by rw [HX.out]; exact HR.out, HB2.out⟩
      case measure => simp [intOf]; omega
    · have e : k = data.length := by omega
      subst e
      have HJ := Lib.hid (join_any wr w.heap.size (.slice A2 data.length c2) data HBy.out hl (by have := HO.out; rw [List.take_length] at this; exact this))
      have hsz : (⟨⟨byteLs data⟩⟩ : ByteArray).size ≤ 105000 := by have := byteLs_len data HBy.out; rw [size_mk]; omega
      go_wp2_with fail
      refine HJ.out.mono ?_
      rintro e w2 ⟨rfl, kb⟩
      obtain ⟨S, hS⟩ : ∃ S : ByteArray, S = ⟨⟨byteLs data⟩⟩ := ⟨_, rfl⟩
      rw [← hS] at hsz ⊢
      have HS2 := Lib.hid hS
      have HKB := Lib.hid (HB.out.bt kb)
      clear hS kb
      go_wp2_with fail
      go_returns
      exact ⟨by rw [HD.out, HS2.out]; exact congrArg (fun z => Ending.returned (Value.string z)) (app_eq [9, 46, 98, 121, 116, 101, 32] (byteLs data)), HKB.out⟩
theorem app_lit (a : ByteArray) (l : List UInt8) : (a ++ ⟨⟨l⟩⟩ : ByteArray) = ⟨⟨a.data.toList ++ l⟩⟩ := by obtain ⟨⟨x⟩⟩ := a; exact app_eq x l
theorem lit_app (l : List UInt8) (a : ByteArray) : (⟨⟨l⟩⟩ ++ a : ByteArray) = ⟨⟨l ++ a.data.toList⟩⟩ := by obtain ⟨⟨x⟩⟩ := a; exact app_eq l x
theorem datum_rest (w : World) (hP : PowOk w) (d : XDatumD) (v : Value) (hk : d.kind ≠ 1) (hv : ∃ A m c, v = .slice A m c) (hn : In64 d.n) (hs : d.name.size ≤ 100) :
    Calls Tryd.prog 41 #[datumV d v] w fun e w' => e = .returned (.string ⟨⟨datL d⟩⟩) ∧ Below w.heap.size w w' := by
  have HN := Lib.hid hn
  have HP := Lib.hid hP
  have hz := numB_size hn
  obtain ⟨A, m, cap, rfl⟩ := hv
  unfold datumV datL
  obtain ⟨kind, name, data, n⟩ := d
  simp only at *
  have HB0 : Below w.heap.size w (w.alloc (.cells #[.int .i64 kind, .string name, .slice A m cap, .int .i64 n] 65)) := below_alloc _ (Below.refl _ _)
  have HT := Lib.hid (fun W (h : Below w.heap.size w W) => itoa_any W (HP.out.below h) n HN.out)
  obtain ⟨S, hS⟩ : ∃ S : ByteArray, S = numB n := ⟨_, rfl⟩
  rw [← hS] at hz HT
  have hS2 : S = ⟨⟨Lib.itoa n⟩⟩ := hS
  have HS := Lib.hid hS2
  have HB := Lib.hid HB0
  clear hn hP HN HP hS hS2 HB0
  by_cases k0 : kind = 0
  · subst k0
    go_enter Tryd.func41, Tryd.ntmps41
    go_wp2_with fail
    go_returns
    exact ⟨congrArg (fun z => Ending.returned (Value.string z)) (app_lit name [58]), HB.out⟩
  by_cases k2 : kind = 2
  · subst k2
    go_enter Tryd.func41, Tryd.ntmps41
    go_wp2_with fail
    go_returns
    exact ⟨congrArg (fun z => Ending.returned (Value.string z)) (lit_app [9, 46, 113, 117, 97, 100, 32] name), HB.out⟩
  by_cases k3 : kind = 3
  · subst k3
    go_enter Tryd.func41, Tryd.ntmps41
    go_wp2_with fail
    refine (HT.out _ HB.out).mono ?_
    rintro e w2 ⟨rfl, kb⟩
    have HKB := Lib.hid (HB.out.bt kb)
    clear kb
    go_wp2_with fail
    go_returns
    exact ⟨by rw [HS.out]; exact congrArg (fun z => Ending.returned (Value.string z)) (app_eq [9, 46, 112, 117, 98, 108, 105, 99, 32] (Lib.itoa n)), HKB.out⟩
  by_cases k4 : kind = 4
  · subst k4
    go_enter Tryd.func41, Tryd.ntmps41
    go_wp2_with fail
    refine (HT.out _ HB.out).mono ?_
    rintro e w2 ⟨rfl, kb⟩
    have HKB := Lib.hid (HB.out.bt kb)
    clear kb
    go_wp2_with fail
    go_returns
    exact ⟨by rw [HS.out]; exact congrArg (fun z => Ending.returned (Value.string z)) (app_eq [9, 46, 115, 101, 99, 114, 101, 116, 32] (Lib.itoa n)), HKB.out⟩
  · rw [if_neg k0, if_neg hk, if_neg k2, if_neg k3, if_neg k4]
    go_enter Tryd.func41, Tryd.ntmps41
    go_wp2_with fail
    refine (HT.out _ HB.out).mono ?_
    rintro e w2 ⟨rfl, kb⟩
    have HKB := Lib.hid (HB.out.bt kb)
    clear kb
    go_wp2_with fail
    go_returns
    exact ⟨by rw [HS.out]; exact congrArg (fun z => Ending.returned (Value.string z)) (app_eq [9, 46, 122, 101, 114, 111, 32] (Lib.itoa n)), HKB.out⟩
theorem datum_any (w : World) (hP : PowOk w) (d : XDatumD) (v : Value) (hs : SlR w 1 ByteR v d.data) (hl : d.data.length ≤ 5000) (hn : In64 d.n) (hz : d.name.size ≤ 100) :
    Calls Tryd.prog 41 #[datumV d v] w fun e w' => e = .returned (.string ⟨⟨datL d⟩⟩) ∧ Below w.heap.size w w' := by
  by_cases hk : d.kind = 1
  · exact datum_bytes w hP d v hk hs hl (fun i x hx => by obtain ⟨A, cap, _, _, _, h⟩ := hs; obtain ⟨b, o, cs, _, _, _, h4⟩ := h i x hx; exact h4.2)
  · obtain ⟨A, cap, rfl, _⟩ := id hs
    exact datum_rest w hP d _ hk ⟨_, _, _, rfl⟩ hn hz
end Go.Proofs.YtpkbkmppkgeklaaDoor
namespace Go.Proofs.YtpkbkmppkgeklaaDoor
open Go.RowKit
set_option linter.unusedVariables false
set_option maxHeartbeats 2000000
set_option maxRecDepth 20000
/-- rows of cells that read as these -/
def El {α : Type} (C : Nat) (R : List Value → α → Prop) (l : List α) (css : List (List Value)) : Prop := css.length = l.length ∧ (∀ cs ∈ css, cs.length = C) ∧ ∀ (i : Nat) cs x, css[i]? = some cs → l[i]? = some x → R cs x
theorem El.nil {α : Type} (C : Nat) (R : List Value → α → Prop) : El C R [] [] := ⟨rfl, (fun cs h => by cases h), fun i cs x h => by simp at h⟩
theorem El.snoc {α : Type} {C : Nat} {R : List Value → α → Prop} {l : List α} {css : List (List Value)} (h : El C R l css) (cs : List Value) (x : α) (hc : cs.length = C) (hr : R cs x) : El C R (l ++ [x]) (css ++ [cs]) := by
  obtain ⟨h1, h2, h3⟩ := h
  refine ⟨by simp [h1], fun c hm => ?_, fun i c y hi hy => ?_⟩
  · rcases List.mem_append.1 hm with hm | hm
    · exact h2 c hm
    · rw [List.mem_singleton.1 hm]; exact hc
  · by_cases hlt : i < css.length
    · rw [List.getElem?_append_left hlt] at hi
      rw [List.getElem?_append_left (by omega)] at hy
      exact h3 i c y hi hy
    · have e : i = css.length := by have := (List.getElem?_eq_some_iff.1 hi).1; simp at this; omega
      subst e
      rw [List.getElem?_append_right (Nat.le_refl _), Nat.sub_self] at hi
      rw [h1, List.getElem?_append_right (Nat.le_refl _), Nat.sub_self] at hy
      simp only [List.getElem?_cons_zero, Option.some.injEq] at hi hy
      subst hi hy
      exact hr
theorem flatten_atC (C : Nat) : ∀ (css : List (List Value)) (i j : Nat) (cs : List Value), (∀ cs ∈ css, cs.length = C) → css[i]? = some cs → j < C → css.flatten[i * C + j]? = cs[j]?
  | [], i, j, cs, _, h, _ => by simp at h
  | c :: css, 0, j, cs, hl, h, hj => by
    obtain rfl : c = cs := by simpa using h
    have := hl c List.mem_cons_self
    rw [List.flatten_cons, Nat.zero_mul, Nat.zero_add, List.getElem?_append_left (by omega)]
  | c :: css, i + 1, j, cs, hl, h, hj => by
    have h0 := hl c List.mem_cons_self
    rw [List.flatten_cons, List.getElem?_append_right (by rw [Nat.add_mul, Nat.one_mul]; omega), show (i + 1) * C + j - c.length = i * C + j by rw [Nat.add_mul, Nat.one_mul]; omega]
    exact flatten_atC C css i j cs (fun x hx => hl x (List.mem_cons_of_mem _ hx)) (by simpa using h) hj
theorem El.slR {α : Type} {C B : Nat} {T : TypeId} {R : List Value → α → Prop} {l : List α} {css : List (List Value)} {w : World} {v : Value} (h : El C R l css) (ho : w.ownsRow B T C v l.length css.flatten) : SlR w C R v l := by
  obtain ⟨h1, h2, h3⟩ := h
  rcases ho.2 with ⟨rfl, e⟩ | ⟨g, cap, cur, rfl, k1, k2, k3, k4, _⟩
  · exact ⟨none, 0, by rw [e], by omega, by decide, fun i x hi => by have := (List.getElem?_eq_some_iff.1 hi).1; omega⟩
  · refine ⟨_, cap, rfl, k3, k4, fun i x hi => ?_⟩
    have hlt : i < l.length := (List.getElem?_eq_some_iff.1 hi).1
    obtain ⟨cs, hcs⟩ : ∃ cs, css[i]? = some cs := ⟨_, List.getElem?_eq_getElem (by omega)⟩
    have hcl := h2 cs (List.mem_of_getElem? hcs)
    refine ⟨g, 0, cs, rfl, hcl, fun j hj => ?_, h3 i cs x hcs hi⟩
    have hk : i * C + j < l.length * C := by
      have : (i + 1) * C ≤ l.length * C := Nat.mul_le_mul_right C (by omega)
      rw [Nat.add_mul, Nat.one_mul] at this
      omega
    rw [Nat.zero_add, World.ownsRow.cellAt ho (i * C + j) hk]
    exact flatten_atC C css i j cs h2 hcs hj
theorem SlR.weaken {α : Type} {w : World} {C : Nat} {R R' : List Value → α → Prop} {v : Value} {l : List α} (h : SlR w C R v l) (hR : ∀ cs x, R cs x → R' cs x) : SlR w C R' v l := by
  obtain ⟨A, cap, e, h1, h2, h3⟩ := h
  refine ⟨A, cap, e, h1, h2, fun i x hi => ?_⟩
  obtain ⟨b, o, cs, k1, k2, k3, k4⟩ := h3 i x hi
  exact ⟨b, o, cs, k1, k2, k3, hR cs x k4⟩
theorem XDatumR.later {w w' : World} {cs : List Value} {x : XDatumD} (h : XDatumR w cs x) (hb : Below w.heap.size w w') : XDatumR w' cs x := by
  obtain ⟨v, rfl, h1, h2, h3, h4, h5⟩ := h
  exact ⟨v, rfl, h1, h2, h3.later (by decide) hb, h4, h5⟩
theorem info_partsC {P : Program} {T : TypeId} {C B : Nat} (h : (P.info? T).map (fun i => (i.zero.map (·.cells.size), i.size, i.bytes)) = some (some C, C, B)) : ∃ i z, P.info? T = some i ∧ i.zero = some z ∧ z.cells.size = C ∧ i.size = C ∧ i.bytes = B := by
  cases hi : P.info? T with
  | none => rw [hi] at h; cases h
  | some i =>
    rw [hi] at h
    simp only [Option.map_some, Option.some.injEq, Prod.mk.injEq] at h
    obtain ⟨h1, h2, h3⟩ := h
    cases hz : i.zero with
    | none => rw [hz] at h1; cases h1
    | some z => rw [hz] at h1; exact ⟨i, z, rfl, hz, by simpa using h1, h2, h3⟩
theorem grown_set (w : World) (b j : Nat) (v : Value) : w.grownBy (w.setCell ⟨b, j, none⟩ v) (some b) := ⟨rfl, rfl, rfl, by simp [World.setCell], fun k hk hne => Below.heap_setCell w ⟨b, j, none⟩ v k (fun e => hne (by rw [e]))⟩
/-- Old on its way: so many data, so many items are over -/
structure OldS (pb : Array Value) (w0 w : World) (data : List XDatumD) (code : List XItemD) (vd vc : Value) (cd cc : List (List Value)) : Prop where
  box : w.heap[w0.heap.size]? = some (.cells pb 47 (0, 0))
  res : w.heap[w0.heap.size + 1]? = some (.cells #[.slice none 0 0, .slice none 0 0] 54 (0, 0))
  ob : w.heap[w0.heap.size + 1 + 1]? = some (.cells #[vd, vc] 54 (0, 0))
  rd : w.ownsRow (w0.heap.size + 3) 75 4 vd data.length cd.flatten
  rc : w.ownsRow (w0.heap.size + 3) 77 9 vc code.length cc.flatten
  ed : El 4 (XDatumR w0) data cd
  ec : El 9 XItemR code cc
  below : Below w0.heap.size w0 w
section
variable {pb : Array Value} {w0 w : World} {data : List XDatumD} {code : List XItemD} {vd vc : Value} {cd cc : List (List Value)}
theorem OldS.later {w' : World} (h : OldS pb w0 w data code vd vc cd cc) (hb : Below w.heap.size w w') : OldS pb w0 w' data code vd vc cd cc :=
  ⟨blk_below h.box hb, blk_below h.res hb, blk_below h.ob hb, own_below h.rd hb, own_below h.rc hb, h.ed, h.ec, h.below.bt hb⟩
def datC (d : XDatumD) (v : Value) : Array Value := #[.int .i64 d.kind, .string d.name, v, .int .i64 d.n]
def itemC (c : XItemD) : Array Value := #[.string c.label, .int .i64 c.ins.op, .int .i64 c.ins.dst, .int .i64 c.ins.src, .int .i64 c.ins.imm, .int .i64 c.ins.size, .bool c.ins.signed, .int .i64 c.ins.cond, .string c.ins.to_]
theorem OldS.addD (h : OldS pb w0 w data code vd vc cd cc) (d : XDatumD) (v : Value) (hr : XDatumR w0 (datC d v).toList d) (hl : data.length ≤ 200) (w2 : World) (g : Nat) (hw : Below w.heap.size w w2) (hg : g = w2.heap.size) (hv1 : v.oneCell' = true) :
    ∃ v' w', (Builtin.append_ #[51, 51] 51 #[vd, .slice (some ⟨g, 0, none⟩) 1 1]).run Tryd.prog (w2.alloc (.cells (datC d v) 75)) = .ok v' w' ∧ (∃ A m c, v' = .slice A m c) ∧
      w'.cell? ⟨w0.heap.size + 1 + 1, 0, none⟩ = some vd ∧ w'.frozen? ⟨w0.heap.size + 1 + 1, 0, none⟩ = false ∧ w0.heap.size + 1 + 1 < w'.heap.size ∧ OldS pb w0 (w'.setCell ⟨w0.heap.size + 1 + 1, 0, none⟩ v') (data ++ [d]) code v' vc (cd ++ [(datC d v).toList]) cc := by
  have h2 := h.later hw
  obtain ⟨i0, z0, q1, q2, q3, q4, q5⟩ := info_partsC (C := 4) (B := 56) (show (Tryd.prog.info? 75).map (fun i => (i.zero.map (·.cells.size), i.size, i.bytes)) = some (some 4, 4, 56) by kernel_rfl)
  obtain ⟨v', w', r1, r2, r3, r4⟩ := append_oneC (P := Tryd.prog) (w := w2) (w0.heap.size + 3) 51 75 i0 z0 4 56 Tryd.underlying51 q1 q2 q4 q5 q3 (by decide) vd data.length cd.flatten h2.rd (datC d v) rfl g hg
    (fun u hu => by simp only [datC, List.mem_cons, List.not_mem_nil, or_false] at hu; rcases hu with e | e | e | e <;> subst e <;> first | rfl | exact hv1) (by unfold maxLen; omega) (by omega) (by have := blk_lt h2.ob; omega)
  have ho : w'.heap[w0.heap.size + 1 + 1]? = some (.cells #[vd, vc] 54 (0, 0)) := blk_kept h2.ob r3 (own_blk h2.rd h2.ob (by decide))
  have hr2 : w'.heap[w0.heap.size + 1]? = some (.cells #[.slice none 0 0, .slice none 0 0] 54 (0, 0)) := blk_kept h2.res r3 (own_blk h2.rd h2.res (by decide))
  have hx2 := blk_kept h2.box r3 (own_blk h2.rd h2.box (by decide))
  have hc2 := World.ownsRow.kept h2.rc r3 (own_ne h2.rc h2.rd (by decide))
  have hb2 := below_of_grown h2.below (Nat.le_refl _) r3 (fun k hk => by have := (h2.rd.lt k hk).1; omega)
  obtain ⟨A, c, rfl, _⟩ := own_slice r2
  have V := blk_setCell (i := 0) ho (.slice A (data.length + 1) c)
  have G := grown_set w' (w0.heap.size + 1 + 1) 0 (.slice A (data.length + 1) c)
  refine ⟨_, w', r1, ⟨_, _, _, rfl⟩, blk_cell ho rfl, blk_free ho, blk_lt ho, ?_⟩
  have r2' : w'.ownsRow (w0.heap.size + 3) 75 4 (.slice A (data.length + 1) c) (data ++ [d]).length (cd ++ [(datC d v).toList]).flatten := by simpa using r2
  exact ⟨blk_kept hx2 G (Or.inr (by simp; omega)), blk_kept hr2 G (Or.inr (by simp)), by rw [V]; rfl, World.ownsRow.kept r2' G (own_blk r2 ho (by decide)), World.ownsRow.kept hc2 G (own_blk hc2 ho (by decide)), h.ed.snoc _ d rfl hr, h.ec, hb2.setCell (p := ⟨w0.heap.size + 1 + 1, 0, none⟩) (by show w0.heap.size ≤ w0.heap.size + 1 + 1; omega) _⟩
theorem OldS.addC (h : OldS pb w0 w data code vd vc cd cc) (x : XItemD) (hr : XItemR (itemC x).toList x) (hl : code.length ≤ 500) (w2 : World) (g : Nat) (hw : Below w.heap.size w w2) (hg : g = w2.heap.size) :
    ∃ v' w', (Builtin.append_ #[52, 52] 52 #[vc, .slice (some ⟨g, 0, none⟩) 1 1]).run Tryd.prog (w2.alloc (.cells (itemC x) 77)) = .ok v' w' ∧ (∃ A m c, v' = .slice A m c) ∧
      w'.cell? ⟨w0.heap.size + 1 + 1, 1, none⟩ = some vc ∧ w'.frozen? ⟨w0.heap.size + 1 + 1, 1, none⟩ = false ∧ w0.heap.size + 1 + 1 < w'.heap.size ∧ OldS pb w0 (w'.setCell ⟨w0.heap.size + 1 + 1, 1, none⟩ v') data (code ++ [x]) vd v' cd (cc ++ [(itemC x).toList]) := by
  have h2 := h.later hw
  obtain ⟨i0, z0, q1, q2, q3, q4, q5⟩ := info_partsC (C := 9) (B := 88) (show (Tryd.prog.info? 77).map (fun i => (i.zero.map (·.cells.size), i.size, i.bytes)) = some (some 9, 9, 88) by kernel_rfl)
  obtain ⟨v', w', r1, r2, r3, r4⟩ := append_oneC (P := Tryd.prog) (w := w2) (w0.heap.size + 3) 52 77 i0 z0 9 88 Tryd.underlying52 q1 q2 q4 q5 q3 (by decide) vc code.length cc.flatten h2.rc (itemC x) rfl g hg
    (fun u hu => by simp only [itemC, List.mem_cons, List.not_mem_nil, or_false] at hu; rcases hu with e | e | e | e | e | e | e | e | e <;> subst e <;> rfl) (by unfold maxLen; omega) (by omega) (by have := blk_lt h2.ob; omega)
  have ho : w'.heap[w0.heap.size + 1 + 1]? = some (.cells #[vd, vc] 54 (0, 0)) := blk_kept h2.ob r3 (own_blk h2.rc h2.ob (by decide))
  have hr2 : w'.heap[w0.heap.size + 1]? = some (.cells #[.slice none 0 0, .slice none 0 0] 54 (0, 0)) := blk_kept h2.res r3 (own_blk h2.rc h2.res (by decide))
  have hx2 := blk_kept h2.box r3 (own_blk h2.rc h2.box (by decide))
  have hd2 := World.ownsRow.kept h2.rd r3 (own_ne h2.rd h2.rc (by decide))
  have hb2 := below_of_grown h2.below (Nat.le_refl _) r3 (fun k hk => by have := (h2.rc.lt k hk).1; omega)
  obtain ⟨A, c, rfl, _⟩ := own_slice r2
  have V := blk_setCell (i := 1) ho (.slice A (code.length + 1) c)
  have G := grown_set w' (w0.heap.size + 1 + 1) 1 (.slice A (code.length + 1) c)
  refine ⟨_, w', r1, ⟨_, _, _, rfl⟩, blk_cell ho rfl, blk_free ho, blk_lt ho, ?_⟩
  have r2' : w'.ownsRow (w0.heap.size + 3) 77 9 (.slice A (code.length + 1) c) (code ++ [x]).length (cc ++ [(itemC x).toList]).flatten := by simpa using r2
  exact ⟨blk_kept hx2 G (Or.inr (by simp; omega)), blk_kept hr2 G (Or.inr (by simp)), by rw [V]; rfl, World.ownsRow.kept hd2 G (own_blk hd2 ho (by decide)), World.ownsRow.kept r2' G (own_blk r2 ho (by decide)), h.ed, h.ec.snoc _ x rfl hr, hb2.setCell (p := ⟨w0.heap.size + 1 + 1, 1, none⟩) (by show w0.heap.size ≤ w0.heap.size + 1 + 1; omega) _⟩
end
theorem old_any (w : World) (p : XProgD) (vd vc : Value) (hd : SlR w 4 (XDatumR w) vd p.data) (hc : SlR w 9 XItemR vc p.code) (ld : p.data.length ≤ 200) (lc : p.code.length ≤ 500) :
    Calls Tryd.prog 22 #[.agg #[vd, vc]] w fun e w' => ∃ od oc, e = .returned (.agg #[od, oc]) ∧ SlR w' 4 (XDatumR w') od p.data ∧ SlR w' 9 XItemR oc p.code ∧ Below w.heap.size w w' := by
  obtain ⟨A1, cap1, rfl, h11, h12, h13⟩ := hd
  obtain ⟨A2, cap2, rfl, h21, h22, h23⟩ := hc
  have H1 := Lib.hid (show SlR w 4 (XDatumR w) (.slice A1 p.data.length cap1) p.data from ⟨A1, cap1, rfl, h11, h12, h13⟩)
  have H2 := Lib.hid (show SlR w 9 XItemR (.slice A2 p.code.length cap2) p.code from ⟨A2, cap2, rfl, h21, h22, h23⟩)
  clear h11 h12 h13 h21 h22 h23
  obtain ⟨data, code⟩ := p
  simp only at *
  obtain ⟨wi, hwi⟩ : ∃ wi, wi = ((w.alloc (.cells #[.slice A1 data.length cap1, .slice A2 code.length cap2] 47)).alloc (.cells #[.slice none 0 0, .slice none 0 0] 54)).alloc (.cells #[.slice none 0 0, .slice none 0 0] 54) := ⟨_, rfl⟩
  have hbi : Below w.heap.size w wi := by rw [hwi]; exact below_alloc _ (below_alloc _ (below_alloc _ (Below.refl _ _)))
  have kp : wi.heap[w.heap.size]? = some (.cells #[.slice A1 data.length cap1, .slice A2 code.length cap2] 47 (0, 0)) := by rw [hwi]; exact blk_alloc (blk_alloc (blk_new w _) _) _
  have HI : OldS #[.slice A1 data.length cap1, .slice A2 code.length cap2] w wi [] [] (.slice none 0 0) (.slice none 0 0) [] [] :=
    ⟨kp, by rw [hwi]; exact blk_alloc (by have := blk_new (w.alloc (.cells #[.slice A1 data.length cap1, .slice A2 code.length cap2] 47)) (.cells #[.slice none 0 0, .slice none 0 0] 54); simpa using this) _,
     by rw [hwi]; have := blk_new ((w.alloc (.cells #[.slice A1 data.length cap1, .slice A2 code.length cap2] 47)).alloc (.cells #[.slice none 0 0, .slice none 0 0] 54)) (.cells #[.slice none 0 0, .slice none 0 0] 54); simpa using this,
     World.ownsRow_nil _ _ _ _, World.ownsRow_nil _ _ _ _, El.nil _ _, El.nil _ _, hbi⟩
  have HI := Lib.hid HI
  clear hbi kp
  go_enter Tryd.func22, Tryd.ntmps22
  go_wp2_with fail
  rw [← hwi]
  go_loopw [11] (fun i wr => ∃ (k : Nat) (vd : Value) (cd : List (List Value)), k ≤ data.length ∧ i = .int .i64 k ∧ OldS #[.slice A1 data.length cap1, .slice A2 code.length cap2] w wr (data.take k) [] vd (.slice none 0 0) cd []) (fun i _ => data.length - (intOf i).toNat)
  case atStart => exact ⟨0, _, _, by omega, rfl, HI.out⟩
  case round =>
    obtain ⟨k, vd, cd, hk, rfl, hO⟩ := hrel
    have HO := Lib.hid hO
    have hkl : (data.take k).length = k := by simp; omega
    obtain ⟨A3, c3, hu, _⟩ := own_slice hO.rd
    rw [hkl] at hu
    subst hu
    by_cases hlt : k < data.length
    · obtain ⟨x, hx⟩ : ∃ x, data[k]? = some x := ⟨_, List.getElem?_eq_getElem hlt⟩
      obtain ⟨A4, c4, e1, _, _, e4⟩ := H1.out.later (by decide) hO.below
      simp only [Value.slice.injEq] at e1
      obtain ⟨rfl, _, rfl⟩ := e1
      obtain ⟨b, o, cs, rfl, g2, g3, g4⟩ := e4 k x hx
      have HR := Lib.hid g4
      obtain ⟨v, rfl, n1, n2, n3, n4, n5⟩ := g4
      obtain ⟨A5, c5, rfl, _⟩ := n3
      have z0 : wr.cell? ⟨b, o + k * 4, none⟩ = some (.int .i64 x.kind) := g3 0 (by decide)
      have z1 : wr.cell? ⟨b, o + k * 4 + 1, none⟩ = some (.string x.name) := g3 1 (by decide)
      have z2 : wr.cell? ⟨b, o + k * 4 + 2, none⟩ = some (.slice A5 x.data.length c5) := g3 2 (by decide)
      have z3 : wr.cell? ⟨b, o + k * 4 + 3, none⟩ = some (.int .i64 x.n) := g3 3 (by decide)
      have hlx := World.block_lt_of_cell? _ _ z0
      have o0 := blk_cell (i := 0) hO.ob rfl
      have o1 := blk_lt hO.ob
      have HX := Lib.hid (take_more hx)
      obtain ⟨v', w', r1, ⟨A6, m6, c6, hv'⟩, r2, r3, r4, r5⟩ := hO.addD x (.slice A5 x.data.length c5) HR.out (by simp; omega) (wr.alloc (.cells (datC x (.slice A5 x.data.length c5)) 65)) (wr.heap.size + 1) (below_alloc _ (Below.refl _ _)) (by simp) rfl
      subst hv'
      have HR5 := Lib.hid r5
      clear hkl g3 e4 hx r5 hO n1 n2 n4 n5
      go_wp2_with (at_builtin; refine wpList_append_run _ rfl _ _ _ rfl _ _ _ _ rfl rfl r1 ?_)
      go_roundw
      case rel => exact ⟨k + 1, _, _, by omega, by go_num, by rw [HX.out]; exact HR5.out⟩
      case measure => simp [intOf]; omega
    · have e : k = data.length := by omega
      subst e
      rw [List.take_length] at HO
      have pp := HO.out.box
      have p1 := blk_cell (i := 1) pp rfl
      have pl := blk_lt pp
      clear hO hkl hk hlt pp
      go_wp2_with fail
      go_loopw [25] (fun i wr => ∃ (k : Nat) (vc : Value) (cc : List (List Value)), k ≤ code.length ∧ i = .int .i64 k ∧ OldS #[.slice A1 data.length cap1, .slice A2 code.length cap2] w wr data (code.take k) (.slice A3 data.length c3) vc cd cc) (fun i _ => code.length - (intOf i).toNat)
      case atStart => exact ⟨0, _, _, by omega, rfl, HO.out⟩
      case round =>
        obtain ⟨k, vc, cc, hk, rfl, hO⟩ := hrel
        have HO := Lib.hid hO
        have hkl : (code.take k).length = k := by simp; omega
        obtain ⟨A7, c7, hu, _⟩ := own_slice hO.rc
        rw [hkl] at hu
        subst hu
        by_cases hlt : k < code.length
        · obtain ⟨x, hx⟩ : ∃ x, code[k]? = some x := ⟨_, List.getElem?_eq_getElem hlt⟩
          obtain ⟨A4, c4, e1, _, _, e4⟩ := H2.out.later (by decide) hO.below
          simp only [Value.slice.injEq] at e1
          obtain ⟨rfl, _, rfl⟩ := e1
          obtain ⟨b, o, cs, rfl, g2, g3, g4⟩ := e4 k x hx
          have HR := Lib.hid g4
          obtain ⟨rfl, _⟩ := g4
          have z0 : wr.cell? ⟨b, o + k * 9, none⟩ = some (.string x.label) := g3 0 (by decide)
          have z1 : wr.cell? ⟨b, o + k * 9 + 1, none⟩ = some (.int .i64 x.ins.op) := g3 1 (by decide)
          have z2 : wr.cell? ⟨b, o + k * 9 + 2, none⟩ = some (.int .i64 x.ins.dst) := g3 2 (by decide)
          have z3 : wr.cell? ⟨b, o + k * 9 + 3, none⟩ = some (.int .i64 x.ins.src) := g3 3 (by decide)
          have z4 : wr.cell? ⟨b, o + k * 9 + 4, none⟩ = some (.int .i64 x.ins.imm) := g3 4 (by decide)
          have z5 : wr.cell? ⟨b, o + k * 9 + 5, none⟩ = some (.int .i64 x.ins.size) := g3 5 (by decide)
          have z6 : wr.cell? ⟨b, o + k * 9 + 6, none⟩ = some (.bool x.ins.signed) := g3 6 (by decide)
          have z7 : wr.cell? ⟨b, o + k * 9 + 7, none⟩ = some (.int .i64 x.ins.cond) := g3 7 (by decide)
          have z8 : wr.cell? ⟨b, o + k * 9 + 8, none⟩ = some (.string x.ins.to_) := g3 8 (by decide)
          have hlx := World.block_lt_of_cell? _ _ z0
          have o0 := blk_cell (i := 1) hO.ob rfl
          have o1 := blk_lt hO.ob
          have HX := Lib.hid (take_more hx)
          obtain ⟨v', w', r1, ⟨A6, m6, c6, hv'⟩, r2, r3, r4, r5⟩ := hO.addC x HR.out (by simp; omega) (wr.alloc (.cells (itemC x) 62)) (wr.heap.size + 1) (below_alloc _ (Below.refl _ _)) (by simp)
          subst hv'
          have HR5 := Lib.hid r5
          clear hkl g3 e4 hx r5 hO
          go_wp2_with (at_builtin; refine wpList_append_run _ rfl _ _ _ rfl _ _ _ _ rfl rfl r1 ?_)
          go_roundw
          case rel => exact ⟨k + 1, _, _, by omega, by go_num, by rw [HX.out]; exact HR5.out⟩
          case measure => simp [intOf]; omega
        · have e : k = code.length := by omega
          subst e
          rw [List.take_length] at HO
          have HOB := Lib.hid HO.out.ob
          have HRS := Lib.hid HO.out.res
          have s0 := blk_cell (i := 0) HO.out.ob rfl
          have s1 := blk_cell (i := 1) HO.out.ob rfl
          have sl := blk_lt HO.out.ob
          have rl := blk_lt HO.out.res
          clear hO hkl hk hlt p1 pl
          go_wp2_with (refine wpList_store_blk (by rfl) 54 _ _ (by rfl) (w.heap.size + 1) (by rfl) (by rfl) HRS.out (by rfl) (by kernel_rfl) (by kernel_rfl) ?_; intro x2 k3 hb3 hz3 ho3; have q0 : x2.cell? ⟨w.heap.size + 1, 0, none⟩ = some (.slice A3 data.length c3) := blk_cell k3 rfl; have q1 : x2.cell? ⟨w.heap.size + 1, 1, none⟩ = some (.slice A7 code.length c7) := blk_cell k3 rfl; have lr2 := blk_lt k3)
          refine bodyPost_ret (v := .agg #[.slice A3 data.length c3, .slice A7 code.length c7]) (by simp [results, Tryd.results22, go_sem, q0, q1]; try rfl) rfl ?_
          have hbx := hb3 (w.heap.size + 1) _ (Nat.le_refl _) (Below.refl _ _)
          have hgx : World.grownBy _ x2 (some (w.heap.size + 1)) := ⟨hbx.os, hbx.tape, hbx.output, hbx.size, fun j _ hne => ho3 j (fun e => hne (by rw [e]))⟩
          have hb0 := hb3 w.heap.size _ (by omega) HO.out.below
          have hd := World.ownsRow.kept HO.out.rd hgx (own_blk HO.out.rd HRS.out (by decide))
          have hc := World.ownsRow.kept HO.out.rc hgx (own_blk HO.out.rc HRS.out (by decide))
          exact ⟨_, _, rfl, (HO.out.ed.slR hd).weaken (fun cs x h => h.later hb0), HO.out.ec.slR hc, hb0⟩
end Go.Proofs.YtpkbkmppkgeklaaDoor
