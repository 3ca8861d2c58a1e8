/- What structs that came in read as. No condition. -/
import Derived.Test.YtamejgfmfneppaaDoorRe
import Derived.Test.YtamejgfmfneppaaDoorChecked
namespace Go.Proofs.YtamejgfmfneppaaDoor
open Go.RowKit
set_option linter.unusedVariables false
set_option maxRecDepth 20000
structure XInsD where
  op : Int
  dst : Int
  src : Int
  imm : Int
  size : Int
  signed : Bool
  cond : Int
  to_ : ByteArray
structure XItemD where
  label : ByteArray
  ins : XInsD
structure XDatumD where
  kind : Int
  name : ByteArray
  data : List Int
  n : Int
structure XProgD where
  data : List XDatumD
  code : List XItemD
/-- a slice's value whose elements read as these: C cells each -/
def SlR {α : Type} (w : World) (C : Nat) (R : List Value → α → Prop) (v : Value) (xs : List α) : Prop :=
  ∃ A cap, v = .slice A xs.length cap ∧ xs.length ≤ cap ∧ cap ≤ maxLen ∧ ∀ i x, xs[i]? = some x → ∃ b o cs, A = some ⟨b, o, none⟩ ∧ cs.length = C ∧ (∀ j, j < C → w.cell? ⟨b, o + i * C + j, none⟩ = cs[j]?) ∧ R cs x
def IntR (cs : List Value) (x : Int) : Prop := cs = [.int .i64 x] ∧ In64 x
def BoolR (cs : List Value) (x : Bool) : Prop := cs = [.bool x]
def ByteR (cs : List Value) (x : Int) : Prop := cs = [.int .u8 x] ∧ 0 ≤ x ∧ x ≤ 255
def StrR (cs : List Value) (x : ByteArray) : Prop := cs = [.string x] ∧ x.size ≤ maxLen
def PairR (cs : List Value) (x : Int × Int) : Prop := cs = [.int .i64 x.1, .int .i64 x.2] ∧ In64 x.1 ∧ In64 x.2
def XInsR (cs : List Value) (x : XInsD) : Prop := cs = [.int .i64 x.op, .int .i64 x.dst, .int .i64 x.src, .int .i64 x.imm, .int .i64 x.size, .bool x.signed, .int .i64 x.cond, .string x.to_] ∧ In64 x.op ∧ In64 x.dst ∧ In64 x.src ∧ In64 x.imm ∧ In64 x.size ∧ In64 x.cond ∧ x.to_.size ≤ maxLen
def XItemR (cs : List Value) (x : XItemD) : Prop := cs = [.string x.label, .int .i64 x.ins.op, .int .i64 x.ins.dst, .int .i64 x.ins.src, .int .i64 x.ins.imm, .int .i64 x.ins.size, .bool x.ins.signed, .int .i64 x.ins.cond, .string x.ins.to_] ∧ x.label.size ≤ maxLen ∧ In64 x.ins.op ∧ In64 x.ins.dst ∧ In64 x.ins.src ∧ In64 x.ins.imm ∧ In64 x.ins.size ∧ In64 x.ins.cond ∧ x.ins.to_.size ≤ maxLen
def XDatumR (w : World) (cs : List Value) (x : XDatumD) : Prop := ∃ v_data, cs = [.int .i64 x.kind, .string x.name, v_data, .int .i64 x.n] ∧ In64 x.kind ∧ x.name.size ≤ maxLen ∧ SlR w 1 ByteR v_data x.data ∧ x.data.length ≤ 140737488351232 ∧ In64 x.n
def XProgR (w : World) (cs : List Value) (x : XProgD) : Prop := ∃ v_data v_code, cs = [v_data, v_code] ∧ SlR w 4 (XDatumR w) v_data x.data ∧ x.data.length ≤ 140737488351232 ∧ SlR w 9 XItemR v_code x.code ∧ x.code.length ≤ 140737488351232
theorem laterC {w w' : World} {a : Addr} {v : Value} (h : w.cell? a = some v) (hb : Below w.heap.size w w') : w'.cell? a = some v := (hb.cell (World.block_lt_of_cell? w _ h)).trans h
theorem SlR.later {α : Type} {w w' : World} {C : Nat} {R : List Value → α → Prop} {v : Value} {xs : List α} (h : SlR w C R v xs) (hC : 0 < C) (hb : Below w.heap.size w w') : SlR w' C R v xs := by
  obtain ⟨A, cap, h1, h2, h3, h4⟩ := h
  refine ⟨A, cap, h1, h2, h3, fun i x hi => ?_⟩
  obtain ⟨b, o, cs, g1, g2, g3, g4⟩ := h4 i x hi
  refine ⟨b, o, cs, g1, g2, fun j hj => ?_, g4⟩
  have hj2 : j < cs.length := by omega
  have e := g3 j hj
  rw [List.getElem?_eq_getElem hj2] at e ⊢
  exact laterC e hb
set_option maxRecDepth 100000 in
section
variable {H : Type} {enc : TypeId × Value → H} {w : World}
theorem choose_list {α : Type} {p : Nat → α → Prop} : ∀ (n : Nat), (∀ i, i < n → ∃ x, p i x) → ∃ xs : List α, xs.length = n ∧ ∀ i x, xs[i]? = some x → p i x
  | 0, _ => ⟨[], rfl, fun i x h => by simp at h⟩
  | n + 1, h => by
    obtain ⟨xs, h1, h2⟩ := choose_list n (fun i hi => h i (by omega))
    obtain ⟨x, hx⟩ := h n (by omega)
    refine ⟨xs ++ [x], by simp [h1], fun i y hi => ?_⟩
    rw [List.getElem?_append] at hi
    split at hi
    · exact h2 i y hi
    · rename_i hlt
      have : i = n := by
        have := (List.getElem?_eq_some_iff.1 hi).1
        simp at this; omega
      subst this
      rw [h1, Nat.sub_self] at hi
      simp at hi
      subst hi
      exact hx
theorem spot_none {a : Addr} {v : Value} (h : w.cell? a = some v) : a.spot = none := by
  unfold World.cell? at h
  split at h
  · split at h
    · cases h
    · rename_i hs
      cases e : a.spot with
      | none => rfl
      | some x => rw [e] at hs; exact absurd rfl hs
  · cases h
theorem addr_lit {a : Addr} (h : a.spot = none) (n : Nat) : a.add n = ⟨a.block, a.off + n, none⟩ := by
  unfold Addr.add
  split
  · rename_i e; subst e; cases a; simp_all
  · rfl
theorem pair_len {T E : TypeId} {fuel : Nat} {cs : List Value} {x : DataW H × List MemPlace} (hT : Tryd.prog.underlying T = some (.array 2 E)) (hC : Tryd.prog.cellsOf T = 2) (h : DataW.trod enc Tryd.prog w 0 (fun _ => true) true fuel T cs = some x) : cs.length = 2 := by
  obtain ⟨xs, m, _, hx, h1, hlen, hi⟩ := DataW.trod_array hT h
  rw [← hC]; exact h1
theorem SlR.of {α : Type} {A : Option Addr} {len cap C : Nat} {R0 : List Value → Prop} {R : List Value → α → Prop} (hC : 0 < C) (h : SliceAt w A len C R0) (hl : len ≤ cap) (hc : cap ≤ maxLen) (hR : ∀ cs, R0 cs → ∃ x, R cs x) : ∃ xs : List α, xs.length = len ∧ SlR w C R (.slice A len cap) xs := by
  obtain ⟨xs, h1, h2⟩ := choose_list (p := fun i x => ∃ b o cs, A = some ⟨b, o, none⟩ ∧ cs.length = C ∧ (∀ j, j < C → w.cell? ⟨b, o + i * C + j, none⟩ = cs[j]?) ∧ R cs x) len (fun i hi => by
    obtain ⟨ad, cs, g1, g2, g3, g4⟩ := h i hi
    obtain ⟨ad0, cs0, k1, k2, k3, _⟩ := h 0 (by omega)
    rw [g1] at k1
    obtain rfl := Option.some.inj k1
    have e0 := k3 0 hC
    rw [Nat.zero_mul, List.getElem?_eq_getElem (by omega)] at e0
    have hs : ad.spot = none := spot_none (a := ad) (by simpa [Addr.add] using e0)
    obtain ⟨x, hx⟩ := hR cs g4
    refine ⟨x, ad.block, ad.off, cs, ?_, g2, fun j hj => ?_, hx⟩
    · rw [g1]; cases ad; simp_all
    · rw [← g3 j hj, addr_lit hs, Nat.add_assoc])
  subst h1
  exact ⟨xs, rfl, A, cap, rfl, hl, hc, h2⟩
theorem open_intR {T : TypeId} (ht : Tryd.prog.underlying T = some (.int .i64)) {cs : List Value} (h : Rw enc Tryd.prog w T cs) : ∃ x, IntR cs x := by
  obtain ⟨n, h1, h2⟩ := h.rd.int ht
  exact ⟨n, h1, in64_of h2⟩
theorem open_u64R {T : TypeId} (ht : Tryd.prog.underlying T = some (.int .u64)) {cs : List Value} (h : Rw enc Tryd.prog w T cs) : ∃ x, cs = [.int .u64 x] ∧ InU64 x := by
  obtain ⟨n, h1, h2⟩ := h.rd.int ht
  exact ⟨n, h1, inU64_of h2⟩
theorem open_strR {T : TypeId} (ht : Tryd.prog.underlying T = some .string) {cs : List Value} (h : Rw enc Tryd.prog w T cs) : ∃ x, StrR cs x := by
  obtain ⟨n, h1, h2⟩ := h.rd.string ht
  exact ⟨n, h1, h2⟩
theorem open_pairR {T E : TypeId} (hT : Tryd.prog.underlying T = some (.array 2 E)) (hE : Tryd.prog.underlying E = some (.int .i64)) (hc : Tryd.prog.cellsOf E = 1) {cs : List Value} (h : Rw enc Tryd.prog w T cs) (hl : cs.length = 2) : ∃ x, PairR cs x := by
  obtain ⟨fuel, x, hf, _⟩ := h
  obtain ⟨xs, m, _, hx, _, hlen, hi⟩ := DataW.trod_array hT hf
  obtain ⟨x0, x1, rfl⟩ : ∃ x0 x1, xs = [x0, x1] := by
    match xs, hlen with
    | [x0, x1], _ => exact ⟨x0, x1, rfl⟩
  obtain ⟨c0, c1, rfl⟩ : ∃ c0 c1, cs = [c0, c1] := by
    match cs, hl with
    | [c0, c1], _ => exact ⟨c0, c1, rfl⟩
  have h0 := hi 0 (by decide)
  have h1 := hi 1 (by decide)
  simp only [hc] at h0 h1
  obtain ⟨a, ha, _, wa⟩ := DataW.trod_int hE (by simpa using h0)
  obtain ⟨b, hb, _, wb⟩ := DataW.trod_int hE (by simpa using h1)
  simp at ha hb
  subst ha hb
  exact ⟨(a, b), rfl, in64_of wa, in64_of wb⟩
theorem open_boolR {T : TypeId} (ht : Tryd.prog.underlying T = some .bool) {cs : List Value} (h : Rw enc Tryd.prog w T cs) : ∃ x, BoolR cs x := by
  obtain ⟨n, h1⟩ := h.rd.bool ht
  exact ⟨n, h1⟩
theorem inU8_of {n : Int} (h : (Lit.int .u8 n).wf = true) : 0 ≤ n ∧ n ≤ 255 := by
  simp [Lit.wf, IntKind.min, IntKind.max, IntKind.signed, IntKind.bits] at h; omega
theorem open_byteR {T : TypeId} (ht : Tryd.prog.underlying T = some (.int .u8)) {cs : List Value} (h : Rw enc Tryd.prog w T cs) : ∃ x, ByteR cs x := by
  obtain ⟨n, h1, h2⟩ := h.rd.int ht
  exact ⟨n, h1, inU8_of h2⟩
theorem Tryd.cells_0 : Tryd.prog.cellsOf 3 = 1 := by kernel_rfl
theorem Tryd.cells_1 : Tryd.prog.cellsOf 2 = 1 := by kernel_rfl
theorem Tryd.cells_2 : Tryd.prog.cellsOf 4 = 1 := by kernel_rfl
theorem Tryd.cells_3 : Tryd.prog.cellsOf 9 = 1 := by kernel_rfl
theorem Tryd.cells_4 : Tryd.prog.cellsOf 28 = 8 := by kernel_rfl
theorem Tryd.cells_5 : Tryd.prog.cellsOf 23 = 1 := by kernel_rfl
theorem Tryd.cells_6 : Tryd.prog.cellsOf 26 = 1 := by kernel_rfl
theorem Tryd.cells_7 : Tryd.prog.cellsOf 31 = 1 := by kernel_rfl
theorem Tryd.cells_e_byte : Tryd.prog.cellsOf 5 = 1 := by kernel_rfl
theorem Tryd.cells_e_XItem : Tryd.prog.cellsOf 30 = 9 := by kernel_rfl
theorem Tryd.cells_e_XDatum : Tryd.prog.cellsOf 25 = 4 := by kernel_rfl
theorem Tryd.bytes_byte : Tryd.prog.bytesOf 5 = 1 := by kernel_rfl
theorem Tryd.bytes_XItem : Tryd.prog.bytesOf 30 = 88 := by kernel_rfl
theorem Tryd.bytes_XDatum : Tryd.prog.bytesOf 25 = 56 := by kernel_rfl
theorem Tryd.cells_s_XProg : Tryd.prog.cellsOf 33 = 2 := by kernel_rfl
theorem open_XInsR {cs : List Value} (h : Rw enc Tryd.prog w 28 cs) : ∃ x, XInsR cs x := by
  obtain ⟨hl, hf⟩ := h.struct Tryd.underlying28
  rw [Tryd.cells_4] at hl
  match cs, hl, hf with
  | [c0, c1, c2, c3, c4, c5, c6, c7], _, hf =>
    have q0 : Rw enc Tryd.prog w 3 (([c0, c1, c2, c3, c4, c5, c6, c7].drop 0).take (Tryd.prog.cellsOf 3)) := hf 0 _ rfl
    have q1 : Rw enc Tryd.prog w 3 (([c0, c1, c2, c3, c4, c5, c6, c7].drop 1).take (Tryd.prog.cellsOf 3)) := hf 1 _ rfl
    have q2 : Rw enc Tryd.prog w 3 (([c0, c1, c2, c3, c4, c5, c6, c7].drop 2).take (Tryd.prog.cellsOf 3)) := hf 2 _ rfl
    have q3 : Rw enc Tryd.prog w 2 (([c0, c1, c2, c3, c4, c5, c6, c7].drop 3).take (Tryd.prog.cellsOf 2)) := hf 3 _ rfl
    have q4 : Rw enc Tryd.prog w 3 (([c0, c1, c2, c3, c4, c5, c6, c7].drop 4).take (Tryd.prog.cellsOf 3)) := hf 4 _ rfl
    have q5 : Rw enc Tryd.prog w 4 (([c0, c1, c2, c3, c4, c5, c6, c7].drop 5).take (Tryd.prog.cellsOf 4)) := hf 5 _ rfl
    have q6 : Rw enc Tryd.prog w 3 (([c0, c1, c2, c3, c4, c5, c6, c7].drop 6).take (Tryd.prog.cellsOf 3)) := hf 6 _ rfl
    have q7 : Rw enc Tryd.prog w 9 (([c0, c1, c2, c3, c4, c5, c6, c7].drop 7).take (Tryd.prog.cellsOf 9)) := hf 7 _ rfl
    clear hf
    rw [Tryd.cells_0] at q0
    replace q0 : Rw enc Tryd.prog w 3 [c0] := q0
    rw [Tryd.cells_0] at q1
    replace q1 : Rw enc Tryd.prog w 3 [c1] := q1
    rw [Tryd.cells_0] at q2
    replace q2 : Rw enc Tryd.prog w 3 [c2] := q2
    rw [Tryd.cells_1] at q3
    replace q3 : Rw enc Tryd.prog w 2 [c3] := q3
    rw [Tryd.cells_0] at q4
    replace q4 : Rw enc Tryd.prog w 3 [c4] := q4
    rw [Tryd.cells_2] at q5
    replace q5 : Rw enc Tryd.prog w 4 [c5] := q5
    rw [Tryd.cells_0] at q6
    replace q6 : Rw enc Tryd.prog w 3 [c6] := q6
    rw [Tryd.cells_3] at q7
    replace q7 : Rw enc Tryd.prog w 9 [c7] := q7
    obtain ⟨x0, e0, n0⟩ := open_intR Tryd.underlying3 q0
    simp only [List.cons.injEq, and_true] at e0
    subst e0
    obtain ⟨x1, e1, n1⟩ := open_intR Tryd.underlying3 q1
    simp only [List.cons.injEq, and_true] at e1
    subst e1
    obtain ⟨x2, e2, n2⟩ := open_intR Tryd.underlying3 q2
    simp only [List.cons.injEq, and_true] at e2
    subst e2
    obtain ⟨x3, e3, n3⟩ := open_intR Tryd.underlying2 q3
    simp only [List.cons.injEq, and_true] at e3
    subst e3
    obtain ⟨x4, e4, n4⟩ := open_intR Tryd.underlying3 q4
    simp only [List.cons.injEq, and_true] at e4
    subst e4
    obtain ⟨x5, e5⟩ := open_boolR Tryd.underlying4 q5
    simp only [BoolR, List.cons.injEq, and_true] at e5
    subst e5
    obtain ⟨x6, e6, n6⟩ := open_intR Tryd.underlying3 q6
    simp only [List.cons.injEq, and_true] at e6
    subst e6
    obtain ⟨x7, e7, n7⟩ := q7.rd.string Tryd.underlying9
    simp only [List.cons.injEq, and_true] at e7
    subst e7
    exact ⟨⟨x0, x1, x2, x3, x4, x5, x6, x7⟩, rfl, n0, n1, n2, n3, n4, n6, n7⟩
theorem open_XItemR {cs : List Value} (h : Rw enc Tryd.prog w 30 cs) : ∃ x, XItemR cs x := by
  obtain ⟨hl, hf⟩ := h.struct Tryd.underlying30
  rw [Tryd.cells_e_XItem] at hl
  match cs, hl, hf with
  | [c0, c1, c2, c3, c4, c5, c6, c7, c8], _, hf =>
    have q0 : Rw enc Tryd.prog w 9 (([c0, c1, c2, c3, c4, c5, c6, c7, c8].drop 0).take (Tryd.prog.cellsOf 9)) := hf 0 _ rfl
    have q1 : Rw enc Tryd.prog w 28 (([c0, c1, c2, c3, c4, c5, c6, c7, c8].drop 1).take (Tryd.prog.cellsOf 28)) := hf 1 _ rfl
    clear hf
    rw [Tryd.cells_3] at q0
    replace q0 : Rw enc Tryd.prog w 9 [c0] := q0
    rw [Tryd.cells_4] at q1
    replace q1 : Rw enc Tryd.prog w 28 [c1, c2, c3, c4, c5, c6, c7, c8] := q1
    obtain ⟨x0, e0, n0⟩ := q0.rd.string Tryd.underlying9
    simp only [List.cons.injEq, and_true] at e0
    subst e0
    obtain ⟨x1, e1, n1_0, n1_1, n1_2, n1_3, n1_4, n1_5, n1_6⟩ := open_XInsR q1
    simp only [List.cons.injEq, and_true] at e1
    obtain ⟨rfl, rfl, rfl, rfl, rfl, rfl, rfl, rfl⟩ := e1
    exact ⟨⟨x0, x1⟩, rfl, n0, n1_0, n1_1, n1_2, n1_3, n1_4, n1_5, n1_6⟩
theorem open_XDatumR {cs : List Value} (h : Rw enc Tryd.prog w 25 cs) : ∃ x, XDatumR w cs x := by
  obtain ⟨hl, hf⟩ := h.struct Tryd.underlying25
  rw [Tryd.cells_e_XDatum] at hl
  match cs, hl, hf with
  | [c0, c1, c2, c3], _, hf =>
    have q0 : Rw enc Tryd.prog w 3 (([c0, c1, c2, c3].drop 0).take (Tryd.prog.cellsOf 3)) := hf 0 _ rfl
    have q1 : Rw enc Tryd.prog w 9 (([c0, c1, c2, c3].drop 1).take (Tryd.prog.cellsOf 9)) := hf 1 _ rfl
    have q2 : Rw enc Tryd.prog w 23 (([c0, c1, c2, c3].drop 2).take (Tryd.prog.cellsOf 23)) := hf 2 _ rfl
    have q3 : Rw enc Tryd.prog w 3 (([c0, c1, c2, c3].drop 3).take (Tryd.prog.cellsOf 3)) := hf 3 _ rfl
    clear hf
    rw [Tryd.cells_0] at q0
    replace q0 : Rw enc Tryd.prog w 3 [c0] := q0
    rw [Tryd.cells_3] at q1
    replace q1 : Rw enc Tryd.prog w 9 [c1] := q1
    rw [Tryd.cells_5] at q2
    replace q2 : Rw enc Tryd.prog w 23 [c2] := q2
    rw [Tryd.cells_0] at q3
    replace q3 : Rw enc Tryd.prog w 3 [c3] := q3
    obtain ⟨x0, e0, n0⟩ := open_intR Tryd.underlying3 q0
    simp only [List.cons.injEq, and_true] at e0
    subst e0
    obtain ⟨x1, e1, n1⟩ := q1.rd.string Tryd.underlying9
    simp only [List.cons.injEq, and_true] at e1
    subst e1
    obtain ⟨A2, l2, p2, e2, g2, h2, s2, w2⟩ := q2.slice Tryd.underlying23
    rw [Tryd.bytes_byte] at w2
    unfold reachBytes at w2
    rw [Tryd.cells_e_byte] at s2
    simp only [List.cons.injEq, and_true] at e2
    subst e2
    obtain ⟨x2, rfl, n2⟩ := SlR.of (R := ByteR) (by decide) s2 g2 h2 (fun cs hc => open_byteR Tryd.underlying5 hc)
    obtain ⟨x3, e3, n3⟩ := open_intR Tryd.underlying3 q3
    simp only [List.cons.injEq, and_true] at e3
    subst e3
    exact ⟨⟨x0, x1, x2, x3⟩, _, rfl, n0, n1, n2, (by show x2.length ≤ 140737488351232; omega), n3⟩
theorem open_XProgR {cs : List Value} (h : Rw enc Tryd.prog w 33 cs) : ∃ x, XProgR w cs x := by
  obtain ⟨hl, hf⟩ := h.struct Tryd.underlying33
  rw [Tryd.cells_s_XProg] at hl
  match cs, hl, hf with
  | [c0, c1], _, hf =>
    have q0 : Rw enc Tryd.prog w 26 (([c0, c1].drop 0).take (Tryd.prog.cellsOf 26)) := hf 0 _ rfl
    have q1 : Rw enc Tryd.prog w 31 (([c0, c1].drop 1).take (Tryd.prog.cellsOf 31)) := hf 1 _ rfl
    clear hf
    rw [Tryd.cells_6] at q0
    replace q0 : Rw enc Tryd.prog w 26 [c0] := q0
    rw [Tryd.cells_7] at q1
    replace q1 : Rw enc Tryd.prog w 31 [c1] := q1
    obtain ⟨A0, l0, p0, e0, g0, h0, s0, w0⟩ := q0.slice Tryd.underlying26
    rw [Tryd.bytes_XDatum] at w0
    unfold reachBytes at w0
    rw [Tryd.cells_e_XDatum] at s0
    simp only [List.cons.injEq, and_true] at e0
    subst e0
    obtain ⟨x0, rfl, n0⟩ := SlR.of (R := XDatumR w) (by decide) s0 g0 h0 (fun cs hc => open_XDatumR hc)
    obtain ⟨A1, l1, p1, e1, g1, h1, s1, w1⟩ := q1.slice Tryd.underlying31
    rw [Tryd.bytes_XItem] at w1
    unfold reachBytes at w1
    rw [Tryd.cells_e_XItem] at s1
    simp only [List.cons.injEq, and_true] at e1
    subst e1
    obtain ⟨x1, rfl, n1⟩ := SlR.of (R := XItemR) (by decide) s1 g1 h1 (fun cs hc => open_XItemR hc)
    exact ⟨⟨x0, x1⟩, _, _, rfl, n0, (by show x0.length ≤ 140737488351232; omega), n1, (by show x1.length ≤ 140737488351232; omega)⟩
end
end Go.Proofs.YtamejgfmfneppaaDoor
