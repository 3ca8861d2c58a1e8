/- What structs that came in read as. No condition. -/
import Derived.Test.YtpcfibnnboenhaaRe
import Derived.Test.YtpcfibnnboenhaaChecked
namespace Go.Proofs.Ytpcfibnnboenhaa
open Go.RowKit
set_option linter.unusedVariables false
set_option maxRecDepth 20000
structure ShapeD where
  int : Int
  steps : List (Int × Int)
structure RecD where
  name : ByteArray
  names : List ByteArray
  shapes : List ShapeD
/-- a slice's value whose elements read as these: C cells each -/
def SlR {α : Type} (w : World) (C : Nat) (R : List Value → α → Prop) (v : Value) (xs : List α) : Prop :=
  ∃ A cap, v = .slice A xs.length cap ∧ xs.length ≤ cap ∧ cap ≤ maxLen ∧ ∀ i x, xs[i]? = some x → ∃ b o cs, A = some ⟨b, o, none⟩ ∧ cs.length = C ∧ (∀ j, j < C → w.cell? ⟨b, o + i * C + j, none⟩ = cs[j]?) ∧ R cs x
def IntR (cs : List Value) (x : Int) : Prop := cs = [.int .i64 x] ∧ In64 x
def BoolR (cs : List Value) (x : Bool) : Prop := cs = [.bool x]
def ByteR (cs : List Value) (x : Int) : Prop := cs = [.int .u8 x] ∧ 0 ≤ x ∧ x ≤ 255
def StrR (cs : List Value) (x : ByteArray) : Prop := cs = [.string x] ∧ x.size ≤ maxLen
def PairR (cs : List Value) (x : Int × Int) : Prop := cs = [.int .i64 x.1, .int .i64 x.2] ∧ In64 x.1 ∧ In64 x.2
def ShapeR (w : World) (cs : List Value) (x : ShapeD) : Prop := ∃ v_steps, cs = [.int .i64 x.int, v_steps] ∧ In64 x.int ∧ SlR w 2 PairR v_steps x.steps ∧ x.steps.length ≤ 140737488351232
def RecR (w : World) (cs : List Value) (x : RecD) : Prop := ∃ v_names v_shapes, cs = [.string x.name, v_names, v_shapes] ∧ x.name.size ≤ maxLen ∧ SlR w 1 StrR v_names x.names ∧ x.names.length ≤ 140737488351232 ∧ SlR w 2 (ShapeR w) v_shapes x.shapes ∧ x.shapes.length ≤ 140737488351232
theorem laterC {w w' : World} {a : Addr} {v : Value} (h : w.cell? a = some v) (hb : Below w.heap.size w w') : w'.cell? a = some v := (hb.cell (World.block_lt_of_cell? w _ h)).trans h
theorem SlR.later {α : Type} {w w' : World} {C : Nat} {R : List Value → α → Prop} {v : Value} {xs : List α} (h : SlR w C R v xs) (hC : 0 < C) (hb : Below w.heap.size w w') : SlR w' C R v xs := by
  obtain ⟨A, cap, h1, h2, h3, h4⟩ := h
  refine ⟨A, cap, h1, h2, h3, fun i x hi => ?_⟩
  obtain ⟨b, o, cs, g1, g2, g3, g4⟩ := h4 i x hi
  refine ⟨b, o, cs, g1, g2, fun j hj => ?_, g4⟩
  have hj2 : j < cs.length := by omega
  have e := g3 j hj
  rw [List.getElem?_eq_getElem hj2] at e ⊢
  exact laterC e hb
set_option maxRecDepth 100000 in
section
variable {H : Type} {enc : TypeId × Value → H} {w : World}
theorem choose_list {α : Type} {p : Nat → α → Prop} : ∀ (n : Nat), (∀ i, i < n → ∃ x, p i x) → ∃ xs : List α, xs.length = n ∧ ∀ i x, xs[i]? = some x → p i x
  | 0, _ => ⟨[], rfl, fun i x h => by simp at h⟩
  | n + 1, h => by
    obtain ⟨xs, h1, h2⟩ := choose_list n (fun i hi => h i (by omega))
    obtain ⟨x, hx⟩ := h n (by omega)
    refine ⟨xs ++ [x], by simp [h1], fun i y hi => ?_⟩
    rw [List.getElem?_append] at hi
    split at hi
    · exact h2 i y hi
    · rename_i hlt
      have : i = n := by
        have := (List.getElem?_eq_some_iff.1 hi).1
        simp at this; omega
      subst this
      rw [h1, Nat.sub_self] at hi
      simp at hi
      subst hi
      exact hx
theorem spot_none {a : Addr} {v : Value} (h : w.cell? a = some v) : a.spot = none := by
  unfold World.cell? at h
  split at h
  · split at h
    · cases h
    · rename_i hs
      cases e : a.spot with
      | none => rfl
      | some x => rw [e] at hs; exact absurd rfl hs
  · cases h
theorem addr_lit {a : Addr} (h : a.spot = none) (n : Nat) : a.add n = ⟨a.block, a.off + n, none⟩ := by
  unfold Addr.add
  split
  · rename_i e; subst e; cases a; simp_all
  · rfl
theorem pair_len {T E : TypeId} {fuel : Nat} {cs : List Value} {x : DataW H × List MemPlace} (hT : Try.prog.underlying T = some (.array 2 E)) (hC : Try.prog.cellsOf T = 2) (h : DataW.trod enc Try.prog w 0 (fun _ => true) true fuel T cs = some x) : cs.length = 2 := by
  obtain ⟨xs, m, _, hx, h1, hlen, hi⟩ := DataW.trod_array hT h
  rw [← hC]; exact h1
theorem SlR.of {α : Type} {A : Option Addr} {len cap C : Nat} {R0 : List Value → Prop} {R : List Value → α → Prop} (hC : 0 < C) (h : SliceAt w A len C R0) (hl : len ≤ cap) (hc : cap ≤ maxLen) (hR : ∀ cs, R0 cs → ∃ x, R cs x) : ∃ xs : List α, xs.length = len ∧ SlR w C R (.slice A len cap) xs := by
  obtain ⟨xs, h1, h2⟩ := choose_list (p := fun i x => ∃ b o cs, A = some ⟨b, o, none⟩ ∧ cs.length = C ∧ (∀ j, j < C → w.cell? ⟨b, o + i * C + j, none⟩ = cs[j]?) ∧ R cs x) len (fun i hi => by
    obtain ⟨ad, cs, g1, g2, g3, g4⟩ := h i hi
    obtain ⟨ad0, cs0, k1, k2, k3, _⟩ := h 0 (by omega)
    rw [g1] at k1
    obtain rfl := Option.some.inj k1
    have e0 := k3 0 hC
    rw [Nat.zero_mul, List.getElem?_eq_getElem (by omega)] at e0
    have hs : ad.spot = none := spot_none (a := ad) (by simpa [Addr.add] using e0)
    obtain ⟨x, hx⟩ := hR cs g4
    refine ⟨x, ad.block, ad.off, cs, ?_, g2, fun j hj => ?_, hx⟩
    · rw [g1]; cases ad; simp_all
    · rw [← g3 j hj, addr_lit hs, Nat.add_assoc])
  subst h1
  exact ⟨xs, rfl, A, cap, rfl, hl, hc, h2⟩
theorem open_intR {T : TypeId} (ht : Try.prog.underlying T = some (.int .i64)) {cs : List Value} (h : Rw enc Try.prog w T cs) : ∃ x, IntR cs x := by
  obtain ⟨n, h1, h2⟩ := h.rd.int ht
  exact ⟨n, h1, in64_of h2⟩
theorem open_u64R {T : TypeId} (ht : Try.prog.underlying T = some (.int .u64)) {cs : List Value} (h : Rw enc Try.prog w T cs) : ∃ x, cs = [.int .u64 x] ∧ InU64 x := by
  obtain ⟨n, h1, h2⟩ := h.rd.int ht
  exact ⟨n, h1, inU64_of h2⟩
theorem open_strR {T : TypeId} (ht : Try.prog.underlying T = some .string) {cs : List Value} (h : Rw enc Try.prog w T cs) : ∃ x, StrR cs x := by
  obtain ⟨n, h1, h2⟩ := h.rd.string ht
  exact ⟨n, h1, h2⟩
theorem open_pairR {T E : TypeId} (hT : Try.prog.underlying T = some (.array 2 E)) (hE : Try.prog.underlying E = some (.int .i64)) (hc : Try.prog.cellsOf E = 1) {cs : List Value} (h : Rw enc Try.prog w T cs) (hl : cs.length = 2) : ∃ x, PairR cs x := by
  obtain ⟨fuel, x, hf, _⟩ := h
  obtain ⟨xs, m, _, hx, _, hlen, hi⟩ := DataW.trod_array hT hf
  obtain ⟨x0, x1, rfl⟩ : ∃ x0 x1, xs = [x0, x1] := by
    match xs, hlen with
    | [x0, x1], _ => exact ⟨x0, x1, rfl⟩
  obtain ⟨c0, c1, rfl⟩ : ∃ c0 c1, cs = [c0, c1] := by
    match cs, hl with
    | [c0, c1], _ => exact ⟨c0, c1, rfl⟩
  have h0 := hi 0 (by decide)
  have h1 := hi 1 (by decide)
  simp only [hc] at h0 h1
  obtain ⟨a, ha, _, wa⟩ := DataW.trod_int hE (by simpa using h0)
  obtain ⟨b, hb, _, wb⟩ := DataW.trod_int hE (by simpa using h1)
  simp at ha hb
  subst ha hb
  exact ⟨(a, b), rfl, in64_of wa, in64_of wb⟩
theorem open_boolR {T : TypeId} (ht : Try.prog.underlying T = some .bool) {cs : List Value} (h : Rw enc Try.prog w T cs) : ∃ x, BoolR cs x := by
  obtain ⟨n, h1⟩ := h.rd.bool ht
  exact ⟨n, h1⟩
theorem inU8_of {n : Int} (h : (Lit.int .u8 n).wf = true) : 0 ≤ n ∧ n ≤ 255 := by
  simp [Lit.wf, IntKind.min, IntKind.max, IntKind.signed, IntKind.bits] at h; omega
theorem open_byteR {T : TypeId} (ht : Try.prog.underlying T = some (.int .u8)) {cs : List Value} (h : Rw enc Try.prog w T cs) : ∃ x, ByteR cs x := by
  obtain ⟨n, h1, h2⟩ := h.rd.int ht
  exact ⟨n, h1, inU8_of h2⟩
theorem Try.cells_0 : Try.prog.cellsOf 3 = 1 := by kernel_rfl
theorem Try.cells_1 : Try.prog.cellsOf 23 = 1 := by kernel_rfl
theorem Try.cells_2 : Try.prog.cellsOf 9 = 1 := by kernel_rfl
theorem Try.cells_3 : Try.prog.cellsOf 31 = 1 := by kernel_rfl
theorem Try.cells_4 : Try.prog.cellsOf 32 = 1 := by kernel_rfl
theorem Try.cells_e_pair : Try.prog.cellsOf 64 = 2 := by kernel_rfl
theorem Try.cells_e_Shape : Try.prog.cellsOf 25 = 2 := by kernel_rfl
theorem Try.bytes_pair : Try.prog.bytesOf 64 = 16 := by kernel_rfl
theorem Try.bytes_str : Try.prog.bytesOf 9 = 16 := by kernel_rfl
theorem Try.bytes_Shape : Try.prog.bytesOf 25 = 32 := by kernel_rfl
theorem Try.cells_s_Rec : Try.prog.cellsOf 34 = 3 := by kernel_rfl
theorem open_ShapeR {cs : List Value} (h : Rw enc Try.prog w 25 cs) : ∃ x, ShapeR w cs x := by
  obtain ⟨hl, hf⟩ := h.struct Try.underlying25
  rw [Try.cells_e_Shape] at hl
  match cs, hl, hf with
  | [c0, c1], _, hf =>
    have q0 : Rw enc Try.prog w 3 (([c0, c1].drop 0).take (Try.prog.cellsOf 3)) := hf 0 _ rfl
    have q1 : Rw enc Try.prog w 23 (([c0, c1].drop 1).take (Try.prog.cellsOf 23)) := hf 1 _ rfl
    clear hf
    rw [Try.cells_0] at q0
    replace q0 : Rw enc Try.prog w 3 [c0] := q0
    rw [Try.cells_1] at q1
    replace q1 : Rw enc Try.prog w 23 [c1] := q1
    obtain ⟨x0, e0, n0⟩ := open_intR Try.underlying3 q0
    simp only [List.cons.injEq, and_true] at e0
    subst e0
    obtain ⟨A1, l1, p1, e1, g1, h1, s1, w1⟩ := q1.slice Try.underlying23
    rw [Try.bytes_pair] at w1
    unfold reachBytes at w1
    rw [Try.cells_e_pair] at s1
    simp only [List.cons.injEq, and_true] at e1
    subst e1
    obtain ⟨x1, rfl, n1⟩ := SlR.of (R := PairR) (by decide) s1 g1 h1 (fun cs hc => by
      have hl : cs.length = 2 := by obtain ⟨_, _, hc1, _⟩ := id hc; exact pair_len Try.underlying64 Try.cells_e_pair hc1
      exact open_pairR Try.underlying64 Try.underlying3 Try.cells_0 hc hl)
    exact ⟨⟨x0, x1⟩, _, rfl, n0, n1, (by show x1.length ≤ 140737488351232; omega)⟩
theorem open_RecR {cs : List Value} (h : Rw enc Try.prog w 34 cs) : ∃ x, RecR w cs x := by
  obtain ⟨hl, hf⟩ := h.struct Try.underlying34
  rw [Try.cells_s_Rec] at hl
  match cs, hl, hf with
  | [c0, c1, c2], _, hf =>
    have q0 : Rw enc Try.prog w 9 (([c0, c1, c2].drop 0).take (Try.prog.cellsOf 9)) := hf 0 _ rfl
    have q1 : Rw enc Try.prog w 31 (([c0, c1, c2].drop 1).take (Try.prog.cellsOf 31)) := hf 1 _ rfl
    have q2 : Rw enc Try.prog w 32 (([c0, c1, c2].drop 2).take (Try.prog.cellsOf 32)) := hf 2 _ rfl
    clear hf
    rw [Try.cells_2] at q0
    replace q0 : Rw enc Try.prog w 9 [c0] := q0
    rw [Try.cells_3] at q1
    replace q1 : Rw enc Try.prog w 31 [c1] := q1
    rw [Try.cells_4] at q2
    replace q2 : Rw enc Try.prog w 32 [c2] := q2
    obtain ⟨x0, e0, n0⟩ := q0.rd.string Try.underlying9
    simp only [List.cons.injEq, and_true] at e0
    subst e0
    obtain ⟨A1, l1, p1, e1, g1, h1, s1, w1⟩ := q1.slice Try.underlying31
    rw [Try.bytes_str] at w1
    unfold reachBytes at w1
    rw [Try.cells_2] at s1
    simp only [List.cons.injEq, and_true] at e1
    subst e1
    obtain ⟨x1, rfl, n1⟩ := SlR.of (R := StrR) (by decide) s1 g1 h1 (fun cs hc => open_strR Try.underlying9 hc)
    obtain ⟨A2, l2, p2, e2, g2, h2, s2, w2⟩ := q2.slice Try.underlying32
    rw [Try.bytes_Shape] at w2
    unfold reachBytes at w2
    rw [Try.cells_e_Shape] at s2
    simp only [List.cons.injEq, and_true] at e2
    subst e2
    obtain ⟨x2, rfl, n2⟩ := SlR.of (R := ShapeR w) (by decide) s2 g2 h2 (fun cs hc => open_ShapeR hc)
    exact ⟨⟨x0, x1, x2⟩, _, _, rfl, n0, n1, (by show x1.length ≤ 140737488351232; omega), n2, (by show x2.length ≤ 140737488351232; omega)⟩
end
end Go.Proofs.Ytpcfibnnboenhaa
