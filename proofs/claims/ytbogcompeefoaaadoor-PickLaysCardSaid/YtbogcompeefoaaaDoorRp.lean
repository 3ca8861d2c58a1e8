/- What an rtl program that came in reads as. No condition. -/
import Derived.Test.YtbogcompeefoaaaDoorQb
import Derived.Test.YtbogcompeefoaaaDoorChecked
namespace Go.Proofs.YtbogcompeefoaaaDoor
open Go.RowKit
set_option linter.unusedVariables false
set_option maxRecDepth 20000
structure ArgD where
  reg : Int
  num : Int
structure InsD where
  op : Int
  dst : Int
  a : ArgD
  b : ArgD
  size : Int
  signed : Bool
  secret : Bool
  ref : Int
  off : Int
  args : List ArgD
structure TermD where
  kind : Int
  op : Int
  a : ArgD
  b : ArgD
  to_ : Int
  els : Int
structure BlockD where
  ins : List InsD
  term : TermD
structure FuncD where
  name : ByteArray
  params : Int
  secret : List Bool
  regs : Int
  slots : List Int
  blocks : List BlockD
structure PartD where
  kind : Int
  data : List Int
  n : Int
structure GlobD where
  name : ByteArray
  at_ : Int
  size : Int
  parts : List PartD
structure ProgD where
  funcs : List FuncD
  globals : List GlobD
  data : Int
  main : Int
/-- a slice's value whose elements read as these: C cells each -/
def SlR {α : Type} (w : World) (C : Nat) (R : List Value → α → Prop) (v : Value) (xs : List α) : Prop :=
  ∃ A cap, v = .slice A xs.length cap ∧ xs.length ≤ cap ∧ cap ≤ maxLen ∧ ∀ i x, xs[i]? = some x → ∃ b o cs, A = some ⟨b, o, none⟩ ∧ cs.length = C ∧ (∀ j, j < C → w.cell? ⟨b, o + i * C + j, none⟩ = cs[j]?) ∧ R cs x
def IntR (cs : List Value) (x : Int) : Prop := cs = [.int .i64 x] ∧ In64 x
def BoolR (cs : List Value) (x : Bool) : Prop := cs = [.bool x]
def ByteR (cs : List Value) (x : Int) : Prop := cs = [.int .u8 x] ∧ 0 ≤ x ∧ x ≤ 255
def ArgR (cs : List Value) (x : ArgD) : Prop := cs = [.int .i64 x.reg, .int .i64 x.num] ∧ In64 x.reg ∧ In64 x.num
def InsR (w : World) (cs : List Value) (x : InsD) : Prop := ∃ v_args, cs = [.int .i64 x.op, .int .i64 x.dst, .int .i64 x.a.reg, .int .i64 x.a.num, .int .i64 x.b.reg, .int .i64 x.b.num, .int .i64 x.size, .bool x.signed, .bool x.secret, .int .i64 x.ref, .int .i64 x.off, v_args] ∧ In64 x.op ∧ In64 x.dst ∧ In64 x.a.reg ∧ In64 x.a.num ∧ In64 x.b.reg ∧ In64 x.b.num ∧ In64 x.size ∧ In64 x.ref ∧ In64 x.off ∧ SlR w 2 ArgR v_args x.args ∧ x.args.length ≤ 140737488351232
def TermR (cs : List Value) (x : TermD) : Prop := cs = [.int .i64 x.kind, .int .i64 x.op, .int .i64 x.a.reg, .int .i64 x.a.num, .int .i64 x.b.reg, .int .i64 x.b.num, .int .i64 x.to_, .int .i64 x.els] ∧ In64 x.kind ∧ In64 x.op ∧ In64 x.a.reg ∧ In64 x.a.num ∧ In64 x.b.reg ∧ In64 x.b.num ∧ In64 x.to_ ∧ In64 x.els
def BlockR (w : World) (cs : List Value) (x : BlockD) : Prop := ∃ v_ins, cs = [v_ins, .int .i64 x.term.kind, .int .i64 x.term.op, .int .i64 x.term.a.reg, .int .i64 x.term.a.num, .int .i64 x.term.b.reg, .int .i64 x.term.b.num, .int .i64 x.term.to_, .int .i64 x.term.els] ∧ SlR w 12 (InsR w) v_ins x.ins ∧ x.ins.length ≤ 140737488351232 ∧ In64 x.term.kind ∧ In64 x.term.op ∧ In64 x.term.a.reg ∧ In64 x.term.a.num ∧ In64 x.term.b.reg ∧ In64 x.term.b.num ∧ In64 x.term.to_ ∧ In64 x.term.els
def FuncR (w : World) (cs : List Value) (x : FuncD) : Prop := ∃ v_secret v_slots v_blocks, cs = [.string x.name, .int .i64 x.params, v_secret, .int .i64 x.regs, v_slots, v_blocks] ∧ x.name.size ≤ maxLen ∧ In64 x.params ∧ SlR w 1 BoolR v_secret x.secret ∧ x.secret.length ≤ 140737488351232 ∧ In64 x.regs ∧ SlR w 1 IntR v_slots x.slots ∧ x.slots.length ≤ 140737488351232 ∧ SlR w 9 (BlockR w) v_blocks x.blocks ∧ x.blocks.length ≤ 140737488351232
def PartR (w : World) (cs : List Value) (x : PartD) : Prop := ∃ v_data, cs = [.int .i64 x.kind, v_data, .int .i64 x.n] ∧ In64 x.kind ∧ SlR w 1 ByteR v_data x.data ∧ x.data.length ≤ 140737488351232 ∧ In64 x.n
def GlobR (w : World) (cs : List Value) (x : GlobD) : Prop := ∃ v_parts, cs = [.string x.name, .int .i64 x.at_, .int .i64 x.size, v_parts] ∧ x.name.size ≤ maxLen ∧ In64 x.at_ ∧ In64 x.size ∧ SlR w 3 (PartR w) v_parts x.parts ∧ x.parts.length ≤ 140737488351232
def ProgR (w : World) (cs : List Value) (x : ProgD) : Prop := ∃ v_funcs v_globals, cs = [v_funcs, v_globals, .int .i64 x.data, .int .i64 x.main] ∧ SlR w 6 (FuncR w) v_funcs x.funcs ∧ x.funcs.length ≤ 140737488351232 ∧ SlR w 4 (GlobR w) v_globals x.globals ∧ x.globals.length ≤ 140737488351232 ∧ In64 x.data ∧ In64 x.main
section
variable {H : Type} {enc : TypeId × Value → H} {w : World}
theorem choose_list {α : Type} {p : Nat → α → Prop} : ∀ (n : Nat), (∀ i, i < n → ∃ x, p i x) → ∃ xs : List α, xs.length = n ∧ ∀ i x, xs[i]? = some x → p i x
  | 0, _ => ⟨[], rfl, fun i x h => by simp at h⟩
  | n + 1, h => by
    obtain ⟨xs, h1, h2⟩ := choose_list n (fun i hi => h i (by omega))
    obtain ⟨x, hx⟩ := h n (by omega)
    refine ⟨xs ++ [x], by simp [h1], fun i y hi => ?_⟩
    rw [List.getElem?_append] at hi
    split at hi
    · exact h2 i y hi
    · rename_i hlt
      have : i = n := by
        have := (List.getElem?_eq_some_iff.1 hi).1
        simp at this; omega
      subst this
      rw [h1, Nat.sub_self] at hi
      simp at hi
      subst hi
      exact hx
theorem spot_none {a : Addr} {v : Value} (h : w.cell? a = some v) : a.spot = none := by
  unfold World.cell? at h
  split at h
  · split at h
    · cases h
    · rename_i hs
      cases e : a.spot with
      | none => rfl
      | some x => rw [e] at hs; exact absurd rfl hs
  · cases h
theorem addr_lit {a : Addr} (h : a.spot = none) (n : Nat) : a.add n = ⟨a.block, a.off + n, none⟩ := by
  unfold Addr.add
  split
  · rename_i e; subst e; cases a; simp_all
  · rfl
theorem SlR.of {α : Type} {A : Option Addr} {len cap C : Nat} {R0 : List Value → Prop} {R : List Value → α → Prop} (hC : 0 < C) (h : SliceAt w A len C R0) (hl : len ≤ cap) (hc : cap ≤ maxLen) (hR : ∀ cs, R0 cs → ∃ x, R cs x) : ∃ xs : List α, xs.length = len ∧ SlR w C R (.slice A len cap) xs := by
  obtain ⟨xs, h1, h2⟩ := choose_list (p := fun i x => ∃ b o cs, A = some ⟨b, o, none⟩ ∧ cs.length = C ∧ (∀ j, j < C → w.cell? ⟨b, o + i * C + j, none⟩ = cs[j]?) ∧ R cs x) len (fun i hi => by
    obtain ⟨ad, cs, g1, g2, g3, g4⟩ := h i hi
    obtain ⟨ad0, cs0, k1, k2, k3, _⟩ := h 0 (by omega)
    rw [g1] at k1
    obtain rfl := Option.some.inj k1
    have e0 := k3 0 hC
    rw [Nat.zero_mul, List.getElem?_eq_getElem (by omega)] at e0
    have hs : ad.spot = none := spot_none (a := ad) (by simpa [Addr.add] using e0)
    obtain ⟨x, hx⟩ := hR cs g4
    refine ⟨x, ad.block, ad.off, cs, ?_, g2, fun j hj => ?_, hx⟩
    · rw [g1]; cases ad; simp_all
    · rw [← g3 j hj, addr_lit hs, Nat.add_assoc])
  subst h1
  exact ⟨xs, rfl, A, cap, rfl, hl, hc, h2⟩
theorem open_intR {T : TypeId} (ht : Tryd.prog.underlying T = some (.int .i64)) {cs : List Value} (h : Rw enc Tryd.prog w T cs) : ∃ x, IntR cs x := by
  obtain ⟨n, h1, h2⟩ := h.rd.int ht
  exact ⟨n, h1, in64_of h2⟩
theorem open_boolR {T : TypeId} (ht : Tryd.prog.underlying T = some .bool) {cs : List Value} (h : Rw enc Tryd.prog w T cs) : ∃ x, BoolR cs x := by
  obtain ⟨n, h1⟩ := h.rd.bool ht
  exact ⟨n, h1⟩
theorem inU8_of {n : Int} (h : (Lit.int .u8 n).wf = true) : 0 ≤ n ∧ n ≤ 255 := by
  simp [Lit.wf, IntKind.min, IntKind.max, IntKind.signed, IntKind.bits] at h; omega
theorem open_byteR {T : TypeId} (ht : Tryd.prog.underlying T = some (.int .u8)) {cs : List Value} (h : Rw enc Tryd.prog w T cs) : ∃ x, ByteR cs x := by
  obtain ⟨n, h1, h2⟩ := h.rd.int ht
  exact ⟨n, h1, inU8_of h2⟩
theorem Tryd.cells_0 : Tryd.prog.cellsOf 3 = 1 := by kernel_rfl
theorem Tryd.cells_1 : Tryd.prog.cellsOf 2 = 1 := by kernel_rfl
theorem Tryd.cells_2 : Tryd.prog.cellsOf 52 = 2 := by kernel_rfl
theorem Tryd.cells_3 : Tryd.prog.cellsOf 4 = 1 := by kernel_rfl
theorem Tryd.cells_4 : Tryd.prog.cellsOf 72 = 1 := by kernel_rfl
theorem Tryd.cells_5 : Tryd.prog.cellsOf 56 = 1 := by kernel_rfl
theorem Tryd.cells_6 : Tryd.prog.cellsOf 55 = 8 := by kernel_rfl
theorem Tryd.cells_7 : Tryd.prog.cellsOf 9 = 1 := by kernel_rfl
theorem Tryd.cells_8 : Tryd.prog.cellsOf 36 = 1 := by kernel_rfl
theorem Tryd.cells_9 : Tryd.prog.cellsOf 37 = 1 := by kernel_rfl
theorem Tryd.cells_10 : Tryd.prog.cellsOf 38 = 1 := by kernel_rfl
theorem Tryd.cells_11 : Tryd.prog.cellsOf 69 = 1 := by kernel_rfl
theorem Tryd.cells_12 : Tryd.prog.cellsOf 66 = 1 := by kernel_rfl
theorem Tryd.cells_13 : Tryd.prog.cellsOf 22 = 1 := by kernel_rfl
theorem Tryd.cells_14 : Tryd.prog.cellsOf 23 = 1 := by kernel_rfl
theorem Tryd.cells_e_Ins : Tryd.prog.cellsOf 74 = 12 := by kernel_rfl
theorem Tryd.cells_e_Block : Tryd.prog.cellsOf 58 = 9 := by kernel_rfl
theorem Tryd.cells_e_Func : Tryd.prog.cellsOf 40 = 6 := by kernel_rfl
theorem Tryd.cells_e_Part : Tryd.prog.cellsOf 71 = 3 := by kernel_rfl
theorem Tryd.cells_e_Glob : Tryd.prog.cellsOf 68 = 4 := by kernel_rfl
theorem Tryd.cells_e_byte : Tryd.prog.cellsOf 5 = 1 := by kernel_rfl
theorem Tryd.bytes_Arg : Tryd.prog.bytesOf 52 = 16 := by kernel_rfl
theorem Tryd.bytes_Ins : Tryd.prog.bytesOf 74 = 104 := by kernel_rfl
theorem Tryd.bytes_Block : Tryd.prog.bytesOf 58 = 88 := by kernel_rfl
theorem Tryd.bytes_Func : Tryd.prog.bytesOf 40 = 104 := by kernel_rfl
theorem Tryd.bytes_Part : Tryd.prog.bytesOf 71 = 40 := by kernel_rfl
theorem Tryd.bytes_Glob : Tryd.prog.bytesOf 68 = 56 := by kernel_rfl
theorem Tryd.bytes_bool : Tryd.prog.bytesOf 4 = 1 := by kernel_rfl
theorem Tryd.bytes_int : Tryd.prog.bytesOf 3 = 8 := by kernel_rfl
theorem Tryd.bytes_byte : Tryd.prog.bytesOf 5 = 1 := by kernel_rfl
theorem Tryd.cells_Prog : Tryd.prog.cellsOf 25 = 4 := by kernel_rfl
theorem open_ArgR {cs : List Value} (h : Rw enc Tryd.prog w 52 cs) : ∃ x, ArgR cs x := by
  obtain ⟨hl, hf⟩ := h.struct Tryd.underlying52
  rw [Tryd.cells_2] at hl
  match cs, hl, hf with
  | [c0, c1], _, hf =>
    have q0 : Rw enc Tryd.prog w 3 (([c0, c1].drop 0).take (Tryd.prog.cellsOf 3)) := hf 0 _ rfl
    have q1 : Rw enc Tryd.prog w 2 (([c0, c1].drop 1).take (Tryd.prog.cellsOf 2)) := hf 1 _ rfl
    clear hf
    rw [Tryd.cells_0] at q0
    replace q0 : Rw enc Tryd.prog w 3 [c0] := q0
    rw [Tryd.cells_1] at q1
    replace q1 : Rw enc Tryd.prog w 2 [c1] := q1
    obtain ⟨x0, e0, n0⟩ := open_intR Tryd.underlying3 q0
    simp only [List.cons.injEq, and_true] at e0
    subst e0
    obtain ⟨x1, e1, n1⟩ := open_intR Tryd.underlying2 q1
    simp only [List.cons.injEq, and_true] at e1
    subst e1
    exact ⟨⟨x0, x1⟩, rfl, n0, n1⟩
theorem open_InsR {cs : List Value} (h : Rw enc Tryd.prog w 74 cs) : ∃ x, InsR w cs x := by
  obtain ⟨hl, hf⟩ := h.struct Tryd.underlying74
  rw [Tryd.cells_e_Ins] at hl
  match cs, hl, hf with
  | [c0, c1, c2, c3, c4, c5, c6, c7, c8, c9, c10, c11], _, hf =>
    have q0 : Rw enc Tryd.prog w 3 (([c0, c1, c2, c3, c4, c5, c6, c7, c8, c9, c10, c11].drop 0).take (Tryd.prog.cellsOf 3)) := hf 0 _ rfl
    have q1 : Rw enc Tryd.prog w 3 (([c0, c1, c2, c3, c4, c5, c6, c7, c8, c9, c10, c11].drop 1).take (Tryd.prog.cellsOf 3)) := hf 1 _ rfl
    have q2 : Rw enc Tryd.prog w 52 (([c0, c1, c2, c3, c4, c5, c6, c7, c8, c9, c10, c11].drop 2).take (Tryd.prog.cellsOf 52)) := hf 2 _ rfl
    have q3 : Rw enc Tryd.prog w 52 (([c0, c1, c2, c3, c4, c5, c6, c7, c8, c9, c10, c11].drop 4).take (Tryd.prog.cellsOf 52)) := hf 3 _ rfl
    have q4 : Rw enc Tryd.prog w 3 (([c0, c1, c2, c3, c4, c5, c6, c7, c8, c9, c10, c11].drop 6).take (Tryd.prog.cellsOf 3)) := hf 4 _ rfl
    have q5 : Rw enc Tryd.prog w 4 (([c0, c1, c2, c3, c4, c5, c6, c7, c8, c9, c10, c11].drop 7).take (Tryd.prog.cellsOf 4)) := hf 5 _ rfl
    have q6 : Rw enc Tryd.prog w 4 (([c0, c1, c2, c3, c4, c5, c6, c7, c8, c9, c10, c11].drop 8).take (Tryd.prog.cellsOf 4)) := hf 6 _ rfl
    have q7 : Rw enc Tryd.prog w 3 (([c0, c1, c2, c3, c4, c5, c6, c7, c8, c9, c10, c11].drop 9).take (Tryd.prog.cellsOf 3)) := hf 7 _ rfl
    have q8 : Rw enc Tryd.prog w 2 (([c0, c1, c2, c3, c4, c5, c6, c7, c8, c9, c10, c11].drop 10).take (Tryd.prog.cellsOf 2)) := hf 8 _ rfl
    have q9 : Rw enc Tryd.prog w 72 (([c0, c1, c2, c3, c4, c5, c6, c7, c8, c9, c10, c11].drop 11).take (Tryd.prog.cellsOf 72)) := hf 9 _ rfl
    clear hf
    rw [Tryd.cells_0] at q0
    replace q0 : Rw enc Tryd.prog w 3 [c0] := q0
    rw [Tryd.cells_0] at q1
    replace q1 : Rw enc Tryd.prog w 3 [c1] := q1
    rw [Tryd.cells_2] at q2
    replace q2 : Rw enc Tryd.prog w 52 [c2, c3] := q2
    rw [Tryd.cells_2] at q3
    replace q3 : Rw enc Tryd.prog w 52 [c4, c5] := q3
    rw [Tryd.cells_0] at q4
    replace q4 : Rw enc Tryd.prog w 3 [c6] := q4
    rw [Tryd.cells_3] at q5
    replace q5 : Rw enc Tryd.prog w 4 [c7] := q5
    rw [Tryd.cells_3] at q6
    replace q6 : Rw enc Tryd.prog w 4 [c8] := q6
    rw [Tryd.cells_0] at q7
    replace q7 : Rw enc Tryd.prog w 3 [c9] := q7
    rw [Tryd.cells_1] at q8
    replace q8 : Rw enc Tryd.prog w 2 [c10] := q8
    rw [Tryd.cells_4] at q9
    replace q9 : Rw enc Tryd.prog w 72 [c11] := q9
    obtain ⟨x0, e0, n0⟩ := open_intR Tryd.underlying3 q0
    simp only [List.cons.injEq, and_true] at e0
    subst e0
    obtain ⟨x1, e1, n1⟩ := open_intR Tryd.underlying3 q1
    simp only [List.cons.injEq, and_true] at e1
    subst e1
    obtain ⟨x2, e2, n2_0, n2_1⟩ := open_ArgR q2
    simp only [List.cons.injEq, and_true] at e2
    obtain ⟨rfl, rfl⟩ := e2
    obtain ⟨x3, e3, n3_0, n3_1⟩ := open_ArgR q3
    simp only [List.cons.injEq, and_true] at e3
    obtain ⟨rfl, rfl⟩ := e3
    obtain ⟨x4, e4, n4⟩ := open_intR Tryd.underlying3 q4
    simp only [List.cons.injEq, and_true] at e4
    subst e4
    obtain ⟨x5, e5⟩ := open_boolR Tryd.underlying4 q5
    simp only [BoolR, List.cons.injEq, and_true] at e5
    subst e5
    obtain ⟨x6, e6⟩ := open_boolR Tryd.underlying4 q6
    simp only [BoolR, List.cons.injEq, and_true] at e6
    subst e6
    obtain ⟨x7, e7, n7⟩ := open_intR Tryd.underlying3 q7
    simp only [List.cons.injEq, and_true] at e7
    subst e7
    obtain ⟨x8, e8, n8⟩ := open_intR Tryd.underlying2 q8
    simp only [List.cons.injEq, and_true] at e8
    subst e8
    obtain ⟨A9, l9, p9, e9, g9, h9, s9, w9⟩ := q9.slice Tryd.underlying72
    rw [Tryd.bytes_Arg] at w9
    unfold reachBytes at w9
    rw [Tryd.cells_2] at s9
    simp only [List.cons.injEq, and_true] at e9
    subst e9
    obtain ⟨x9, rfl, n9⟩ := SlR.of (R := ArgR) (by decide) s9 g9 h9 (fun cs hc => open_ArgR hc)
    exact ⟨⟨x0, x1, x2, x3, x4, x5, x6, x7, x8, x9⟩, _, rfl, n0, n1, n2_0, n2_1, n3_0, n3_1, n4, n7, n8, n9, (by show x9.length ≤ 140737488351232; omega)⟩
theorem open_TermR {cs : List Value} (h : Rw enc Tryd.prog w 55 cs) : ∃ x, TermR cs x := by
  obtain ⟨hl, hf⟩ := h.struct Tryd.underlying55
  rw [Tryd.cells_6] at hl
  match cs, hl, hf with
  | [c0, c1, c2, c3, c4, c5, c6, c7], _, hf =>
    have q0 : Rw enc Tryd.prog w 3 (([c0, c1, c2, c3, c4, c5, c6, c7].drop 0).take (Tryd.prog.cellsOf 3)) := hf 0 _ rfl
    have q1 : Rw enc Tryd.prog w 3 (([c0, c1, c2, c3, c4, c5, c6, c7].drop 1).take (Tryd.prog.cellsOf 3)) := hf 1 _ rfl
    have q2 : Rw enc Tryd.prog w 52 (([c0, c1, c2, c3, c4, c5, c6, c7].drop 2).take (Tryd.prog.cellsOf 52)) := hf 2 _ rfl
    have q3 : Rw enc Tryd.prog w 52 (([c0, c1, c2, c3, c4, c5, c6, c7].drop 4).take (Tryd.prog.cellsOf 52)) := hf 3 _ rfl
    have q4 : Rw enc Tryd.prog w 3 (([c0, c1, c2, c3, c4, c5, c6, c7].drop 6).take (Tryd.prog.cellsOf 3)) := hf 4 _ rfl
    have q5 : Rw enc Tryd.prog w 3 (([c0, c1, c2, c3, c4, c5, c6, c7].drop 7).take (Tryd.prog.cellsOf 3)) := hf 5 _ rfl
    clear hf
    rw [Tryd.cells_0] at q0
    replace q0 : Rw enc Tryd.prog w 3 [c0] := q0
    rw [Tryd.cells_0] at q1
    replace q1 : Rw enc Tryd.prog w 3 [c1] := q1
    rw [Tryd.cells_2] at q2
    replace q2 : Rw enc Tryd.prog w 52 [c2, c3] := q2
    rw [Tryd.cells_2] at q3
    replace q3 : Rw enc Tryd.prog w 52 [c4, c5] := q3
    rw [Tryd.cells_0] at q4
    replace q4 : Rw enc Tryd.prog w 3 [c6] := q4
    rw [Tryd.cells_0] at q5
    replace q5 : Rw enc Tryd.prog w 3 [c7] := q5
    obtain ⟨x0, e0, n0⟩ := open_intR Tryd.underlying3 q0
    simp only [List.cons.injEq, and_true] at e0
    subst e0
    obtain ⟨x1, e1, n1⟩ := open_intR Tryd.underlying3 q1
    simp only [List.cons.injEq, and_true] at e1
    subst e1
    obtain ⟨x2, e2, n2_0, n2_1⟩ := open_ArgR q2
    simp only [List.cons.injEq, and_true] at e2
    obtain ⟨rfl, rfl⟩ := e2
    obtain ⟨x3, e3, n3_0, n3_1⟩ := open_ArgR q3
    simp only [List.cons.injEq, and_true] at e3
    obtain ⟨rfl, rfl⟩ := e3
    obtain ⟨x4, e4, n4⟩ := open_intR Tryd.underlying3 q4
    simp only [List.cons.injEq, and_true] at e4
    subst e4
    obtain ⟨x5, e5, n5⟩ := open_intR Tryd.underlying3 q5
    simp only [List.cons.injEq, and_true] at e5
    subst e5
    exact ⟨⟨x0, x1, x2, x3, x4, x5⟩, rfl, n0, n1, n2_0, n2_1, n3_0, n3_1, n4, n5⟩
theorem open_BlockR {cs : List Value} (h : Rw enc Tryd.prog w 58 cs) : ∃ x, BlockR w cs x := by
  obtain ⟨hl, hf⟩ := h.struct Tryd.underlying58
  rw [Tryd.cells_e_Block] at hl
  match cs, hl, hf with
  | [c0, c1, c2, c3, c4, c5, c6, c7, c8], _, hf =>
    have q0 : Rw enc Tryd.prog w 56 (([c0, c1, c2, c3, c4, c5, c6, c7, c8].drop 0).take (Tryd.prog.cellsOf 56)) := hf 0 _ rfl
    have q1 : Rw enc Tryd.prog w 55 (([c0, c1, c2, c3, c4, c5, c6, c7, c8].drop 1).take (Tryd.prog.cellsOf 55)) := hf 1 _ rfl
    clear hf
    rw [Tryd.cells_5] at q0
    replace q0 : Rw enc Tryd.prog w 56 [c0] := q0
    rw [Tryd.cells_6] at q1
    replace q1 : Rw enc Tryd.prog w 55 [c1, c2, c3, c4, c5, c6, c7, c8] := q1
    obtain ⟨A0, l0, p0, e0, g0, h0, s0, w0⟩ := q0.slice Tryd.underlying56
    rw [Tryd.bytes_Ins] at w0
    unfold reachBytes at w0
    rw [Tryd.cells_e_Ins] at s0
    simp only [List.cons.injEq, and_true] at e0
    subst e0
    obtain ⟨x0, rfl, n0⟩ := SlR.of (R := InsR w) (by decide) s0 g0 h0 (fun cs hc => open_InsR hc)
    obtain ⟨x1, e1, n1_0, n1_1, n1_2, n1_3, n1_4, n1_5, n1_6, n1_7⟩ := open_TermR q1
    simp only [List.cons.injEq, and_true] at e1
    obtain ⟨rfl, rfl, rfl, rfl, rfl, rfl, rfl, rfl⟩ := e1
    exact ⟨⟨x0, x1⟩, _, rfl, n0, (by show x0.length ≤ 140737488351232; omega), n1_0, n1_1, n1_2, n1_3, n1_4, n1_5, n1_6, n1_7⟩
theorem open_FuncR {cs : List Value} (h : Rw enc Tryd.prog w 40 cs) : ∃ x, FuncR w cs x := by
  obtain ⟨hl, hf⟩ := h.struct Tryd.underlying40
  rw [Tryd.cells_e_Func] at hl
  match cs, hl, hf with
  | [c0, c1, c2, c3, c4, c5], _, hf =>
    have q0 : Rw enc Tryd.prog w 9 (([c0, c1, c2, c3, c4, c5].drop 0).take (Tryd.prog.cellsOf 9)) := hf 0 _ rfl
    have q1 : Rw enc Tryd.prog w 3 (([c0, c1, c2, c3, c4, c5].drop 1).take (Tryd.prog.cellsOf 3)) := hf 1 _ rfl
    have q2 : Rw enc Tryd.prog w 36 (([c0, c1, c2, c3, c4, c5].drop 2).take (Tryd.prog.cellsOf 36)) := hf 2 _ rfl
    have q3 : Rw enc Tryd.prog w 3 (([c0, c1, c2, c3, c4, c5].drop 3).take (Tryd.prog.cellsOf 3)) := hf 3 _ rfl
    have q4 : Rw enc Tryd.prog w 37 (([c0, c1, c2, c3, c4, c5].drop 4).take (Tryd.prog.cellsOf 37)) := hf 4 _ rfl
    have q5 : Rw enc Tryd.prog w 38 (([c0, c1, c2, c3, c4, c5].drop 5).take (Tryd.prog.cellsOf 38)) := hf 5 _ rfl
    clear hf
    rw [Tryd.cells_7] at q0
    replace q0 : Rw enc Tryd.prog w 9 [c0] := q0
    rw [Tryd.cells_0] at q1
    replace q1 : Rw enc Tryd.prog w 3 [c1] := q1
    rw [Tryd.cells_8] at q2
    replace q2 : Rw enc Tryd.prog w 36 [c2] := q2
    rw [Tryd.cells_0] at q3
    replace q3 : Rw enc Tryd.prog w 3 [c3] := q3
    rw [Tryd.cells_9] at q4
    replace q4 : Rw enc Tryd.prog w 37 [c4] := q4
    rw [Tryd.cells_10] at q5
    replace q5 : Rw enc Tryd.prog w 38 [c5] := q5
    obtain ⟨x0, e0, n0⟩ := q0.rd.string Tryd.underlying9
    simp only [List.cons.injEq, and_true] at e0
    subst e0
    obtain ⟨x1, e1, n1⟩ := open_intR Tryd.underlying3 q1
    simp only [List.cons.injEq, and_true] at e1
    subst e1
    obtain ⟨A2, l2, p2, e2, g2, h2, s2, w2⟩ := q2.slice Tryd.underlying36
    rw [Tryd.bytes_bool] at w2
    unfold reachBytes at w2
    rw [Tryd.cells_3] at s2
    simp only [List.cons.injEq, and_true] at e2
    subst e2
    obtain ⟨x2, rfl, n2⟩ := SlR.of (R := BoolR) (by decide) s2 g2 h2 (fun cs hc => open_boolR Tryd.underlying4 hc)
    obtain ⟨x3, e3, n3⟩ := open_intR Tryd.underlying3 q3
    simp only [List.cons.injEq, and_true] at e3
    subst e3
    obtain ⟨A4, l4, p4, e4, g4, h4, s4, w4⟩ := q4.slice Tryd.underlying37
    rw [Tryd.bytes_int] at w4
    unfold reachBytes at w4
    rw [Tryd.cells_0] at s4
    simp only [List.cons.injEq, and_true] at e4
    subst e4
    obtain ⟨x4, rfl, n4⟩ := SlR.of (R := IntR) (by decide) s4 g4 h4 (fun cs hc => open_intR Tryd.underlying3 hc)
    obtain ⟨A5, l5, p5, e5, g5, h5, s5, w5⟩ := q5.slice Tryd.underlying38
    rw [Tryd.bytes_Block] at w5
    unfold reachBytes at w5
    rw [Tryd.cells_e_Block] at s5
    simp only [List.cons.injEq, and_true] at e5
    subst e5
    obtain ⟨x5, rfl, n5⟩ := SlR.of (R := BlockR w) (by decide) s5 g5 h5 (fun cs hc => open_BlockR hc)
    exact ⟨⟨x0, x1, x2, x3, x4, x5⟩, _, _, _, rfl, n0, n1, n2, (by show x2.length ≤ 140737488351232; omega), n3, n4, (by show x4.length ≤ 140737488351232; omega), n5, (by show x5.length ≤ 140737488351232; omega)⟩
theorem open_PartR {cs : List Value} (h : Rw enc Tryd.prog w 71 cs) : ∃ x, PartR w cs x := by
  obtain ⟨hl, hf⟩ := h.struct Tryd.underlying71
  rw [Tryd.cells_e_Part] at hl
  match cs, hl, hf with
  | [c0, c1, c2], _, hf =>
    have q0 : Rw enc Tryd.prog w 3 (([c0, c1, c2].drop 0).take (Tryd.prog.cellsOf 3)) := hf 0 _ rfl
    have q1 : Rw enc Tryd.prog w 69 (([c0, c1, c2].drop 1).take (Tryd.prog.cellsOf 69)) := hf 1 _ rfl
    have q2 : Rw enc Tryd.prog w 3 (([c0, c1, c2].drop 2).take (Tryd.prog.cellsOf 3)) := hf 2 _ rfl
    clear hf
    rw [Tryd.cells_0] at q0
    replace q0 : Rw enc Tryd.prog w 3 [c0] := q0
    rw [Tryd.cells_11] at q1
    replace q1 : Rw enc Tryd.prog w 69 [c1] := q1
    rw [Tryd.cells_0] at q2
    replace q2 : Rw enc Tryd.prog w 3 [c2] := q2
    obtain ⟨x0, e0, n0⟩ := open_intR Tryd.underlying3 q0
    simp only [List.cons.injEq, and_true] at e0
    subst e0
    obtain ⟨A1, l1, p1, e1, g1, h1, s1, w1⟩ := q1.slice Tryd.underlying69
    rw [Tryd.bytes_byte] at w1
    unfold reachBytes at w1
    rw [Tryd.cells_e_byte] at s1
    simp only [List.cons.injEq, and_true] at e1
    subst e1
    obtain ⟨x1, rfl, n1⟩ := SlR.of (R := ByteR) (by decide) s1 g1 h1 (fun cs hc => open_byteR Tryd.underlying5 hc)
    obtain ⟨x2, e2, n2⟩ := open_intR Tryd.underlying3 q2
    simp only [List.cons.injEq, and_true] at e2
    subst e2
    exact ⟨⟨x0, x1, x2⟩, _, rfl, n0, n1, (by show x1.length ≤ 140737488351232; omega), n2⟩
theorem open_GlobR {cs : List Value} (h : Rw enc Tryd.prog w 68 cs) : ∃ x, GlobR w cs x := by
  obtain ⟨hl, hf⟩ := h.struct Tryd.underlying68
  rw [Tryd.cells_e_Glob] at hl
  match cs, hl, hf with
  | [c0, c1, c2, c3], _, hf =>
    have q0 : Rw enc Tryd.prog w 9 (([c0, c1, c2, c3].drop 0).take (Tryd.prog.cellsOf 9)) := hf 0 _ rfl
    have q1 : Rw enc Tryd.prog w 3 (([c0, c1, c2, c3].drop 1).take (Tryd.prog.cellsOf 3)) := hf 1 _ rfl
    have q2 : Rw enc Tryd.prog w 3 (([c0, c1, c2, c3].drop 2).take (Tryd.prog.cellsOf 3)) := hf 2 _ rfl
    have q3 : Rw enc Tryd.prog w 66 (([c0, c1, c2, c3].drop 3).take (Tryd.prog.cellsOf 66)) := hf 3 _ rfl
    clear hf
    rw [Tryd.cells_7] at q0
    replace q0 : Rw enc Tryd.prog w 9 [c0] := q0
    rw [Tryd.cells_0] at q1
    replace q1 : Rw enc Tryd.prog w 3 [c1] := q1
    rw [Tryd.cells_0] at q2
    replace q2 : Rw enc Tryd.prog w 3 [c2] := q2
    rw [Tryd.cells_12] at q3
    replace q3 : Rw enc Tryd.prog w 66 [c3] := q3
    obtain ⟨x0, e0, n0⟩ := q0.rd.string Tryd.underlying9
    simp only [List.cons.injEq, and_true] at e0
    subst e0
    obtain ⟨x1, e1, n1⟩ := open_intR Tryd.underlying3 q1
    simp only [List.cons.injEq, and_true] at e1
    subst e1
    obtain ⟨x2, e2, n2⟩ := open_intR Tryd.underlying3 q2
    simp only [List.cons.injEq, and_true] at e2
    subst e2
    obtain ⟨A3, l3, p3, e3, g3, h3, s3, w3⟩ := q3.slice Tryd.underlying66
    rw [Tryd.bytes_Part] at w3
    unfold reachBytes at w3
    rw [Tryd.cells_e_Part] at s3
    simp only [List.cons.injEq, and_true] at e3
    subst e3
    obtain ⟨x3, rfl, n3⟩ := SlR.of (R := PartR w) (by decide) s3 g3 h3 (fun cs hc => open_PartR hc)
    exact ⟨⟨x0, x1, x2, x3⟩, _, rfl, n0, n1, n2, n3, (by show x3.length ≤ 140737488351232; omega)⟩
theorem open_ProgR {cs : List Value} (h : Rw enc Tryd.prog w 25 cs) : ∃ x, ProgR w cs x := by
  obtain ⟨hl, hf⟩ := h.struct Tryd.underlying25
  rw [Tryd.cells_Prog] at hl
  match cs, hl, hf with
  | [c0, c1, c2, c3], _, hf =>
    have q0 : Rw enc Tryd.prog w 22 (([c0, c1, c2, c3].drop 0).take (Tryd.prog.cellsOf 22)) := hf 0 _ rfl
    have q1 : Rw enc Tryd.prog w 23 (([c0, c1, c2, c3].drop 1).take (Tryd.prog.cellsOf 23)) := hf 1 _ rfl
    have q2 : Rw enc Tryd.prog w 3 (([c0, c1, c2, c3].drop 2).take (Tryd.prog.cellsOf 3)) := hf 2 _ rfl
    have q3 : Rw enc Tryd.prog w 3 (([c0, c1, c2, c3].drop 3).take (Tryd.prog.cellsOf 3)) := hf 3 _ rfl
    clear hf
    rw [Tryd.cells_13] at q0
    replace q0 : Rw enc Tryd.prog w 22 [c0] := q0
    rw [Tryd.cells_14] at q1
    replace q1 : Rw enc Tryd.prog w 23 [c1] := q1
    rw [Tryd.cells_0] at q2
    replace q2 : Rw enc Tryd.prog w 3 [c2] := q2
    rw [Tryd.cells_0] at q3
    replace q3 : Rw enc Tryd.prog w 3 [c3] := q3
    obtain ⟨A0, l0, p0, e0, g0, h0, s0, w0⟩ := q0.slice Tryd.underlying22
    rw [Tryd.bytes_Func] at w0
    unfold reachBytes at w0
    rw [Tryd.cells_e_Func] at s0
    simp only [List.cons.injEq, and_true] at e0
    subst e0
    obtain ⟨x0, rfl, n0⟩ := SlR.of (R := FuncR w) (by decide) s0 g0 h0 (fun cs hc => open_FuncR hc)
    obtain ⟨A1, l1, p1, e1, g1, h1, s1, w1⟩ := q1.slice Tryd.underlying23
    rw [Tryd.bytes_Glob] at w1
    unfold reachBytes at w1
    rw [Tryd.cells_e_Glob] at s1
    simp only [List.cons.injEq, and_true] at e1
    subst e1
    obtain ⟨x1, rfl, n1⟩ := SlR.of (R := GlobR w) (by decide) s1 g1 h1 (fun cs hc => open_GlobR hc)
    obtain ⟨x2, e2, n2⟩ := open_intR Tryd.underlying3 q2
    simp only [List.cons.injEq, and_true] at e2
    subst e2
    obtain ⟨x3, e3, n3⟩ := open_intR Tryd.underlying3 q3
    simp only [List.cons.injEq, and_true] at e3
    subst e3
    exact ⟨⟨x0, x1, x2, x3⟩, _, _, rfl, n0, (by show x0.length ≤ 140737488351232; omega), n1, (by show x1.length ≤ 140737488351232; omega), n2, n3⟩
end
end Go.Proofs.YtbogcompeefoaaaDoor
