/- Arguments of any shape: what stands where they read, part by part. Over any program. Arguments of any shape, with the row's own reach: what stands where they read, part by part. Over any program. What structs that came in read as. What an append leaves of blocks of other types; an instruction's cells. read.operands: the parts of a line. read.kinds: are parts of these kinds?. read.jump. What a program's text is, as bytes: the data's lines; how long they are. asm.datum: a line of the data. No condition. -/
import Derived.Test.YtmmpkkpmlaiapaaGreatDoorLib
import Derived.Test.YtmmpkkpmlaiapaaGreatDoorOpen
import Derived.ChangeMaps5
import Derived.DataElems
import Derived.SizedLaws
import Derived.Test.YtmmpkkpmlaiapaaGreatDoorChecked
import Derived.Test.YtmmpkkpmlaiapaaGreatDoorQa
import Derived.Deep.AppendSrc
import Derived.Deep.Upon
import Derived.Test.YtmmpkkpmlaiapaaGreatDoorRlO
import Derived.Test.YtmmpkkpmlaiapaaGreatDoorHu
import Derived.Test.YtmmpkkpmlaiapaaGreatDoorQd
namespace Go.Proofs.YtmmpkkpmlaiapaaGreatDoor
open Go.Joins Go.ChangeShapes Go.WideShapes Go.RowKit Go.Deep
set_option linter.unusedVariables false
section
variable {H : Type} {enc : TypeId × Value → H} {P : Program} {w : World}
def Rd (enc : TypeId × Value → H) (P : Program) (w : World) (T : TypeId) (cs : List Value) : Prop := ∃ fuel x, DataW.trod enc P w 0 (fun _ => true) true fuel T cs = some x
theorem Rd.of_trod {T : TypeId} {v : Value} {d : DataW H} {ps : List MemPlace} (h : DataW.Trod enc P w 0 (fun _ => true) true T v d ps) : Rd enc P w T v.cells.toList := by
  obtain ⟨fuel, hf⟩ := h
  exact ⟨fuel, _, hf⟩
theorem Rd.int {T : TypeId} {k : IntKind} {cs : List Value} (ht : P.underlying T = some (.int k)) (h : Rd enc P w T cs) : ∃ n, cs = [.int k n] ∧ (Lit.int k n).wf = true := by
  obtain ⟨fuel, x, hf⟩ := h
  obtain ⟨n, h1, _, h3⟩ := DataW.trod_int ht hf
  exact ⟨n, h1, h3⟩
theorem Rd.bool {T : TypeId} {cs : List Value} (ht : P.underlying T = some .bool) (h : Rd enc P w T cs) : ∃ b, cs = [.bool b] := by
  obtain ⟨fuel, x, hf⟩ := h
  obtain ⟨b, h1, _⟩ := DataW.trod_bool ht hf
  exact ⟨b, h1⟩
theorem Rd.string {T : TypeId} {cs : List Value} (ht : P.underlying T = some .string) (h : Rd enc P w T cs) : ∃ s : ByteArray, cs = [.string s] ∧ s.size ≤ maxLen := by
  obtain ⟨fuel, x, hf⟩ := h
  obtain ⟨s, h1, _, h3⟩ := DataW.trod_string ht hf
  exact ⟨s, h1, h3⟩
theorem Rd.struct {T : TypeId} {fs : Array Field} {cs : List Value} (hs : P.underlying T = some (.struct fs)) (h : Rd enc P w T cs) :
    cs.length = P.cellsOf T ∧ ∀ (i : Nat) (f : Field), fs[i]? = some f → Rd enc P w f.type ((cs.drop f.offset).take (P.cellsOf f.type)) := by
  obtain ⟨fuel, x, hf⟩ := h
  obtain ⟨xs, n, _, _, h1, h2, h3⟩ := DataW.trod_struct hs hf
  refine ⟨h1, fun i f hi => ?_⟩
  have hlt : i < xs.length := by rw [h2]; exact (Array.getElem?_eq_some_iff.1 hi).1
  exact ⟨n, xs[i], (h3 i f hi).trans (List.getElem?_eq_getElem hlt)⟩
def SliceAt (w : World) (A : Option Addr) (len C : Nat) (R : List Value → Prop) : Prop :=
  ∀ i, i < len → ∃ ad cs, A = some ad ∧ cs.length = C ∧ (∀ j, j < C → w.cell? (ad.add (i * C + j)) = cs[j]?) ∧ R cs
theorem Rd.slice {T e : TypeId} {cs : List Value} (ht : P.underlying T = some (.slice e)) (h : Rd enc P w T cs) :
    ∃ A len cap, cs = [.slice A len cap] ∧ len ≤ cap ∧ cap ≤ maxLen ∧ SliceAt w A len (P.cellsOf e) (Rd enc P w e) := by
  obtain ⟨fuel, x, hf⟩ := h
  rcases DataW.trod_slice ht hf with ⟨h1, _⟩ | ⟨a, len, cap, elems, rest, n, _, h1, _, _, h2, h3, h4, h5, _⟩
  · exact ⟨none, 0, 0, h1, Nat.le_refl _, by decide, fun i hi => by omega⟩
  · refine ⟨some a, len, cap, h1, h2, h3, fun i hi => ?_⟩
    have e := h5 i hi
    rw [List.getElem?_eq_getElem (by omega), Option.bind_eq_some_iff] at e
    obtain ⟨cs', g1, g2⟩ := e
    obtain ⟨_, k1, k2⟩ := World.cells?_some g1
    refine ⟨a, cs', rfl, k1, fun j hj => ?_, n, _, g2⟩
    rw [← k2 j hj, Addr.add_add]
theorem rd_cell_lt {a : Addr} {v : Value} (h : w.cell? a = some v) : a.block < w.heap.size := World.block_lt_of_cell? w a h
end
theorem SliceAt.one {w w' : World} {A : Option Addr} {len k : Nat} {R : List Value → Prop} (h : SliceAt w A len 1 R) (hb : Below w.heap.size w w') (hk : k < len) :
    ∃ ad u, A = some ad ∧ w'.cell? (ad.add k) = some u ∧ R [u] := by
  obtain ⟨ad, cs, h1, h2, h3, h4⟩ := h k hk
  obtain ⟨u, rfl⟩ : ∃ u, cs = [u] := by
    match cs, h2 with
    | [u], _ => exact ⟨u, rfl⟩
  have e := h3 0 (by omega)
  rw [Nat.mul_one, Nat.add_zero] at e
  have e' : w.cell? (ad.add k) = some u := by simpa using e
  refine ⟨ad, u, h1, ?_, h4⟩
  rw [← e']
  exact hb.cell (p := ad.add k) (by have := rd_cell_lt e'; exact this)
section
variable {H : Type} {enc : TypeId × Value → H} {P : Program} {w : World}
end
end Go.Proofs.YtmmpkkpmlaiapaaGreatDoor
namespace Go.Proofs.YtmmpkkpmlaiapaaGreatDoor
open Go.Joins Go.ChangeShapes Go.WideShapes Go.RowKit Go.Deep
set_option linter.unusedVariables false
section
variable {H : Type} {enc : TypeId × Value → H} {P : Program} {w : World}
def Rw (enc : TypeId × Value → H) (P : Program) (w : World) (T : TypeId) (cs : List Value) : Prop := ∃ fuel x, DataW.trod enc P w 0 (fun _ => true) true fuel T cs = some x ∧ ∀ b ∈ x.1.weights P T, b ≤ reachBytes
theorem Rw.rd {T : TypeId} {cs : List Value} (h : Rw enc P w T cs) : Rd enc P w T cs := let ⟨f, x, h1, _⟩ := h; ⟨f, x, h1⟩
theorem Rw.of_trod {T : TypeId} {v : Value} {d : DataW H} {ps : List MemPlace} (h : DataW.Trod enc P w 0 (fun _ => true) true T v d ps) (hw : ∀ b ∈ d.weights P T, b ≤ reachBytes) : Rw enc P w T v.cells.toList := by
  obtain ⟨fuel, hf⟩ := h
  exact ⟨fuel, _, hf, hw⟩
theorem weightsAll_mem {e : TypeId} : ∀ (l : List (DataW H)) (d : DataW H), d ∈ l → ∀ b ∈ d.weights P e, b ∈ DataW.weightsAll P e l
  | x :: l, d, h, b, hb => by
    unfold DataW.weightsAll
    rw [List.mem_append]
    rcases List.mem_cons.1 h with rfl | h
    · exact Or.inl hb
    · exact Or.inr (weightsAll_mem l d h b hb)
theorem weightsEach_mem : ∀ (ts : List TypeId) (l : List (DataW H)) (i : Nat) (t : TypeId) (d : DataW H), ts[i]? = some t → l[i]? = some d → ∀ b ∈ d.weights P t, b ∈ DataW.weightsEach P ts l
  | [], _, i, t, d, h, _, _, _ => by simp at h
  | _ :: _, [], i, t, d, _, h, _, _ => by simp at h
  | t0 :: ts, x :: l, 0, t, d, h1, h2, b, hb => by
    simp only [List.getElem?_cons_zero, Option.some.injEq] at h1 h2
    subst h1 h2
    unfold DataW.weightsEach
    exact List.mem_append.2 (Or.inl hb)
  | t0 :: ts, x :: l, i + 1, t, d, h1, h2, b, hb => by
    unfold DataW.weightsEach
    exact List.mem_append.2 (Or.inr (weightsEach_mem ts l i t d (by simpa using h1) (by simpa using h2) b hb))
theorem Rw.struct {T : TypeId} {fs : Array Field} {cs : List Value} (hs : P.underlying T = some (.struct fs)) (h : Rw enc P w T cs) :
    cs.length = P.cellsOf T ∧ ∀ (i : Nat) (f : Field), fs[i]? = some f → Rw enc P w f.type ((cs.drop f.offset).take (P.cellsOf f.type)) := by
  obtain ⟨fuel, x, hf, hw⟩ := h
  obtain ⟨xs, n, _, hx, h1, h2, h3⟩ := DataW.trod_struct hs hf
  refine ⟨h1, fun i f hi => ?_⟩
  have hlt : i < xs.length := by rw [h2]; exact (Array.getElem?_eq_some_iff.1 hi).1
  refine ⟨n, xs[i], (h3 i f hi).trans (List.getElem?_eq_getElem hlt), fun b hb => hw b ?_⟩
  subst hx
  simp only [DataW.weights, hs]
  exact weightsEach_mem _ _ i f.type xs[i].1 (by simp [hi]) (by simp [List.getElem?_eq_getElem hlt]) b hb
theorem Rw.slice {T e : TypeId} {cs : List Value} (ht : P.underlying T = some (.slice e)) (h : Rw enc P w T cs) :
    ∃ A len cap, cs = [.slice A len cap] ∧ len ≤ cap ∧ cap ≤ maxLen ∧ SliceAt w A len (P.cellsOf e) (Rw enc P w e) ∧ cap * P.bytesOf e ≤ reachBytes := by
  obtain ⟨fuel, x, hf, hw⟩ := h
  rcases DataW.trod_slice ht hf with ⟨h1, _⟩ | ⟨a, len, cap, elems, rest, n, _, h1, hx, _, h2, h3, h4, h5, h6, _⟩
  · exact ⟨none, 0, 0, h1, Nat.le_refl _, by decide, (fun i hi => by omega), by simp [reachBytes]⟩
  · have hr := (h6 rfl).1
    subst hx
    simp only [DataW.weights, ht] at hw
    refine ⟨some a, len, cap, h1, h2, h3, fun i hi => ?_, ?_⟩
    · have e' := h5 i hi
      have hlt : i < elems.length := by omega
      rw [List.getElem?_eq_getElem hlt, Option.bind_eq_some_iff] at e'
      obtain ⟨cs', g1, g2⟩ := e'
      obtain ⟨_, k1, k2⟩ := World.cells?_some g1
      refine ⟨a, cs', rfl, k1, fun j hj => ?_, n, _, g2, fun b hb => hw b ?_⟩
      · rw [← k2 j hj, Addr.add_add]
      · refine List.mem_cons_of_mem _ (List.mem_append.2 (Or.inl ?_))
        exact weightsAll_mem _ _ (List.mem_map_of_mem (List.getElem_mem hlt)) b hb
    · have := hw _ List.mem_cons_self
      simp only [List.length_map, h4, hr] at this
      rw [show len + (cap - len) = cap by omega] at this
      exact this
end
end Go.Proofs.YtmmpkkpmlaiapaaGreatDoor
namespace Go.Proofs.YtmmpkkpmlaiapaaGreatDoor
open Go.RowKit
set_option linter.unusedVariables false
set_option maxRecDepth 20000
structure XInsD where
  op : Int
  dst : Int
  src : Int
  imm : Int
  size : Int
  signed : Bool
  cond : Int
  to_ : ByteArray
structure XItemD where
  label : ByteArray
  ins : XInsD
structure XDatumD where
  kind : Int
  name : ByteArray
  data : List Int
  n : Int
structure XProgD where
  data : List XDatumD
  code : List XItemD
def SlR {α : Type} (w : World) (C : Nat) (R : List Value → α → Prop) (v : Value) (xs : List α) : Prop :=
  ∃ A cap, v = .slice A xs.length cap ∧ xs.length ≤ cap ∧ cap ≤ maxLen ∧ ∀ i x, xs[i]? = some x → ∃ b o cs, A = some ⟨b, o, none⟩ ∧ cs.length = C ∧ (∀ j, j < C → w.cell? ⟨b, o + i * C + j, none⟩ = cs[j]?) ∧ R cs x
def ByteR (cs : List Value) (x : Int) : Prop := cs = [.int .u8 x] ∧ 0 ≤ x ∧ x ≤ 255
def XItemR (cs : List Value) (x : XItemD) : Prop := cs = [.string x.label, .int .i64 x.ins.op, .int .i64 x.ins.dst, .int .i64 x.ins.src, .int .i64 x.ins.imm, .int .i64 x.ins.size, .bool x.ins.signed, .int .i64 x.ins.cond, .string x.ins.to_] ∧ x.label.size ≤ maxLen ∧ In64 x.ins.op ∧ In64 x.ins.dst ∧ In64 x.ins.src ∧ In64 x.ins.imm ∧ In64 x.ins.size ∧ In64 x.ins.cond ∧ x.ins.to_.size ≤ maxLen
def XDatumR (w : World) (cs : List Value) (x : XDatumD) : Prop := ∃ v_data, cs = [.int .i64 x.kind, .string x.name, v_data, .int .i64 x.n] ∧ In64 x.kind ∧ x.name.size ≤ maxLen ∧ SlR w 1 ByteR v_data x.data ∧ x.data.length ≤ 140737488351232 ∧ In64 x.n
theorem laterC {w w' : World} {a : Addr} {v : Value} (h : w.cell? a = some v) (hb : Below w.heap.size w w') : w'.cell? a = some v := (hb.cell (World.block_lt_of_cell? w _ h)).trans h
theorem SlR.later {α : Type} {w w' : World} {C : Nat} {R : List Value → α → Prop} {v : Value} {xs : List α} (h : SlR w C R v xs) (hC : 0 < C) (hb : Below w.heap.size w w') : SlR w' C R v xs := by
  obtain ⟨A, cap, h1, h2, h3, h4⟩ := h
  refine ⟨A, cap, h1, h2, h3, fun i x hi => ?_⟩
  obtain ⟨b, o, cs, g1, g2, g3, g4⟩ := h4 i x hi
  refine ⟨b, o, cs, g1, g2, fun j hj => ?_, g4⟩
  have hj2 : j < cs.length := by omega
  have e := g3 j hj
  rw [List.getElem?_eq_getElem hj2] at e ⊢
  exact laterC e hb
set_option maxRecDepth 100000 in
section
variable {H : Type} {enc : TypeId × Value → H} {w : World}
theorem choose_list {α : Type} {p : Nat → α → Prop} : ∀ (n : Nat), (∀ i, i < n → ∃ x, p i x) → ∃ xs : List α, xs.length = n ∧ ∀ i x, xs[i]? = some x → p i x
  | 0, _ => ⟨[], rfl, fun i x h => by simp at h⟩
  | n + 1, h => by
    obtain ⟨xs, h1, h2⟩ := choose_list n (fun i hi => h i (by omega))
    obtain ⟨x, hx⟩ := h n (by omega)
    refine ⟨xs ++ [x], by simp [h1], fun i y hi => ?_⟩
    rw [List.getElem?_append] at hi
    split at hi
    · exact h2 i y hi
    · rename_i hlt
      have : i = n := by
        have := (List.getElem?_eq_some_iff.1 hi).1
        simp at this; omega
      subst this
      rw [h1, Nat.sub_self] at hi
      simp at hi
      subst hi
      exact hx
theorem spot_none {a : Addr} {v : Value} (h : w.cell? a = some v) : a.spot = none := by
  unfold World.cell? at h
  split at h
  · split at h
    · cases h
    · rename_i hs
      cases e : a.spot with
      | none => rfl
      | some x => rw [e] at hs; exact absurd rfl hs
  · cases h
theorem addr_lit {a : Addr} (h : a.spot = none) (n : Nat) : a.add n = ⟨a.block, a.off + n, none⟩ := by
  unfold Addr.add
  split
  · rename_i e; subst e; cases a; simp_all
  · rfl
theorem SlR.of {α : Type} {A : Option Addr} {len cap C : Nat} {R0 : List Value → Prop} {R : List Value → α → Prop} (hC : 0 < C) (h : SliceAt w A len C R0) (hl : len ≤ cap) (hc : cap ≤ maxLen) (hR : ∀ cs, R0 cs → ∃ x, R cs x) : ∃ xs : List α, xs.length = len ∧ SlR w C R (.slice A len cap) xs := by
  obtain ⟨xs, h1, h2⟩ := choose_list (p := fun i x => ∃ b o cs, A = some ⟨b, o, none⟩ ∧ cs.length = C ∧ (∀ j, j < C → w.cell? ⟨b, o + i * C + j, none⟩ = cs[j]?) ∧ R cs x) len (fun i hi => by
    obtain ⟨ad, cs, g1, g2, g3, g4⟩ := h i hi
    obtain ⟨ad0, cs0, k1, k2, k3, _⟩ := h 0 (by omega)
    rw [g1] at k1
    obtain rfl := Option.some.inj k1
    have e0 := k3 0 hC
    rw [Nat.zero_mul, List.getElem?_eq_getElem (by omega)] at e0
    have hs : ad.spot = none := spot_none (a := ad) (by simpa [Addr.add] using e0)
    obtain ⟨x, hx⟩ := hR cs g4
    refine ⟨x, ad.block, ad.off, cs, ?_, g2, fun j hj => ?_, hx⟩
    · rw [g1]; cases ad; simp_all
    · rw [← g3 j hj, addr_lit hs, Nat.add_assoc])
  subst h1
  exact ⟨xs, rfl, A, cap, rfl, hl, hc, h2⟩
end
end Go.Proofs.YtmmpkkpmlaiapaaGreatDoor
namespace Go.Proofs.YtmmpkkpmlaiapaaGreatDoor
open Go.RowKit
set_option linter.unusedVariables false
set_option maxHeartbeats 4000000
set_option maxRecDepth 100000
theorem info_partsK {P : Program} {T : TypeId} {C B : Nat} (h : (P.info? T).map (fun i => (i.zero.map (·.cells.size), i.size, i.bytes)) = some (some C, C, B)) : ∃ i z, P.info? T = some i ∧ i.zero = some z ∧ z.cells.size = C ∧ i.size = C ∧ i.bytes = B := by
  obtain ⟨i, h1, h2⟩ := Option.map_eq_some_iff.1 h
  simp only [Prod.mk.injEq] at h2
  obtain ⟨h3, h4, h5⟩ := h2
  obtain ⟨z, h6, h7⟩ := Option.map_eq_some_iff.1 h3
  exact ⟨i, z, h1, h6, h7, h4, h5⟩
def KpT (T : TypeId) (w w' : World) : Prop := w.heap.size ≤ w'.heap.size ∧ ∀ (b : Nat) (o : Obj), w.heap[b]? = some o → (∀ cs fr, o ≠ .cells cs T fr) → w'.heap[b]? = some o
section
variable {w w' w2 : World} {T T2 : TypeId}
theorem KpT.cells (h : KpT T w w') {b : Nat} {cs : Array Value} {fr : Nat × Nat} (hb : w.heap[b]? = some (.cells cs T2 fr)) (hT : T2 ≠ T) : w'.heap[b]? = some (.cells cs T2 fr) := h.2 b _ hb (fun cs' fr' e => by cases e; exact hT rfl)
theorem KpT.map (h : KpT T w w') {b c : Nat} {es : Array MapEntry} (hb : w.heap[b]? = some (.map es c)) : w'.heap[b]? = some (.map es c) := h.2 b _ hb (fun cs' fr' e => by cases e)
theorem KpT.trans (h : KpT T w w') (h2 : KpT T w' w2) : KpT T w w2 := ⟨Nat.le_trans h.1 h2.1, fun b o hb ho => h2.2 b o (h.2 b o hb ho) ho⟩
theorem kpT_grown {B C n : Nat} {v : Value} {xs : List Value} (h : w.ownsRow B T C v n xs) (hg : w.grownBy w' v.ownBlock) : KpT T w w' := by
  refine ⟨hg.size, fun b o hb ho => ?_⟩
  refine (hg.block b (Array.getElem?_eq_some_iff.1 hb).1 (fun e => ?_)).trans hb
  rcases h.2 with ⟨rfl, e2⟩ | ⟨g', cap, cur, rfl, k1, k2, _⟩
  · simp [Value.ownBlock] at e
  · simp only [Value.ownBlock, Option.some.injEq] at e
    subst e
    rw [k2] at hb
    cases hb
    exact ho _ _ rfl
theorem KpT.own (h : KpT T w w') {B C n : Nat} {v : Value} {xs : List Value} (hr : w.ownsRow B T2 C v n xs) (hT : T2 ≠ T) : w'.ownsRow B T2 C v n xs := by
  obtain ⟨h1, h2⟩ := hr
  refine ⟨h1, ?_⟩
  rcases h2 with h2 | ⟨g', cap, cur, e, k1, k2, k3⟩
  · exact Or.inl h2
  · exact Or.inr ⟨g', cap, cur, e, k1, h.cells k2 hT, k3⟩
end
def insV (x : XInsD) : List Value := [.int .i64 x.op, .int .i64 x.dst, .int .i64 x.src, .int .i64 x.imm, .int .i64 x.size, .bool x.signed, .int .i64 x.cond, .string x.to_]
end Go.Proofs.YtmmpkkpmlaiapaaGreatDoor
namespace Go.Proofs.YtmmpkkpmlaiapaaGreatDoor
open Go.RowKit
set_option linter.unusedVariables false
set_option maxHeartbeats 4000000
set_option maxRecDepth 100000
def comB : ByteArray := ⟨#[44, 32]⟩
def pieces (s : ByteArray) : List ByteArray := Lib.splitB comB 0 (Lib.countB s comB) s
theorem split_len : ∀ (k : Nat) (s : ByteArray), ∀ p ∈ Lib.splitB comB 0 k s, p.size ≤ s.size
  | 0, s, p, h => by
    rw [Lib.splitB_zero] at h
    rw [List.mem_singleton.1 h]
    exact Nat.le_refl _
  | k + 1, s, p, h => by
    unfold Lib.splitB at h
    split at h
    · rw [List.mem_singleton.1 h]
      exact Nat.le_refl _
    · rcases List.mem_cons.1 h with rfl | h
      · rw [ByteArray.size_extract]; omega
      · have := split_len k _ p h
        rw [ByteArray.size_extract] at this
        omega
theorem pieces_le {s p : ByteArray} (h : p ∈ pieces s) : p.size ≤ s.size := split_len _ s p h
theorem pieces_len (s : ByteArray) : (pieces s).length = Lib.countB s comB + 1 := Lib.splitB_all comB (by decide) 0 _ s rfl
theorem count_le' (s : ByteArray) : Lib.countB s comB ≤ s.size + 1 := by
  have := Lib.countB_le comB (by decide) s.size s (Nat.le_refl _)
  omega
def RowO (w : World) (B : Nat) (v : Value) (l : List Opd) : Prop := w.ownsRow B 90 5 v l.length (l.map (fun o => (opdV o).toList)).flatten
theorem RowO.slice {w : World} {B : Nat} {v : Value} {l : List Opd} (h : RowO w B v l) : ∃ A cap, v = .slice A l.length cap := let ⟨A, cap, e, _⟩ := own_slice h; ⟨A, cap, e⟩
theorem RowO.push {w : World} {B : Nat} {v : Value} {xs : List Opd} (h : RowO w B v xs) (hB : B ≤ w.heap.size) (x : Opd) (g : Nat) (hg : g = w.heap.size) (hl : xs.length ≤ 100000000) :
    ∃ v' w', (Builtin.append_ #[57, 57] 57 #[v, .slice (some ⟨g, 0, none⟩) 1 1]).run Tryz.prog (w.alloc (.cells (opdV x) 90)) = .ok v' w' ∧ RowO w' B v' (xs ++ [x]) ∧ Below B w w' ∧ KpT 90 w w' := by
  obtain ⟨i0, z0, q1, q2, q3, q4, q5⟩ := info_partsK (C := 5) (B := 48) (show (Tryz.prog.info? 90).map (fun i => (i.zero.map (·.cells.size), i.size, i.bytes)) = some (some 5, 5, 48) by kernel_rfl)
  obtain ⟨v', w', r1, r2, r3, r4⟩ := append_oneC (P := Tryz.prog) B 57 90 i0 z0 5 48 Tryz.underlying57 q1 q2 q4 q5 q3 (by decide) v xs.length _ h (opdV x) rfl g hg (fun u hu => by
    simp only [opdV, List.mem_cons, List.not_mem_nil, or_false] at hu
    rcases hu with e | e | e | e | e <;> subst e <;> rfl) (by unfold maxLen; omega) (by omega) hB
  refine ⟨v', w', r1, ?_, below_of_grown (Below.refl _ _) hB r3 (fun k hk => ?_), kpT_grown h r3⟩
  · unfold RowO
    rw [List.length_append, List.map_append, List.flatten_append]
    simpa using r2
  · rcases h.2 with ⟨rfl, e2⟩ | ⟨g', cap, cur, rfl, k1, k2, _⟩
    · simp [Value.ownBlock] at hk
    · simp only [Value.ownBlock, Option.some.injEq] at hk
      omega
theorem wpList_append_ro {P : Program} (w : World) {ops : Array Oper} {rest : List Oper} {o : Oper} {a : Act} {Q : Exit → Act → World → Prop} (hgd : o.guard = none) (s x : Operand) (t : TypeId)
    (ho : o.op = .call { callee := .builtin .append, args := #[s, x], argTypes := #[t, t] }) (v u v' : Value) (w' : World) (hs : a.eval s = v) (hx : a.eval x = u)
    (hr : (Builtin.append_ #[t, t] o.type #[v, u]).run P w = .ok v' w') (h : wpList P ops Q rest (a.put o.dst v') w') : wpList P ops Q (o :: rest) a w :=
  wpList_plain hgd fun _ hK => by
    unfold Oper.wp execOp
    simp only [ho, resolve, invoke, builtin, Sem.run_bind, Sem.run_pure, Result.andThen_ok, List.map_toArray, List.map_cons, List.map_nil, hs, hx, hr]
    exact hK _ _ h
def OpsR (s : ByteArray) (l : List Opd) (b : Bool) : Prop :=
  (s.data.toList = [] ∧ l = [] ∧ b = true) ∨
  (s.data.toList ≠ [] ∧ b = true ∧ l.length = (pieces s).length ∧ ∀ (i : Nat) (p : ByteArray) (o : Opd), (pieces s)[i]? = some p → l[i]? = some o → OneR p.data.toList o true) ∨
  (s.data.toList ≠ [] ∧ b = false ∧ ∃ (p : ByteArray) (o : Opd), p ∈ pieces s ∧ OneR p.data.toList o false)
def OpsO (s : ByteArray) (w : World) (e : Ending) (w' : World) : Prop := ∃ v l b, e = .returned (.tuple #[v, .bool b]) ∧ OpsR s l b ∧ (b = true → RowO w' w.heap.size v l) ∧ Below w.heap.size w w' ∧ ∃ A n c, v = .slice A n c
theorem operands_any (w : World) (hR : RdOk w) (hG : GsOk w) (s : ByteArray) (hs : s.size ≤ 1000000) : Calls Tryz.prog 25 #[.string s] w (OpsO s w) := by
  have HR := Lib.hid hR
  have HG := Lib.hid hG
  have HS := Lib.hid hs
  clear hR hG hs
  by_cases h0 : s.data.toList = []
  · have d0 : s.toList.isEmpty = true := by rw [Lib.toList_data, h0]; rfl
    have H0 := Lib.hid h0
    clear h0
    go_enter Tryz.func25, Tryz.ntmps25
    go_wp2_with fail
    go_returns
    exact ⟨_, [], true, rfl, Or.inl ⟨H0.out, rfl, rfl⟩, fun _ => World.ownsRow_nil _ _ _ _, by first | exact Below.refl _ _ | exact Below.drew (Below.refl _ _), none, 0, 0, rfl⟩
  · have d0 : s.toList.isEmpty = false := by rw [Lib.toList_data]; simpa using h0
    have H0 := Lib.hid h0
    clear h0
    obtain ⟨mm, hmm⟩ := HR.out.ml
    obtain ⟨n, hn⟩ : ∃ n, n = (pieces s).length := ⟨_, rfl⟩
    have hc : Lib.countB s comB + 1 = n := by rw [hn, pieces_len]
    have HCC := Lib.hid (show Calls Tryz.prog 31 #[.string s, .string ⟨#[44, 32]⟩] w (fun e w' => e = .returned (.slice (some ⟨w.heap.size, 0, none⟩) n n) ∧ w' = w.alloc (.cells ((pieces s).map Value.string).toArray 9)) from by
      have h := Tryz.strings_Split s ⟨#[44, 32]⟩ mm w (by have := HS.out; omega) hmm (by decide)
      rw [show (⟨#[44, 32]⟩ : ByteArray) = comB from rfl, hc] at h
      exact h)
    have HN := Lib.hid hn
    have HNB := Lib.hid (show n ≤ 1000002 by rw [← hc]; have := count_le' s; have := HS.out; omega)
    clear hc hmm hn mm
    go_enter Tryz.func25, Tryz.ntmps25
    go_wp2_with fail
    refine HCC.out.mono ?_
    rintro e w1 ⟨rfl, hw1⟩
    have HX := Lib.hid (show w1.heap[w.heap.size]? = some (.cells ((pieces s).map Value.string).toArray 9 (0, 0)) by rw [hw1]; exact blk_new w _)
    have HB := Lib.hid (show Below w.heap.size w w1 by rw [hw1]; exact below_alloc _ (Below.refl _ _))
    obtain ⟨g, hg⟩ : ∃ z, z = w.heap.size := ⟨_, rfl⟩
    rw [← hg] at HX ⊢
    clear hw1 hg HCC
    go_wp2_with fail
    obtain ⟨wq, hwq⟩ : ∃ wq, wq = w1 := ⟨_, rfl⟩
    rw [← hwq] at HX HB ⊢
    clear hwq w1
    go_loopw [4, 14] (fun v i wr => ∃ (j : Nat) (l : List Opd), j ≤ n ∧ i = .int .i64 (j : Nat) ∧ l.length = j ∧ RowO wr w.heap.size v l ∧ (∀ (i : Nat) (p : ByteArray) (o : Opd), (pieces s)[i]? = some p → l[i]? = some o → OneR p.data.toList o true) ∧ wr.heap[g]? = some (.cells ((pieces s).map Value.string).toArray 9 (0, 0)) ∧ Below w.heap.size w wr) (fun _ i _ => n - (intOf i).toNat)
    case atStart => exact ⟨0, [], by omega, rfl, rfl, World.ownsRow_nil _ _ _ _, (fun i p o _ h => by simp at h), HX.out, HB.out⟩
    case round =>
      rename World => wr
      obtain ⟨j, l, hj, rfl, hl, hrow, hon, hx, hb⟩ := hrel
      have HROW := Lib.hid hrow
      have HON := Lib.hid hon
      have HL := Lib.hid hl
      have HXr := Lib.hid hx
      have HBr := Lib.hid hb
      clear hrow hon hl hx hb HX HB
      by_cases hlt : j < n
      · obtain ⟨p, hp⟩ : ∃ p, (pieces s)[j]? = some p := ⟨_, List.getElem?_eq_getElem (by have := HN.out; omega)⟩
        have HP := Lib.hid hp
        have HLT := Lib.hid hlt
        have hnb := HNB.out
        have c0 : wr.cell? ⟨g, j, none⟩ = some (.string p) := blk_cell HXr.out (by simp [hp])
        have cl := blk_lt HXr.out
        clear hp
        go_wp2_with fail
        refine (one_any wr (HR.out.later HBr.out) (HG.out.below HBr.out) p (Nat.le_trans (pieces_le (List.mem_of_getElem? HP.out)) HS.out)).mono ?_
        rintro e w2 ⟨⟨ok, orr, os, on, onm⟩, b, he, ho, hb2⟩
        have he2 : e = .returned (.tuple #[.agg #[.int .i64 ok, .int .i64 orr, .int .i64 os, .int .i64 on, .string ⟨⟨onm⟩⟩], .bool b]) := he
        subst he2
        have HO := Lib.hid ho
        have HX2 := Lib.hid (blk_below HXr.out hb2)
        have HB2 := Lib.hid (HBr.out.trans (hb2.mono HBr.out.size))
        have HR2 := Lib.hid (own_below HROW.out hb2)
        clear he ho hb2 c0 cl
        cases b with
        | false =>
          go_wp2_with fail
          go_returns
          refine ⟨_, [], false, rfl, Or.inr (Or.inr ⟨H0.out, rfl, p, _, List.mem_of_getElem? HP.out, HO.out⟩), (fun h => by cases h), ?_, none, 0, 0, rfl⟩
          have h9 := below_alloc (.cells #[.int .i64 ok, .int .i64 orr, .int .i64 os, .int .i64 on, .string ⟨⟨onm⟩⟩] 90) (Below.refl w2.heap.size w2)
          exact HB2.out.trans (h9.mono HB2.out.size)
        | true =>
          have h9 := below_alloc (.cells #[.int .i64 ok, .int .i64 orr, .int .i64 os, .int .i64 on, .string ⟨⟨onm⟩⟩] 90) (Below.refl w2.heap.size w2)
          have HX3 := Lib.hid (blk_below HX2.out h9)
          have HZ3 := Lib.hid (blk_new w2 (.cells #[.int .i64 ok, .int .i64 orr, .int .i64 os, .int .i64 on, .string ⟨⟨onm⟩⟩] 90))
          have HB3 := Lib.hid (HB2.out.trans (h9.mono HB2.out.size))
          have HR3 := Lib.hid (own_below HR2.out h9)
          clear h9
          go_upto_region 10 with (fail)
          obtain ⟨w3, hw3⟩ : ∃ z, z = w2.alloc (.cells #[.int .i64 ok, .int .i64 orr, .int .i64 os, .int .i64 on, .string ⟨⟨onm⟩⟩] 90) := ⟨_, rfl⟩
          obtain ⟨g3, hg3⟩ : ∃ z, z = w2.heap.size := ⟨_, rfl⟩
          rw [← hw3] at HX3 HZ3 HB3 HR3 ⊢
          rw [← hg3] at HZ3 ⊢
          clear hw3 hg3
          obtain ⟨z0, z1, z2, z3, z4⟩ := c5q HZ3.out
          have zl := blk_lt HZ3.out
          obtain ⟨Av, cv, hv⟩ := RowO.slice HR3.out
          obtain ⟨nv, hnv⟩ : ∃ z, z = l.length := ⟨_, rfl⟩
          rw [← hnv] at hv
          clear hnv
          subst hv
          obtain ⟨v2, w4, hr, hri, hb4, hk4⟩ := RowO.push HR3.out HB3.out.size ⟨ok, orr, os, on, onm⟩ w3.heap.size rfl (by have := HL.out; have := HNB.out; omega)
          have HRI := Lib.hid hri
          have HX4 := Lib.hid (hk4.cells HX3.out (by decide))
          have HB4 := Lib.hid (HB3.out.trans hb4)
          clear hri hb4 hk4
          go_wp2_with (at_builtin; refine wpList_append_ro _ rfl _ _ _ rfl _ _ _ _ rfl rfl hr ?_)
          go_roundw
          case rel =>
            have hlt2 := HLT.out
            refine ⟨j + 1, l ++ [⟨ok, orr, os, on, onm⟩], by omega, by go_num, by have := HL.out; simp; omega, HRI.out, fun i p' o' h1 h2 => ?_, HX4.out, HB4.out⟩
            by_cases hi : i < l.length
            · rw [List.getElem?_append_left hi] at h2
              exact HON.out i p' o' h1 h2
            · have e : i = j := by
                have h3 := (List.getElem?_eq_some_iff.1 h2).1
                have := HL.out
                simp at h3
                omega
              subst e
              rw [HP.out] at h1
              rw [List.getElem?_append_right (by have := HL.out; omega), HL.out, Nat.sub_self] at h2
              simp only [Option.some.injEq, List.getElem?_cons_zero] at h1 h2
              subst h1 h2
              exact HO.out
          case measure => have hlt2 := HLT.out; simp [intOf]; omega
      · have e : j = n := by omega
        subst e
        obtain ⟨Av, cv, hv⟩ := RowO.slice HROW.out
        go_wp2_with fail
        go_returns
        exact ⟨_, l, true, rfl, Or.inr (Or.inl ⟨H0.out, rfl, by rw [HL.out, HN.out], HON.out⟩), fun _ => HROW.out, HBr.out, Av, _, cv, hv⟩
end Go.Proofs.YtmmpkkpmlaiapaaGreatDoor
namespace Go.Proofs.YtmmpkkpmlaiapaaGreatDoor
open Go.RowKit
set_option linter.unusedVariables false
set_option maxHeartbeats 4000000
set_option maxRecDepth 100000
theorem flatO_at : ∀ (xs : List Opd) (i k : Nat) (x : Opd), xs[i]? = some x → k < 5 → (xs.map (fun o => (opdV o).toList)).flatten[i * 5 + k]? = (opdV x).toList[k]?
  | [], i, k, x, h, _ => by simp at h
  | y :: xs, 0, k, x, h, hk => by
    simp only [List.getElem?_cons_zero, Option.some.injEq] at h
    subst h
    rw [Nat.zero_mul, Nat.zero_add, List.map_cons, List.flatten_cons, List.getElem?_append_left (by show k < 5; exact hk)]
  | y :: xs, i + 1, k, x, h, hk => by
    simp only [List.getElem?_cons_succ] at h
    have h2 := flatO_at xs i k x h hk
    rw [List.map_cons, List.flatten_cons, List.getElem?_append_right (by show 5 ≤ _; omega)]
    rw [show (i + 1) * 5 + k - (opdV y).toList.length = i * 5 + k by show (i + 1) * 5 + k - 5 = _; omega]
    exact h2
theorem RowO.cells {w : World} {B cap n i : Nat} {A : Option Addr} {xs : List Opd} {x : Opd} (h : RowO w B (.slice A n cap) xs) (hn : xs.length = n) (hx : xs[i]? = some x) : ∃ g, A = some ⟨g, 0, none⟩ ∧ ∀ k, k < 5 → w.cell? ⟨g, i * 5 + k, none⟩ = (opdV x).toList[k]? := by
  subst hn
  have hlt := (List.getElem?_eq_some_iff.1 hx).1
  obtain ⟨g, c, e, h1, h2, h3, h4⟩ := own_form h (by omega)
  simp only [Value.slice.injEq] at e
  obtain ⟨rfl, _, rfl⟩ := e
  refine ⟨g, rfl, fun k hk => ?_⟩
  rw [World.ownsRow.cellAt h (i * 5 + k) (by omega)]
  exact flatO_at xs i k x hx hk
def kindsB (l : List Opd) (ws : List Int) : Bool := decide (l.map (·.kind) = ws)
theorem kinds_any (w : World) (B : Nat) (v : Value) (l : List Opd) (hl : RowO w B v l) (hlen : l.length ≤ 100000000) (ws : List Int) (hws : ws.length ≤ 8) (gw m : Nat) (cs : Array Value) (hm : m = ws.length) (hc : cs = (ws.map (Value.int .i64)).toArray) (hg : w.heap[gw]? = some (.cells cs 3 (0, 0))) :
    Calls Tryz.prog 43 #[v, .slice (some ⟨gw, 0, none⟩) m m] w fun e w' => e = .returned (.bool (kindsB l ws)) ∧ Below w.heap.size w w' := by
  obtain ⟨A, cap, rfl⟩ := hl.slice
  obtain ⟨n, hn⟩ : ∃ n, n = l.length := ⟨_, rfl⟩
  rw [← hn] at hl ⊢
  have HROW := Lib.hid hl
  have HN := Lib.hid hn
  have HW := Lib.hid hg
  have HM := Lib.hid hm
  have HC := Lib.hid hc
  have hnb : n ≤ 100000000 := by omega
  have hmb : m ≤ 8 := by omega
  clear hl hn hg hm hc hlen hws
  by_cases hnm : n = m
  · subst hnm
    have dn : ((n : Int) != (n : Int)) = false := by simp
    go_enter Tryz.func43, Tryz.ntmps43
    go_wp2_with fail
    go_loopw [14] (fun i wr => ∃ (j : Nat), j ≤ n ∧ i = .int .i64 (j : Nat) ∧ (∀ (i : Nat) (o : Opd), i < j → l[i]? = some o → ws[i]? = some o.kind) ∧ Below w.heap.size w wr) (fun i _ => n - (intOf i).toNat)
    case atStart => exact ⟨0, by omega, rfl, (fun i o h => by omega), by first | exact Below.refl _ _ | exact Below.drew (Below.refl _ _)⟩
    case round =>
      rename World => wr
      obtain ⟨j, hj, rfl, hk, hb⟩ := hrel
      have HK := Lib.hid hk
      have HB := Lib.hid hb
      clear hk hb
      by_cases hlt : j < n
      · have HLT := Lib.hid hlt
        obtain ⟨o, ho⟩ : ∃ o, l[j]? = some o := ⟨_, List.getElem?_eq_getElem (by have := HN.out; omega)⟩
        obtain ⟨wj, hwj⟩ : ∃ x, ws[j]? = some x := ⟨_, List.getElem?_eq_getElem (by have := HM.out; omega)⟩
        have HO := Lib.hid ho
        have HWJ := Lib.hid hwj
        obtain ⟨gl, rfl, hcell⟩ := HROW.out.cells HN.out.symm ho
        have r0 := laterR (hcell 0 (by decide)) HB.out
        have r1 := laterR (hcell 1 (by decide)) HB.out
        have r2 := laterR (hcell 2 (by decide)) HB.out
        have r3 := laterR (hcell 3 (by decide)) HB.out
        have r4 := laterR (hcell 4 (by decide)) HB.out
        rw [Nat.add_zero] at r0
        have rl := World.block_lt_of_cell? _ _ r0
        clear hcell ho hwj
        have HX := Lib.hid (blk_new wr (.cells (opdV o) 90))
        have HBa := Lib.hid (below_alloc (.cells (opdV o) 90) (Below.refl wr.heap.size wr))
        go_upto_region 6 with (fail)
        obtain ⟨wd, hwd⟩ : ∃ z, z = wr.alloc (.cells (opdV o) 90) := ⟨_, rfl⟩
        change Code.wp _ _ _ _ (wr.alloc (.cells (opdV o) 90))
        obtain ⟨gq, hgq⟩ : ∃ z, z = wr.heap.size := ⟨_, rfl⟩
        rw [← hwd] at HX HBa ⊢
        rw [← hgq] at HX ⊢
        have HBd := Lib.hid (HB.out.trans (HBa.out.mono HB.out.size))
        clear hwd hgq r0 r1 r2 r3 r4 rl HBa
        have q0 : wd.cell? ⟨gq, 0, none⟩ = some (.int .i64 o.kind) := blk_cell HX.out rfl
        have ql := blk_lt HX.out
        have c0 : wd.cell? ⟨gw, j, none⟩ = some (.int .i64 wj) := laterR (blk_cell HW.out (by rw [HC.out]; simp [HWJ.out])) HBd.out
        have cl := World.block_lt_of_cell? _ _ c0
        refine upto_begin 6 (fun w' => w'.cell? ⟨gq, 0, none⟩ = some (.int .i64 o.kind) ∧ w'.cell? ⟨gw, j, none⟩ = some (.int .i64 wj)) (by kernel_rfl) ?_ (fun hU0 => ?_)
        · exact ⟨q0, c0⟩
        refine ur 0 (v := ?_) hU0 rfl (by kernel_rfl) (fun _ _ _ h => h) rfl ?_ ?_
        rotate_left
        focus intro w _; go_simp; first | done | with_reducible rfl
        try simp only [Act.put, List.setIfInBounds_toArray, List.set_cons_zero, List.set_cons_succ]
        refine urd 1 (v := ?_) hU0 rfl (by kernel_rfl) (fun _ _ _ h => h) rfl ?_ ?_
        rotate_left
        focus intro w hSw; (try dsimp only at hSw); go_simp; first | done | with_reducible rfl
        try simp only [Act.put, List.setIfInBounds_toArray, List.set_cons_zero, List.set_cons_succ]
        refine ur 2 (v := ?_) hU0 rfl (by kernel_rfl) (fun _ _ _ h => h) rfl ?_ ?_
        rotate_left
        focus intro w _; go_simp; first | done | with_reducible rfl
        try simp only [Act.put, List.setIfInBounds_toArray, List.set_cons_zero, List.set_cons_succ]
        refine ur 3 (v := ?_) hU0 rfl (by kernel_rfl) (fun _ _ _ h => h) rfl ?_ ?_
        rotate_left
        focus intro w _; go_simp; first | done | with_reducible rfl
        try simp only [Act.put, List.setIfInBounds_toArray, List.set_cons_zero, List.set_cons_succ]
        refine ur 4 (v := ?_) hU0 rfl (by kernel_rfl) (fun _ _ _ h => h) rfl ?_ ?_
        rotate_left
        focus intro w _; go_simp; first | done | with_reducible rfl
        try simp only [Act.put, List.setIfInBounds_toArray, List.set_cons_zero, List.set_cons_succ]
        refine urd 5 (v := ?_) hU0 rfl (by kernel_rfl) (fun _ _ _ h => h) rfl ?_ ?_
        rotate_left
        focus intro w hSw; (try dsimp only at hSw); go_simp; first | done | with_reducible rfl
        try simp only [Act.put, List.setIfInBounds_toArray, List.set_cons_zero, List.set_cons_succ]
        refine upto_next 6 rfl (by kernel_rfl) (fun K hK => ?_)
        go_simp
        first | refine hK.out _ _ ?_ fun hU1 => ?_ | (go_wp2_with fail; refine hK.out _ _ ?_ fun hU1 => ?_)
        · exact Or.inl (by kernel_rfl)
        clear hK K
        clear hU0
        try simp only [Act.put, List.setIfInBounds_toArray, List.set_cons_zero, List.set_cons_succ]
        refine upto_done (by kernel_rfl) ?_ _
        by_cases hkk : o.kind = wj
        · have dk : (o.kind != wj) = false := by simpa using hkk
          have HKK := Lib.hid hkk
          clear hkk
          go_wp2_with fail
          go_roundw
          case rel =>
            have hlt2 := HLT.out
            refine ⟨j + 1, by omega, by go_num, fun i o' hi ho' => ?_, by first | exact HBd.out | exact Below.drew HBd.out⟩
            by_cases hij : i < j
            · exact HK.out i o' hij ho'
            · have e : i = j := by omega
              subst e
              rw [HO.out] at ho'
              cases ho'
              rw [HWJ.out, HKK.out]
          case measure => have hlt2 := HLT.out; simp [intOf]; omega
        · have dk : (o.kind != wj) = true := by simpa using hkk
          have HKB := Lib.hid (show kindsB l ws = false by
            unfold kindsB
            refine decide_eq_false (fun h => hkk ?_)
            have h1 : (l.map (·.kind))[j]? = some o.kind := by rw [List.getElem?_map, HO.out]; rfl
            rw [h, HWJ.out] at h1
            exact (Option.some.inj h1).symm)
          clear hkk
          go_wp2_with fail
          go_returns
          exact ⟨by rw [HKB.out]; rfl, by first | exact HBd.out | exact Below.drew HBd.out⟩
      · have e : j = n := by omega
        subst e
        have HKB := Lib.hid (show kindsB l ws = true by
          unfold kindsB
          refine decide_eq_true (List.ext_getElem? fun i => ?_)
          by_cases hi : i < l.length
          · obtain ⟨o, ho⟩ : ∃ o, l[i]? = some o := ⟨_, List.getElem?_eq_getElem hi⟩
            rw [List.getElem?_map, ho, HK.out i o (by have := HN.out; omega) ho]
            rfl
          · rw [List.getElem?_eq_none (by simp; omega), List.getElem?_eq_none (by have := HN.out; have := HM.out; omega)])
        go_wp2_with fail
        go_returns
        exact ⟨by rw [HKB.out]; rfl, HB.out⟩
  · have dn : ((n : Int) != (m : Int)) = true := by simp; omega
    have HKB := Lib.hid (show kindsB l ws = false by
      unfold kindsB
      refine decide_eq_false (fun h => hnm ?_)
      have := congrArg List.length h
      simp at this
      have := HN.out
      have := HM.out
      omega)
    clear hnm
    go_enter Tryz.func43, Tryz.ntmps43
    go_wp2_with fail
    go_returns
    exact ⟨by rw [HKB.out]; rfl, by first | exact Below.refl _ _ | exact Below.drew (Below.refl _ _)⟩
end Go.Proofs.YtmmpkkpmlaiapaaGreatDoor
namespace Go.Proofs.YtmmpkkpmlaiapaaGreatDoor
open Go.RowKit
set_option linter.unusedVariables false
set_option maxHeartbeats 4000000
set_option maxRecDepth 100000
def insZ : XInsD := { op := 0, dst := 0, src := 0, imm := 0, size := 0, signed := false, cond := 0, to_ := ⟨⟨[]⟩⟩ }
def BldO (f : Option XInsD) (w : World) (e : Ending) (w' : World) : Prop := ∃ x b, e = .returned (.tuple #[.agg (insV x).toArray, .bool b]) ∧ (∀ y, f = some y → x = y ∧ b = true) ∧ (f = none → b = false) ∧ Below w.heap.size w w'
def jump1 (c : Bool) (o : Opd) : Option XInsD := if o.kind = 5 then some { insZ with op := if c then 35 else 33, to_ := ⟨⟨o.name⟩⟩ } else if o.kind = 6 then some { insZ with op := if c then 36 else 37, dst := o.reg } else none
def jumpF (c : Bool) : List Opd → Option XInsD
  | [o] => jump1 c o
  | _ => none
theorem kinds_one {l : List Opd} {k : Int} (h : kindsB l [k] = true) : ∃ o, l = [o] ∧ o.kind = k := by
  unfold kindsB at h
  have h := of_decide_eq_true h
  match l, h with
  | [o], h => exact ⟨o, rfl, by simpa using h⟩
theorem jump_none {c : Bool} {l : List Opd} (h5 : kindsB l [5] = false) (h6 : kindsB l [6] = false) : jumpF c l = none := by
  match l, h5, h6 with
  | [], _, _ => rfl
  | [o], h5, h6 =>
    have a5 : ¬ o.kind = 5 := fun h => by have := of_decide_eq_false h5; simp [h] at this
    have a6 : ¬ o.kind = 6 := fun h => by have := of_decide_eq_false h6; simp [h] at this
    show jump1 c o = none
    unfold jump1
    rw [if_neg a5, if_neg a6]
  | o :: p :: r, _, _ => rfl
def callB : ByteArray := ⟨#[99, 97, 108, 108]⟩
theorem jump_any (w : World) (name : ByteArray) (B : Nat) (v : Value) (l : List Opd) (hl : RowO w B v l) (hlen : l.length ≤ 100000000) :
    Calls Tryz.prog 44 #[.string name, v] w (BldO (jumpF (decide (name = callB)) l) w) := by
  have HROW := Lib.hid hl
  have HLEN := Lib.hid hlen
  clear hl hlen
  obtain ⟨Av, cv, hv⟩ := HROW.out.slice
  obtain ⟨nv, hnv⟩ : ∃ z, z = l.length := ⟨_, rfl⟩
  have HNV := Lib.hid hnv
  rw [← hnv] at hv
  clear hnv
  have HX0 := Lib.hid (blk_new w (.cells #[.int .i64 0, .int .i64 0, .int .i64 0, .int .i64 0, .int .i64 0, .bool false, .int .i64 0, .string ⟨#[]⟩] 23))
  have HB0 := Lib.hid (below_alloc (.cells #[.int .i64 0, .int .i64 0, .int .i64 0, .int .i64 0, .int .i64 0, .bool false, .int .i64 0, .string ⟨#[]⟩] 23) (Below.refl w.heap.size w))
  obtain ⟨c, hc⟩ : ∃ c, c = decide (name = callB) := ⟨_, rfl⟩
  rw [← hc]
  have HC := Lib.hid hc
  clear hc
  subst hv
  go_enter Tryz.func44, Tryz.ntmps44
  go_upto_region 2 with (fail)
  obtain ⟨w1, hw1⟩ : ∃ z, z = w.alloc (.cells #[.int .i64 0, .int .i64 0, .int .i64 0, .int .i64 0, .int .i64 0, .bool false, .int .i64 0, .string ⟨#[]⟩] 23) := ⟨_, rfl⟩
  obtain ⟨g, hg⟩ : ∃ z, z = w.heap.size := ⟨_, rfl⟩
  have HGE := Lib.hid (show w.heap.size ≤ g by rw [hg]; exact Nat.le_refl _)
  rw [← hw1] at HX0 HB0 ⊢
  rw [← hg] at HX0 ⊢
  clear hw1 hg
  by_cases hnm : name = callB
  · have hcc : c = true := by rw [HC.out]; exact decide_eq_true hnm
    subst hnm hcc
    unfold callB
    go_upto_region 4 with (fail)
    have hb1 := below_alloc (.cells #[.int .i64 5] 3) (Below.refl w1.heap.size w1)
    have HBa := Lib.hid (HB0.out.trans (hb1.mono HB0.out.size))
    have HXa := Lib.hid (blk_below HX0.out hb1)
    clear hb1
    go_wp2_with fail
    refine (kinds_any _ B (.slice Av nv cv) l (own_below HROW.out HBa.out) HLEN.out [5] (by decide) w1.heap.size 1 #[.int .i64 5] rfl rfl (blk_new w1 _)).mono ?_
    rintro e w2 ⟨rfl, hb2⟩
    have HB2 := Lib.hid (HBa.out.trans (hb2.mono HBa.out.size))
    have HX2 := Lib.hid (blk_below HXa.out hb2)
    clear hb2
    cases hk : kindsB l [5] with
    | true =>
      obtain ⟨o, rfl, hok⟩ := kinds_one hk
      have HOK := Lib.hid hok
      clear hok hk
      obtain rfl : nv = 1 := HNV.out
      obtain ⟨gl, rfl, hcell⟩ := RowO.cells (own_below HROW.out HB2.out) rfl (i := 0) rfl
      have r4 : w2.cell? ⟨gl, 4, none⟩ = some (.string ⟨⟨o.name⟩⟩) := hcell 4 (by decide)
      have rl := World.block_lt_of_cell? _ _ r4
      clear hcell
      go_wp2_with (refine wsx g rfl rfl rfl rfl HX2 (by kernel_rfl) ?_; intro x7 k7 hb7 hz7 ho7; obtain ⟨q0, q1, q2, q3, q4, q5, q6, q7⟩ := cq k7)
      refine bodyPost_ret (by simp [results, Tryz.results44, go_sem, q0, q1, q2, q3, q4, q5, q6, q7]; try rfl) rfl ?_
      have hf : jumpF true [o] = some { insZ with op := 35, to_ := ⟨⟨o.name⟩⟩ } := by show jump1 _ o = _; unfold jump1; rw [if_pos HOK.out]; rfl
      exact ⟨_, true, rfl, (fun y hy => by rw [hf] at hy; cases hy; exact ⟨rfl, rfl⟩), (fun h => by rw [hf] at h; cases h), hb7 _ _ HGE.out HB2.out⟩
    | false =>
      have HK5 := Lib.hid hk
      clear hk
      have hb1 := below_alloc (.cells #[.int .i64 6] 3) (Below.refl w2.heap.size w2)
      have HBa := Lib.hid (HB2.out.trans (hb1.mono HB2.out.size))
      have HXa := Lib.hid (blk_below HX2.out hb1)
      clear hb1
      go_wp2_with fail
      refine (kinds_any _ B (.slice Av nv cv) l (own_below HROW.out HBa.out) HLEN.out [6] (by decide) w2.heap.size 1 #[.int .i64 6] rfl rfl (blk_new w2 _)).mono ?_
      rintro e w3 ⟨rfl, hb2⟩
      have HB3 := Lib.hid (HBa.out.trans (hb2.mono HBa.out.size))
      have HX3 := Lib.hid (blk_below HXa.out hb2)
      clear hb2
      cases hk : kindsB l [6] with
      | true =>
        obtain ⟨o, rfl, hok⟩ := kinds_one hk
        have HOK := Lib.hid hok
        clear hok hk
        obtain rfl : nv = 1 := HNV.out
        obtain ⟨gl, rfl, hcell⟩ := RowO.cells (own_below HROW.out HB3.out) rfl (i := 0) rfl
        have r1 : w3.cell? ⟨gl, 1, none⟩ = some (.int .i64 o.reg) := hcell 1 (by decide)
        have rl := World.block_lt_of_cell? _ _ r1
        clear hcell
        go_wp2_with (refine wsx g rfl rfl rfl rfl HX3 (by kernel_rfl) ?_; intro x7 k7 hb7 hz7 ho7; obtain ⟨q0, q1, q2, q3, q4, q5, q6, q7⟩ := cq k7)
        refine bodyPost_ret (by simp [results, Tryz.results44, go_sem, q0, q1, q2, q3, q4, q5, q6, q7]; try rfl) rfl ?_
        have hf : jumpF true [o] = some { insZ with op := 36, dst := o.reg } := by show jump1 _ o = _; unfold jump1; rw [if_neg (by rw [HOK.out]; decide), if_pos HOK.out]; rfl
        exact ⟨_, true, rfl, (fun y hy => by rw [hf] at hy; cases hy; exact ⟨rfl, rfl⟩), (fun h => by rw [hf] at h; cases h), hb7 _ _ HGE.out HB3.out⟩
      | false =>
        have HK6 := Lib.hid hk
        clear hk
        go_wp2_with (refine wsx g rfl rfl rfl rfl HX3 (by kernel_rfl) ?_; intro x7 k7 hb7 hz7 ho7; obtain ⟨q0, q1, q2, q3, q4, q5, q6, q7⟩ := cq k7)
        refine bodyPost_ret (by simp [results, Tryz.results44, go_sem, q0, q1, q2, q3, q4, q5, q6, q7]; try rfl) rfl ?_
        have hf : jumpF true l = none := jump_none HK5.out HK6.out
        exact ⟨insZ, false, rfl, (fun y hy => by rw [hf] at hy; cases hy), fun _ => rfl, hb7 _ _ HGE.out HB3.out⟩
  · have hcc : c = false := by rw [HC.out]; exact decide_eq_false hnm
    have dn : (name.toList == [99, 97, 108, 108]) = false := by
      rw [Lib.toList_data]
      refine beq_eq_false_iff_ne.2 (fun h => hnm ?_)
      apply ByteArray.ext
      apply Array.ext'
      exact h
    subst hcc
    clear hnm
    go_upto_region 4 with (fail)
    have hb1 := below_alloc (.cells #[.int .i64 5] 3) (Below.refl w1.heap.size w1)
    have HBa := Lib.hid (HB0.out.trans (hb1.mono HB0.out.size))
    have HXa := Lib.hid (blk_below HX0.out hb1)
    clear hb1
    go_wp2_with fail
    refine (kinds_any _ B (.slice Av nv cv) l (own_below HROW.out HBa.out) HLEN.out [5] (by decide) w1.heap.size 1 #[.int .i64 5] rfl rfl (blk_new w1 _)).mono ?_
    rintro e w2 ⟨rfl, hb2⟩
    have HB2 := Lib.hid (HBa.out.trans (hb2.mono HBa.out.size))
    have HX2 := Lib.hid (blk_below HXa.out hb2)
    clear hb2
    cases hk : kindsB l [5] with
    | true =>
      obtain ⟨o, rfl, hok⟩ := kinds_one hk
      have HOK := Lib.hid hok
      clear hok hk
      obtain rfl : nv = 1 := HNV.out
      obtain ⟨gl, rfl, hcell⟩ := RowO.cells (own_below HROW.out HB2.out) rfl (i := 0) rfl
      have r4 : w2.cell? ⟨gl, 4, none⟩ = some (.string ⟨⟨o.name⟩⟩) := hcell 4 (by decide)
      have rl := World.block_lt_of_cell? _ _ r4
      clear hcell
      go_wp2_with (refine wsx g rfl rfl rfl rfl HX2 (by kernel_rfl) ?_; intro x7 k7 hb7 hz7 ho7; obtain ⟨q0, q1, q2, q3, q4, q5, q6, q7⟩ := cq k7)
      refine bodyPost_ret (by simp [results, Tryz.results44, go_sem, q0, q1, q2, q3, q4, q5, q6, q7]; try rfl) rfl ?_
      have hf : jumpF false [o] = some { insZ with op := 33, to_ := ⟨⟨o.name⟩⟩ } := by show jump1 _ o = _; unfold jump1; rw [if_pos HOK.out]; rfl
      exact ⟨_, true, rfl, (fun y hy => by rw [hf] at hy; cases hy; exact ⟨rfl, rfl⟩), (fun h => by rw [hf] at h; cases h), hb7 _ _ HGE.out HB2.out⟩
    | false =>
      have HK5 := Lib.hid hk
      clear hk
      have hb1 := below_alloc (.cells #[.int .i64 6] 3) (Below.refl w2.heap.size w2)
      have HBa := Lib.hid (HB2.out.trans (hb1.mono HB2.out.size))
      have HXa := Lib.hid (blk_below HX2.out hb1)
      clear hb1
      go_wp2_with fail
      refine (kinds_any _ B (.slice Av nv cv) l (own_below HROW.out HBa.out) HLEN.out [6] (by decide) w2.heap.size 1 #[.int .i64 6] rfl rfl (blk_new w2 _)).mono ?_
      rintro e w3 ⟨rfl, hb2⟩
      have HB3 := Lib.hid (HBa.out.trans (hb2.mono HBa.out.size))
      have HX3 := Lib.hid (blk_below HXa.out hb2)
      clear hb2
      cases hk : kindsB l [6] with
      | true =>
        obtain ⟨o, rfl, hok⟩ := kinds_one hk
        have HOK := Lib.hid hok
        clear hok hk
        obtain rfl : nv = 1 := HNV.out
        obtain ⟨gl, rfl, hcell⟩ := RowO.cells (own_below HROW.out HB3.out) rfl (i := 0) rfl
        have r1 : w3.cell? ⟨gl, 1, none⟩ = some (.int .i64 o.reg) := hcell 1 (by decide)
        have rl := World.block_lt_of_cell? _ _ r1
        clear hcell
        go_wp2_with (refine wsx g rfl rfl rfl rfl HX3 (by kernel_rfl) ?_; intro x7 k7 hb7 hz7 ho7; obtain ⟨q0, q1, q2, q3, q4, q5, q6, q7⟩ := cq k7)
        refine bodyPost_ret (by simp [results, Tryz.results44, go_sem, q0, q1, q2, q3, q4, q5, q6, q7]; try rfl) rfl ?_
        have hf : jumpF false [o] = some { insZ with op := 37, dst := o.reg } := by show jump1 _ o = _; unfold jump1; rw [if_neg (by rw [HOK.out]; decide), if_pos HOK.out]; rfl
        exact ⟨_, true, rfl, (fun y hy => by rw [hf] at hy; cases hy; exact ⟨rfl, rfl⟩), (fun h => by rw [hf] at h; cases h), hb7 _ _ HGE.out HB3.out⟩
      | false =>
        have HK6 := Lib.hid hk
        clear hk
        go_wp2_with (refine wsx g rfl rfl rfl rfl HX3 (by kernel_rfl) ?_; intro x7 k7 hb7 hz7 ho7; obtain ⟨q0, q1, q2, q3, q4, q5, q6, q7⟩ := cq k7)
        refine bodyPost_ret (by simp [results, Tryz.results44, go_sem, q0, q1, q2, q3, q4, q5, q6, q7]; try rfl) rfl ?_
        have hf : jumpF false l = none := jump_none HK5.out HK6.out
        exact ⟨insZ, false, rfl, (fun y hy => by rw [hf] at hy; cases hy), fun _ => rfl, hb7 _ _ HGE.out HB3.out⟩
end Go.Proofs.YtmmpkkpmlaiapaaGreatDoor
namespace Go.Proofs.YtmmpkkpmlaiapaaGreatDoor
open Go.RowKit
set_option linter.unusedVariables false
def byteLs (l : List Int) : List UInt8 := Lib.join (l.map Lib.itoa) [44]
def datL (d : XDatumD) : List UInt8 :=
  if d.kind = 0 then d.name.data.toList ++ [58]
  else if d.kind = 1 then [9, 46, 98, 121, 116, 101, 32] ++ byteLs d.data
  else if d.kind = 2 then [9, 46, 113, 117, 97, 100, 32] ++ d.name.data.toList
  else if d.kind = 3 then [9, 46, 112, 117, 98, 108, 105, 99, 32] ++ Lib.itoa d.n
  else if d.kind = 4 then [9, 46, 115, 101, 99, 114, 101, 116, 32] ++ Lib.itoa d.n
  else [9, 46, 122, 101, 114, 111, 32] ++ Lib.itoa d.n
def datT (l : List XDatumD) : List UInt8 := [9, 46, 100, 97, 116, 97, 10] ++ (l.map fun d => datL d ++ [10]).flatten
theorem datT_snoc (l : List XDatumD) (d : XDatumD) : datT (l ++ [d]) = datT l ++ (datL d ++ [10]) := by
  unfold datT
  rw [List.map_append, List.flatten_append, List.append_assoc]
  simp
theorem take_more {α : Type} {l : List α} {k : Nat} {x : α} (h : l[k]? = some x) : l.take (k + 1) = l.take k ++ [x] := by
  obtain ⟨hlt, e⟩ := List.getElem?_eq_some_iff.1 h
  rw [List.take_succ_eq_append_getElem hlt, e]
def Bytes255 (l : List Int) : Prop := ∀ (i : Nat) x, l[i]? = some x → 0 ≤ x ∧ x ≤ 255
theorem itoa_small {x : Int} (h : 0 ≤ x ∧ x ≤ 255) : (Lib.itoa x).length ≤ 20 := itoa_len ⟨by omega, by omega⟩
theorem join_len (sep : List UInt8) (C : Nat) : ∀ (l : List (List UInt8)), (∀ a ∈ l, a.length ≤ C) → (Lib.join l sep).length ≤ l.length * (C + sep.length)
  | [], _ => by simp [Lib.join, List.intercalate]
  | [a], h => by
    have := h a (by simp)
    simp [Lib.join, List.intercalate]; omega
  | a :: b :: l, h => by
    have ih := join_len sep C (b :: l) (fun x hx => h x (List.mem_cons_of_mem _ hx))
    have ha := h a (by simp)
    have c : Lib.join (a :: b :: l) sep = a ++ sep ++ Lib.join (b :: l) sep := by simp [Lib.join, List.intercalate]
    rw [c]
    simp only [List.length_append, List.length_cons, Nat.add_mul, Nat.one_mul] at ih ⊢
    omega
theorem byteLs_len (l : List Int) (h : Bytes255 l) : (byteLs l).length ≤ l.length * 21 := by
  unfold byteLs
  have := join_len [44] 20 (l.map Lib.itoa) (fun a ha => by
    obtain ⟨x, hx, rfl⟩ := List.mem_map.1 ha
    obtain ⟨i, hi⟩ := List.mem_iff_getElem?.1 hx
    exact itoa_small (h i x hi))
  simpa using this
theorem Bytes255.take {l : List Int} (h : Bytes255 l) (k : Nat) : Bytes255 (l.take k) := fun i x hx => by
  rw [List.getElem?_take] at hx
  split at hx
  · exact h i x hx
  · cases hx
theorem datL_len (d : XDatumD) (hn : In64 d.n) (hs : d.name.size ≤ 100) (hd : Bytes255 d.data) : (datL d).length ≤ 120 + d.data.length * 21 := by
  have h1 := itoa_len hn
  have h2 := byteLs_len d.data hd
  have h3 : d.name.data.toList.length ≤ 100 := hs
  unfold datL
  repeat' split
  all_goals simp only [List.length_append, List.length_cons, List.length_nil]
  all_goals omega
def sumD (l : List XDatumD) : Nat := (l.map (·.data.length)).sum
theorem sumD_snoc (l : List XDatumD) (d : XDatumD) : sumD (l ++ [d]) = sumD l + d.data.length := by simp [sumD]
theorem sumD_take (l : List XDatumD) : ∀ k, sumD (l.take k) ≤ sumD l := by
  intro k
  have : sumD l = sumD (l.take k) + sumD (l.drop k) := by
    unfold sumD
    rw [← List.sum_append, ← List.map_append, List.take_append_drop]
  omega
structure DatOk (l : List XDatumD) : Prop where
  each : ∀ (i : Nat) d, l[i]? = some d → In64 d.n ∧ d.name.size ≤ 100 ∧ Bytes255 d.data
  len : l.length ≤ 20000
  sum : sumD l ≤ 20000
theorem datT_len (l : List XDatumD) (h : DatOk l) : ∀ k, k ≤ l.length → (datT (l.take k)).length ≤ 7 + k * 121 + sumD (l.take k) * 21
  | 0, _ => by simp [datT]
  | k + 1, hk => by
    have ih := datT_len l h k (by omega)
    obtain ⟨d, hd⟩ : ∃ d, l[k]? = some d := ⟨_, List.getElem?_eq_getElem (by omega)⟩
    obtain ⟨h1, h2, h3⟩ := h.each k d hd
    have h4 := datL_len d h1 h2 h3
    rw [take_more hd, datT_snoc, sumD_snoc]
    simp only [List.length_append, List.length_cons, List.length_nil, Nat.add_mul, Nat.one_mul]
    omega
theorem datT_small (l : List XDatumD) (h : DatOk l) (k : Nat) (hk : k ≤ l.length) : (datT (l.take k)).length ≤ 3000000 := by
  have h1 := datT_len l h k hk
  have h2 := sumD_take l k
  have h3 := h.sum
  have h4 := h.len
  omega
theorem DatOk.dat {l : List XDatumD} (h : DatOk l) {k : Nat} {d : XDatumD} (hd : l[k]? = some d) : d.data.length ≤ 20000 := by
  have h1 := sumD_take l (k + 1)
  rw [take_more hd, sumD_snoc] at h1
  have := h.sum
  omega
end Go.Proofs.YtmmpkkpmlaiapaaGreatDoor
namespace Go.Proofs.YtmmpkkpmlaiapaaGreatDoor
open Go.RowKit
set_option linter.unusedVariables false
set_option maxHeartbeats 2000000
theorem itoa_any (w : World) (hP : PowOk w) (n : Int) (h : In64 n) : Calls Tryz.prog 65 #[.int .i64 n] w fun e w' => e = .returned (.string (numB n)) ∧ Below w.heap.size w w' :=
  (Tryz.strconv_Itoa n h.1 h.2 w hP.1).mono (fun e w' ⟨h1, k, os, h2⟩ => ⟨h1, by rw [h2]; exact Lib.below_grow _ w (Nat.le_refl _) k os⟩)
theorem Tryz.infoStr : (Tryz.prog.info? 9).map (fun i => (i.zero, i.size, i.bytes)) = some (some (.string ⟨#[]⟩), 1, 16) := by kernel_rfl
def sv (l : List Int) : List Value := l.map fun x => Value.string (numB x)
theorem join_any (w : World) (B : Nat) (v : Value) (l : List Int) (hb : Bytes255 l) (hl : l.length ≤ 20000) (h : w.ownsRow B 9 1 v l.length (sv l)) :
    Calls Tryz.prog 66 #[v, .string ⟨#[44]⟩] w fun e w' => e = .returned (.string ⟨⟨byteLs l⟩⟩) ∧ Below w.heap.size w w' := by
  have hlen := byteLs_len l hb
  rcases h.2 with ⟨rfl, e⟩ | ⟨g, cap, cur, rfl, h1, h2, h3, h4, h5⟩
  · obtain rfl : l = [] := List.length_eq_zero_iff.1 e
    refine (Tryz.strings_Join_none none 0 ⟨#[44]⟩ w).mono ?_
    rintro e w' ⟨rfl, rfl⟩
    exact ⟨rfl, Below.refl _ _⟩
  · have hm : (l.map numB).map (·.data.toList) = l.map Lib.itoa := by rw [List.map_map]; rfl
    have H := Tryz.strings_Join g 0 cap (l.map numB) ⟨#[44]⟩ w (fun j x hx => by
      have hj : j < l.length := by have := (List.getElem?_eq_some_iff.1 hx).1; simpa using this
      have e := World.ownsRow.cellAt h j (by omega)
      rw [Nat.zero_add, e]
      unfold sv
      rw [List.getElem?_map] at hx ⊢
      cases hq : l[j]? with
      | none => rw [hq] at hx; cases hx
      | some y => rw [hq] at hx; simp at hx; simp [hx]) (blk_lt h2) (by simp; omega) (by simpa using h3) (by rw [hm]; show (byteLs l).length ≤ _; omega)
    rw [hm, List.length_map] at H
    exact H
theorem own_str {w : World} {B : Nat} {v : Value} {l : List Int} (h : w.ownsRow B 9 1 v l.length (sv l)) (x : Int) (hl : l.length ≤ 20000) (hB : B ≤ w.heap.size) :
    ∃ v' w', (Builtin.append_ #[43, 43] 43 #[v, .slice (some ⟨w.heap.size, 0, none⟩) 1 1]).run Tryz.prog (w.alloc (.cells #[.string (numB x)] 9)) = .ok v' w' ∧ w'.ownsRow B 9 1 v' (l ++ [x]).length (sv (l ++ [x])) ∧ w.grownBy w' v.ownBlock := by
  obtain ⟨i0, hi, hz0, hz1, hz2⟩ := info_parts Tryz.infoStr
  obtain ⟨v', w', r1, r2, r3, r4⟩ := append_one (P := Tryz.prog) (w := w) B 43 9 i0 _ 16 Tryz.underlying43 hi hz0 hz1 hz2 rfl v l.length (sv l) h (.string (numB x)) _ rfl rfl (by unfold maxLen; omega) (by omega) hB
  refine ⟨v', w', r1, ?_, r3⟩
  rw [List.length_append, show sv (l ++ [x]) = sv l ++ [.string (numB x)] by simp [sv]]
  exact r2
def datumV (d : XDatumD) (v : Value) : Value := .agg #[.int .i64 d.kind, .string d.name, v, .int .i64 d.n]
theorem datum_bytes (w : World) (hP : PowOk w) (d : XDatumD) (v : Value) (hk : d.kind = 1) (hs : SlR w 1 ByteR v d.data) (hl : d.data.length ≤ 20000) (hb : Bytes255 d.data) :
    Calls Tryz.prog 37 #[datumV d v] w fun e w' => e = .returned (.string ⟨⟨datL d⟩⟩) ∧ Below w.heap.size w w' := by
  obtain ⟨A, cap, rfl, k1, k2, k3⟩ := hs
  have HS := Lib.hid (show SlR w 1 ByteR (.slice A d.data.length cap) d.data from ⟨A, cap, rfl, k1, k2, k3⟩)
  have HD := Lib.hid (show datL d = [9, 46, 98, 121, 116, 101, 32] ++ byteLs d.data by unfold datL; rw [hk]; rfl)
  have HBy := Lib.hid hb
  have HP := Lib.hid hP
  unfold datumV
  obtain ⟨kind, name, data, n⟩ := d
  subst hk
  simp only at *
  clear k1 k2 k3 hb hP
  go_enter Tryz.func37, Tryz.ntmps37
  go_wp2_with fail
  have HB0 : Below w.heap.size w (w.alloc (.cells #[.int .i64 1, .string name, .slice A data.length cap, .int .i64 n] 67)) := below_alloc _ (Below.refl _ _)
  go_loopw [3, 18] (fun u i wr => ∃ k : Nat, k ≤ data.length ∧ i = .int .i64 k ∧ wr.ownsRow w.heap.size 9 1 u (data.take k).length (sv (data.take k)) ∧ Below w.heap.size w wr) (fun _ i _ => data.length - (intOf i).toNat)
  case atStart => exact ⟨0, by omega, rfl, World.ownsRow_nil _ _ _ _, HB0⟩
  case round =>
    obtain ⟨k, hk, rfl, ho, hb⟩ := hrel
    have HB := Lib.hid hb
    have HO := Lib.hid ho
    have hkl : (data.take k).length = k := by simp; omega
    obtain ⟨A2, c2, hu, _⟩ := own_slice ho
    rw [hkl] at hu
    subst hu
    have HKL := Lib.hid hkl
    clear hb ho hkl
    by_cases hlt : k < data.length
    · obtain ⟨x, hx⟩ : ∃ x, data[k]? = some x := ⟨_, List.getElem?_eq_getElem hlt⟩
      obtain ⟨A3, c3, e1, _, _, e4⟩ := HS.out.later (by decide) HB.out
      simp only [Value.slice.injEq] at e1
      obtain ⟨rfl, _, rfl⟩ := e1
      obtain ⟨b, o, cs, rfl, g2, g3, rfl, g4, g5⟩ := e4 k x hx
      have z0 : wr.cell? ⟨b, o + k, none⟩ = some (.int .u8 x) := by simpa using g3 0 (by decide)
      have HI := Lib.hid (itoa_any wr (HP.out.below HB.out) x ⟨by omega, by omega⟩)
      have HX := Lib.hid (take_more hx)
      have hlx := World.block_lt_of_cell? _ _ z0
      clear g3 e4 hx
      go_wp2_with fail
      refine HI.out.mono ?_
      rintro e w2 ⟨rfl, kb⟩
      obtain ⟨v', w', r1, r2, r3⟩ := own_str (own_below HO.out kb) x (by rw [HKL.out]; omega) (Nat.le_trans HB.out.size kb.size)
      have HR := Lib.hid r2
      have HB2 := Lib.hid (below_of_grown (HB.out.bt kb) (Nat.le_refl _) r3 (fun j hj => (HO.out.lt j hj).1))
      clear r2 r3 kb
      go_wp2_with (at_builtin; refine wpList_append_run _ rfl _ _ _ rfl _ _ _ _ rfl rfl r1 ?_)
      go_roundw
      case rel => exact ⟨k + 1, by omega, by go_num, by rw [HX.out]; exact HR.out, HB2.out⟩
      case measure => simp [intOf]; omega
    · have e : k = data.length := by omega
      subst e
      have HJ := Lib.hid (join_any wr w.heap.size (.slice A2 data.length c2) data HBy.out hl (by have := HO.out; rw [List.take_length] at this; exact this))
      have hsz : (⟨⟨byteLs data⟩⟩ : ByteArray).size ≤ 420000 := by have := byteLs_len data HBy.out; rw [size_mk]; omega
      go_wp2_with fail
      refine HJ.out.mono ?_
      rintro e w2 ⟨rfl, kb⟩
      obtain ⟨S, hS⟩ : ∃ S : ByteArray, S = ⟨⟨byteLs data⟩⟩ := ⟨_, rfl⟩
      rw [← hS] at hsz ⊢
      have HS2 := Lib.hid hS
      have HKB := Lib.hid (HB.out.bt kb)
      clear hS kb
      go_wp2_with fail
      go_returns
      exact ⟨by rw [HD.out, HS2.out]; exact congrArg (fun z => Ending.returned (Value.string z)) (app_eq [9, 46, 98, 121, 116, 101, 32] (byteLs data)), HKB.out⟩
theorem app_lit (a : ByteArray) (l : List UInt8) : (a ++ ⟨⟨l⟩⟩ : ByteArray) = ⟨⟨a.data.toList ++ l⟩⟩ := by obtain ⟨⟨x⟩⟩ := a; exact app_eq x l
theorem lit_app (l : List UInt8) (a : ByteArray) : (⟨⟨l⟩⟩ ++ a : ByteArray) = ⟨⟨l ++ a.data.toList⟩⟩ := by obtain ⟨⟨x⟩⟩ := a; exact app_eq l x
theorem datum_rest (w : World) (hP : PowOk w) (d : XDatumD) (v : Value) (hk : d.kind ≠ 1) (hv : ∃ A m c, v = .slice A m c) (hn : In64 d.n) (hs : d.name.size ≤ 100) :
    Calls Tryz.prog 37 #[datumV d v] w fun e w' => e = .returned (.string ⟨⟨datL d⟩⟩) ∧ Below w.heap.size w w' := by
  have HN := Lib.hid hn
  have HP := Lib.hid hP
  have hz := numB_size hn
  obtain ⟨A, m, cap, rfl⟩ := hv
  unfold datumV datL
  obtain ⟨kind, name, data, n⟩ := d
  simp only at *
  have HB0 : Below w.heap.size w (w.alloc (.cells #[.int .i64 kind, .string name, .slice A m cap, .int .i64 n] 67)) := below_alloc _ (Below.refl _ _)
  have HT := Lib.hid (fun W (h : Below w.heap.size w W) => itoa_any W (HP.out.below h) n HN.out)
  obtain ⟨S, hS⟩ : ∃ S : ByteArray, S = numB n := ⟨_, rfl⟩
  rw [← hS] at hz HT
  have hS2 : S = ⟨⟨Lib.itoa n⟩⟩ := hS
  have HS := Lib.hid hS2
  have HB := Lib.hid HB0
  clear hn hP HN HP hS hS2 HB0
  by_cases k0 : kind = 0
  · subst k0
    go_enter Tryz.func37, Tryz.ntmps37
    go_wp2_with fail
    go_returns
    exact ⟨congrArg (fun z => Ending.returned (Value.string z)) (app_lit name [58]), HB.out⟩
  by_cases k2 : kind = 2
  · subst k2
    go_enter Tryz.func37, Tryz.ntmps37
    go_wp2_with fail
    go_returns
    exact ⟨congrArg (fun z => Ending.returned (Value.string z)) (lit_app [9, 46, 113, 117, 97, 100, 32] name), HB.out⟩
  by_cases k3 : kind = 3
  · subst k3
    go_enter Tryz.func37, Tryz.ntmps37
    go_wp2_with fail
    refine (HT.out _ HB.out).mono ?_
    rintro e w2 ⟨rfl, kb⟩
    have HKB := Lib.hid (HB.out.bt kb)
    clear kb
    go_wp2_with fail
    go_returns
    exact ⟨by rw [HS.out]; exact congrArg (fun z => Ending.returned (Value.string z)) (app_eq [9, 46, 112, 117, 98, 108, 105, 99, 32] (Lib.itoa n)), HKB.out⟩
  by_cases k4 : kind = 4
  · subst k4
    go_enter Tryz.func37, Tryz.ntmps37
    go_wp2_with fail
    refine (HT.out _ HB.out).mono ?_
    rintro e w2 ⟨rfl, kb⟩
    have HKB := Lib.hid (HB.out.bt kb)
    clear kb
    go_wp2_with fail
    go_returns
    exact ⟨by rw [HS.out]; exact congrArg (fun z => Ending.returned (Value.string z)) (app_eq [9, 46, 115, 101, 99, 114, 101, 116, 32] (Lib.itoa n)), HKB.out⟩
  · rw [if_neg k0, if_neg hk, if_neg k2, if_neg k3, if_neg k4]
    go_enter Tryz.func37, Tryz.ntmps37
    go_wp2_with fail
    refine (HT.out _ HB.out).mono ?_
    rintro e w2 ⟨rfl, kb⟩
    have HKB := Lib.hid (HB.out.bt kb)
    clear kb
    go_wp2_with fail
    go_returns
    exact ⟨by rw [HS.out]; exact congrArg (fun z => Ending.returned (Value.string z)) (app_eq [9, 46, 122, 101, 114, 111, 32] (Lib.itoa n)), HKB.out⟩
theorem datum_any (w : World) (hP : PowOk w) (d : XDatumD) (v : Value) (hs : SlR w 1 ByteR v d.data) (hl : d.data.length ≤ 20000) (hn : In64 d.n) (hz : d.name.size ≤ 100) :
    Calls Tryz.prog 37 #[datumV d v] w fun e w' => e = .returned (.string ⟨⟨datL d⟩⟩) ∧ Below w.heap.size w w' := by
  by_cases hk : d.kind = 1
  · exact datum_bytes w hP d v hk hs hl (fun i x hx => by obtain ⟨A, cap, _, _, _, h⟩ := hs; obtain ⟨b, o, cs, _, _, _, h4⟩ := h i x hx; exact h4.2)
  · obtain ⟨A, cap, rfl, _⟩ := id hs
    exact datum_rest w hP d _ hk ⟨_, _, _, rfl⟩ hn hz
end Go.Proofs.YtmmpkkpmlaiapaaGreatDoor
