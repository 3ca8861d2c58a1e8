/- Arguments of any shape: what stands where they read, part by part. Over any program. Arguments of any shape, with the row's own reach: what stands where they read, part by part. Over any program. What structs that came in read as. What an append leaves of blocks of other types; an instruction's cells. No condition. -/
import Derived.Test.YtmmpkkpmlaiapaaGreatDoorLib
import Derived.Test.YtmmpkkpmlaiapaaGreatDoorOpen
import Derived.ChangeMaps5
import Derived.DataElems
import Derived.SizedLaws
import Derived.Test.YtmmpkkpmlaiapaaGreatDoorChecked
import Derived.Test.YtmmpkkpmlaiapaaGreatDoorQa
import Derived.Deep.AppendSrc
import Derived.Deep.Upon
namespace Go.Proofs.YtmmpkkpmlaiapaaGreatDoor
open Go.Joins Go.ChangeShapes Go.WideShapes Go.RowKit Go.Deep
set_option linter.unusedVariables false
section
variable {H : Type} {enc : TypeId × Value → H} {P : Program} {w : World}
def Rd (enc : TypeId × Value → H) (P : Program) (w : World) (T : TypeId) (cs : List Value) : Prop := ∃ fuel x, DataW.trod enc P w 0 (fun _ => true) true fuel T cs = some x
theorem Rd.of_trod {T : TypeId} {v : Value} {d : DataW H} {ps : List MemPlace} (h : DataW.Trod enc P w 0 (fun _ => true) true T v d ps) : Rd enc P w T v.cells.toList := by
  obtain ⟨fuel, hf⟩ := h
  exact ⟨fuel, _, hf⟩
theorem Rd.int {T : TypeId} {k : IntKind} {cs : List Value} (ht : P.underlying T = some (.int k)) (h : Rd enc P w T cs) : ∃ n, cs = [.int k n] ∧ (Lit.int k n).wf = true := by
  obtain ⟨fuel, x, hf⟩ := h
  obtain ⟨n, h1, _, h3⟩ := DataW.trod_int ht hf
  exact ⟨n, h1, h3⟩
theorem Rd.bool {T : TypeId} {cs : List Value} (ht : P.underlying T = some .bool) (h : Rd enc P w T cs) : ∃ b, cs = [.bool b] := by
  obtain ⟨fuel, x, hf⟩ := h
  obtain ⟨b, h1, _⟩ := DataW.trod_bool ht hf
  exact ⟨b, h1⟩
theorem Rd.string {T : TypeId} {cs : List Value} (ht : P.underlying T = some .string) (h : Rd enc P w T cs) : ∃ s : ByteArray, cs = [.string s] ∧ s.size ≤ maxLen := by
  obtain ⟨fuel, x, hf⟩ := h
  obtain ⟨s, h1, _, h3⟩ := DataW.trod_string ht hf
  exact ⟨s, h1, h3⟩
theorem Rd.struct {T : TypeId} {fs : Array Field} {cs : List Value} (hs : P.underlying T = some (.struct fs)) (h : Rd enc P w T cs) :
    cs.length = P.cellsOf T ∧ ∀ (i : Nat) (f : Field), fs[i]? = some f → Rd enc P w f.type ((cs.drop f.offset).take (P.cellsOf f.type)) := by
  obtain ⟨fuel, x, hf⟩ := h
  obtain ⟨xs, n, _, _, h1, h2, h3⟩ := DataW.trod_struct hs hf
  refine ⟨h1, fun i f hi => ?_⟩
  have hlt : i < xs.length := by rw [h2]; exact (Array.getElem?_eq_some_iff.1 hi).1
  exact ⟨n, xs[i], (h3 i f hi).trans (List.getElem?_eq_getElem hlt)⟩
def SliceAt (w : World) (A : Option Addr) (len C : Nat) (R : List Value → Prop) : Prop :=
  ∀ i, i < len → ∃ ad cs, A = some ad ∧ cs.length = C ∧ (∀ j, j < C → w.cell? (ad.add (i * C + j)) = cs[j]?) ∧ R cs
theorem Rd.slice {T e : TypeId} {cs : List Value} (ht : P.underlying T = some (.slice e)) (h : Rd enc P w T cs) :
    ∃ A len cap, cs = [.slice A len cap] ∧ len ≤ cap ∧ cap ≤ maxLen ∧ SliceAt w A len (P.cellsOf e) (Rd enc P w e) := by
  obtain ⟨fuel, x, hf⟩ := h
  rcases DataW.trod_slice ht hf with ⟨h1, _⟩ | ⟨a, len, cap, elems, rest, n, _, h1, _, _, h2, h3, h4, h5, _⟩
  · exact ⟨none, 0, 0, h1, Nat.le_refl _, by decide, fun i hi => by omega⟩
  · refine ⟨some a, len, cap, h1, h2, h3, fun i hi => ?_⟩
    have e := h5 i hi
    rw [List.getElem?_eq_getElem (by omega), Option.bind_eq_some_iff] at e
    obtain ⟨cs', g1, g2⟩ := e
    obtain ⟨_, k1, k2⟩ := World.cells?_some g1
    refine ⟨a, cs', rfl, k1, fun j hj => ?_, n, _, g2⟩
    rw [← k2 j hj, Addr.add_add]
theorem rd_cell_lt {a : Addr} {v : Value} (h : w.cell? a = some v) : a.block < w.heap.size := World.block_lt_of_cell? w a h
end
theorem SliceAt.one {w w' : World} {A : Option Addr} {len k : Nat} {R : List Value → Prop} (h : SliceAt w A len 1 R) (hb : Below w.heap.size w w') (hk : k < len) :
    ∃ ad u, A = some ad ∧ w'.cell? (ad.add k) = some u ∧ R [u] := by
  obtain ⟨ad, cs, h1, h2, h3, h4⟩ := h k hk
  obtain ⟨u, rfl⟩ : ∃ u, cs = [u] := by
    match cs, h2 with
    | [u], _ => exact ⟨u, rfl⟩
  have e := h3 0 (by omega)
  rw [Nat.mul_one, Nat.add_zero] at e
  have e' : w.cell? (ad.add k) = some u := by simpa using e
  refine ⟨ad, u, h1, ?_, h4⟩
  rw [← e']
  exact hb.cell (p := ad.add k) (by have := rd_cell_lt e'; exact this)
section
variable {H : Type} {enc : TypeId × Value → H} {P : Program} {w : World}
end
end Go.Proofs.YtmmpkkpmlaiapaaGreatDoor
namespace Go.Proofs.YtmmpkkpmlaiapaaGreatDoor
open Go.Joins Go.ChangeShapes Go.WideShapes Go.RowKit Go.Deep
set_option linter.unusedVariables false
section
variable {H : Type} {enc : TypeId × Value → H} {P : Program} {w : World}
def Rw (enc : TypeId × Value → H) (P : Program) (w : World) (T : TypeId) (cs : List Value) : Prop := ∃ fuel x, DataW.trod enc P w 0 (fun _ => true) true fuel T cs = some x ∧ ∀ b ∈ x.1.weights P T, b ≤ reachBytes
theorem Rw.of_trod {T : TypeId} {v : Value} {d : DataW H} {ps : List MemPlace} (h : DataW.Trod enc P w 0 (fun _ => true) true T v d ps) (hw : ∀ b ∈ d.weights P T, b ≤ reachBytes) : Rw enc P w T v.cells.toList := by
  obtain ⟨fuel, hf⟩ := h
  exact ⟨fuel, _, hf, hw⟩
theorem weightsAll_mem {e : TypeId} : ∀ (l : List (DataW H)) (d : DataW H), d ∈ l → ∀ b ∈ d.weights P e, b ∈ DataW.weightsAll P e l
  | x :: l, d, h, b, hb => by
    unfold DataW.weightsAll
    rw [List.mem_append]
    rcases List.mem_cons.1 h with rfl | h
    · exact Or.inl hb
    · exact Or.inr (weightsAll_mem l d h b hb)
theorem weightsEach_mem : ∀ (ts : List TypeId) (l : List (DataW H)) (i : Nat) (t : TypeId) (d : DataW H), ts[i]? = some t → l[i]? = some d → ∀ b ∈ d.weights P t, b ∈ DataW.weightsEach P ts l
  | [], _, i, t, d, h, _, _, _ => by simp at h
  | _ :: _, [], i, t, d, _, h, _, _ => by simp at h
  | t0 :: ts, x :: l, 0, t, d, h1, h2, b, hb => by
    simp only [List.getElem?_cons_zero, Option.some.injEq] at h1 h2
    subst h1 h2
    unfold DataW.weightsEach
    exact List.mem_append.2 (Or.inl hb)
  | t0 :: ts, x :: l, i + 1, t, d, h1, h2, b, hb => by
    unfold DataW.weightsEach
    exact List.mem_append.2 (Or.inr (weightsEach_mem ts l i t d (by simpa using h1) (by simpa using h2) b hb))
theorem Rw.struct {T : TypeId} {fs : Array Field} {cs : List Value} (hs : P.underlying T = some (.struct fs)) (h : Rw enc P w T cs) :
    cs.length = P.cellsOf T ∧ ∀ (i : Nat) (f : Field), fs[i]? = some f → Rw enc P w f.type ((cs.drop f.offset).take (P.cellsOf f.type)) := by
  obtain ⟨fuel, x, hf, hw⟩ := h
  obtain ⟨xs, n, _, hx, h1, h2, h3⟩ := DataW.trod_struct hs hf
  refine ⟨h1, fun i f hi => ?_⟩
  have hlt : i < xs.length := by rw [h2]; exact (Array.getElem?_eq_some_iff.1 hi).1
  refine ⟨n, xs[i], (h3 i f hi).trans (List.getElem?_eq_getElem hlt), fun b hb => hw b ?_⟩
  subst hx
  simp only [DataW.weights, hs]
  exact weightsEach_mem _ _ i f.type xs[i].1 (by simp [hi]) (by simp [List.getElem?_eq_getElem hlt]) b hb
theorem Rw.slice {T e : TypeId} {cs : List Value} (ht : P.underlying T = some (.slice e)) (h : Rw enc P w T cs) :
    ∃ A len cap, cs = [.slice A len cap] ∧ len ≤ cap ∧ cap ≤ maxLen ∧ SliceAt w A len (P.cellsOf e) (Rw enc P w e) ∧ cap * P.bytesOf e ≤ reachBytes := by
  obtain ⟨fuel, x, hf, hw⟩ := h
  rcases DataW.trod_slice ht hf with ⟨h1, _⟩ | ⟨a, len, cap, elems, rest, n, _, h1, hx, _, h2, h3, h4, h5, h6, _⟩
  · exact ⟨none, 0, 0, h1, Nat.le_refl _, by decide, (fun i hi => by omega), by simp [reachBytes]⟩
  · have hr := (h6 rfl).1
    subst hx
    simp only [DataW.weights, ht] at hw
    refine ⟨some a, len, cap, h1, h2, h3, fun i hi => ?_, ?_⟩
    · have e' := h5 i hi
      have hlt : i < elems.length := by omega
      rw [List.getElem?_eq_getElem hlt, Option.bind_eq_some_iff] at e'
      obtain ⟨cs', g1, g2⟩ := e'
      obtain ⟨_, k1, k2⟩ := World.cells?_some g1
      refine ⟨a, cs', rfl, k1, fun j hj => ?_, n, _, g2, fun b hb => hw b ?_⟩
      · rw [← k2 j hj, Addr.add_add]
      · refine List.mem_cons_of_mem _ (List.mem_append.2 (Or.inl ?_))
        exact weightsAll_mem _ _ (List.mem_map_of_mem (List.getElem_mem hlt)) b hb
    · have := hw _ List.mem_cons_self
      simp only [List.length_map, h4, hr] at this
      rw [show len + (cap - len) = cap by omega] at this
      exact this
end
end Go.Proofs.YtmmpkkpmlaiapaaGreatDoor
namespace Go.Proofs.YtmmpkkpmlaiapaaGreatDoor
open Go.RowKit
set_option linter.unusedVariables false
set_option maxRecDepth 20000
structure XInsD where
  op : Int
  dst : Int
  src : Int
  imm : Int
  size : Int
  signed : Bool
  cond : Int
  to_ : ByteArray
structure XItemD where
  label : ByteArray
  ins : XInsD
structure XDatumD where
  kind : Int
  name : ByteArray
  data : List Int
  n : Int
structure XProgD where
  data : List XDatumD
  code : List XItemD
def SlR {α : Type} (w : World) (C : Nat) (R : List Value → α → Prop) (v : Value) (xs : List α) : Prop :=
  ∃ A cap, v = .slice A xs.length cap ∧ xs.length ≤ cap ∧ cap ≤ maxLen ∧ ∀ i x, xs[i]? = some x → ∃ b o cs, A = some ⟨b, o, none⟩ ∧ cs.length = C ∧ (∀ j, j < C → w.cell? ⟨b, o + i * C + j, none⟩ = cs[j]?) ∧ R cs x
theorem laterC {w w' : World} {a : Addr} {v : Value} (h : w.cell? a = some v) (hb : Below w.heap.size w w') : w'.cell? a = some v := (hb.cell (World.block_lt_of_cell? w _ h)).trans h
theorem SlR.later {α : Type} {w w' : World} {C : Nat} {R : List Value → α → Prop} {v : Value} {xs : List α} (h : SlR w C R v xs) (hC : 0 < C) (hb : Below w.heap.size w w') : SlR w' C R v xs := by
  obtain ⟨A, cap, h1, h2, h3, h4⟩ := h
  refine ⟨A, cap, h1, h2, h3, fun i x hi => ?_⟩
  obtain ⟨b, o, cs, g1, g2, g3, g4⟩ := h4 i x hi
  refine ⟨b, o, cs, g1, g2, fun j hj => ?_, g4⟩
  have hj2 : j < cs.length := by omega
  have e := g3 j hj
  rw [List.getElem?_eq_getElem hj2] at e ⊢
  exact laterC e hb
set_option maxRecDepth 100000 in
section
variable {H : Type} {enc : TypeId × Value → H} {w : World}
theorem choose_list {α : Type} {p : Nat → α → Prop} : ∀ (n : Nat), (∀ i, i < n → ∃ x, p i x) → ∃ xs : List α, xs.length = n ∧ ∀ i x, xs[i]? = some x → p i x
  | 0, _ => ⟨[], rfl, fun i x h => by simp at h⟩
  | n + 1, h => by
    obtain ⟨xs, h1, h2⟩ := choose_list n (fun i hi => h i (by omega))
    obtain ⟨x, hx⟩ := h n (by omega)
    refine ⟨xs ++ [x], by simp [h1], fun i y hi => ?_⟩
    rw [List.getElem?_append] at hi
    split at hi
    · exact h2 i y hi
    · rename_i hlt
      have : i = n := by
        have := (List.getElem?_eq_some_iff.1 hi).1
        simp at this; omega
      subst this
      rw [h1, Nat.sub_self] at hi
      simp at hi
      subst hi
      exact hx
theorem spot_none {a : Addr} {v : Value} (h : w.cell? a = some v) : a.spot = none := by
  unfold World.cell? at h
  split at h
  · split at h
    · cases h
    · rename_i hs
      cases e : a.spot with
      | none => rfl
      | some x => rw [e] at hs; exact absurd rfl hs
  · cases h
theorem addr_lit {a : Addr} (h : a.spot = none) (n : Nat) : a.add n = ⟨a.block, a.off + n, none⟩ := by
  unfold Addr.add
  split
  · rename_i e; subst e; cases a; simp_all
  · rfl
theorem SlR.of {α : Type} {A : Option Addr} {len cap C : Nat} {R0 : List Value → Prop} {R : List Value → α → Prop} (hC : 0 < C) (h : SliceAt w A len C R0) (hl : len ≤ cap) (hc : cap ≤ maxLen) (hR : ∀ cs, R0 cs → ∃ x, R cs x) : ∃ xs : List α, xs.length = len ∧ SlR w C R (.slice A len cap) xs := by
  obtain ⟨xs, h1, h2⟩ := choose_list (p := fun i x => ∃ b o cs, A = some ⟨b, o, none⟩ ∧ cs.length = C ∧ (∀ j, j < C → w.cell? ⟨b, o + i * C + j, none⟩ = cs[j]?) ∧ R cs x) len (fun i hi => by
    obtain ⟨ad, cs, g1, g2, g3, g4⟩ := h i hi
    obtain ⟨ad0, cs0, k1, k2, k3, _⟩ := h 0 (by omega)
    rw [g1] at k1
    obtain rfl := Option.some.inj k1
    have e0 := k3 0 hC
    rw [Nat.zero_mul, List.getElem?_eq_getElem (by omega)] at e0
    have hs : ad.spot = none := spot_none (a := ad) (by simpa [Addr.add] using e0)
    obtain ⟨x, hx⟩ := hR cs g4
    refine ⟨x, ad.block, ad.off, cs, ?_, g2, fun j hj => ?_, hx⟩
    · rw [g1]; cases ad; simp_all
    · rw [← g3 j hj, addr_lit hs, Nat.add_assoc])
  subst h1
  exact ⟨xs, rfl, A, cap, rfl, hl, hc, h2⟩
end
end Go.Proofs.YtmmpkkpmlaiapaaGreatDoor
namespace Go.Proofs.YtmmpkkpmlaiapaaGreatDoor
open Go.RowKit
set_option linter.unusedVariables false
set_option maxHeartbeats 4000000
set_option maxRecDepth 100000
theorem info_partsK {P : Program} {T : TypeId} {C B : Nat} (h : (P.info? T).map (fun i => (i.zero.map (·.cells.size), i.size, i.bytes)) = some (some C, C, B)) : ∃ i z, P.info? T = some i ∧ i.zero = some z ∧ z.cells.size = C ∧ i.size = C ∧ i.bytes = B := by
  obtain ⟨i, h1, h2⟩ := Option.map_eq_some_iff.1 h
  simp only [Prod.mk.injEq] at h2
  obtain ⟨h3, h4, h5⟩ := h2
  obtain ⟨z, h6, h7⟩ := Option.map_eq_some_iff.1 h3
  exact ⟨i, z, h1, h6, h7, h4, h5⟩
def KpT (T : TypeId) (w w' : World) : Prop := w.heap.size ≤ w'.heap.size ∧ ∀ (b : Nat) (o : Obj), w.heap[b]? = some o → (∀ cs fr, o ≠ .cells cs T fr) → w'.heap[b]? = some o
section
variable {w w' w2 : World} {T T2 : TypeId}
theorem KpT.cells (h : KpT T w w') {b : Nat} {cs : Array Value} {fr : Nat × Nat} (hb : w.heap[b]? = some (.cells cs T2 fr)) (hT : T2 ≠ T) : w'.heap[b]? = some (.cells cs T2 fr) := h.2 b _ hb (fun cs' fr' e => by cases e; exact hT rfl)
theorem KpT.map (h : KpT T w w') {b c : Nat} {es : Array MapEntry} (hb : w.heap[b]? = some (.map es c)) : w'.heap[b]? = some (.map es c) := h.2 b _ hb (fun cs' fr' e => by cases e)
theorem KpT.trans (h : KpT T w w') (h2 : KpT T w' w2) : KpT T w w2 := ⟨Nat.le_trans h.1 h2.1, fun b o hb ho => h2.2 b o (h.2 b o hb ho) ho⟩
theorem kpT_grown {B C n : Nat} {v : Value} {xs : List Value} (h : w.ownsRow B T C v n xs) (hg : w.grownBy w' v.ownBlock) : KpT T w w' := by
  refine ⟨hg.size, fun b o hb ho => ?_⟩
  refine (hg.block b (Array.getElem?_eq_some_iff.1 hb).1 (fun e => ?_)).trans hb
  rcases h.2 with ⟨rfl, e2⟩ | ⟨g', cap, cur, rfl, k1, k2, _⟩
  · simp [Value.ownBlock] at e
  · simp only [Value.ownBlock, Option.some.injEq] at e
    subst e
    rw [k2] at hb
    cases hb
    exact ho _ _ rfl
theorem KpT.own (h : KpT T w w') {B C n : Nat} {v : Value} {xs : List Value} (hr : w.ownsRow B T2 C v n xs) (hT : T2 ≠ T) : w'.ownsRow B T2 C v n xs := by
  obtain ⟨h1, h2⟩ := hr
  refine ⟨h1, ?_⟩
  rcases h2 with h2 | ⟨g', cap, cur, e, k1, k2, k3⟩
  · exact Or.inl h2
  · exact Or.inr ⟨g', cap, cur, e, k1, h.cells k2 hT, k3⟩
end
def insV (x : XInsD) : List Value := [.int .i64 x.op, .int .i64 x.dst, .int .i64 x.src, .int .i64 x.imm, .int .i64 x.size, .bool x.signed, .int .i64 x.cond, .string x.to_]
end Go.Proofs.YtmmpkkpmlaiapaaGreatDoor
