/- Arguments: structs by value opened to their cells; what is below a world's size reads again as it read. Over any program. Arguments of any shape: what stands where they read, part by part. Over any program. Arguments of any shape, with the row's own reach: what stands where they read, part by part. Over any program. Laws over any program: whole structs stored into a new variable, loaded out of a block or out of its middle. Laws over any program: rows that the call owns, appended to; rows told apart by what they are of. Laws over any program: rows of whole structs that the call owns, appended to. A set of texts as a map, as it stands in memory: looking up, storing. No condition. -/
import Derived.Test.YtbogcompeefoaaaDoorLib
import Derived.Lib.SmallJoins
import Derived.Carry
import Derived.ChangeMaps5
import Derived.DataElems
import Derived.SizedLaws
import Derived.Deep.MidRow
import Derived.ArgAppend
import Derived.Laws.OwnMore
import Derived.OwnWalk
import Derived.OneCell
namespace Go.Proofs.YtbogcompeefoaaaDoor
open Go.Joins Go.ChangeShapes Go.WideShapes Go.RowKit Go.Deep
set_option linter.unusedVariables false
section
variable {H : Type} {enc : TypeId × Value → H} {P : Program} {w : World} {base : Nat} {spare : Nat → Bool} {held : Bool}
theorem open_agg8' {r : Reach} {b0 : Nat} {t : TypeId} {f0 f1 f2 f3 f4 f5 f6 f7 : Field} {v : Value} {d : DataW H} {p : List MemPlace} (hs : P.underlying t = some (.struct #[f0, f1, f2, f3, f4, f5, f6, f7])) (hone : oneCellFields P #[f0, f1, f2, f3, f4, f5, f6, f7] = true) (hC : P.cellsOf t = 8)
    (hv : Value.okWide P w r b0 t v) (h : DataW.Trod enc P w base spare held t v d p) :
    ∃ (v0 v1 v2 v3 v4 v5 v6 v7 : Value) (y0 y1 y2 y3 y4 y5 y6 y7 : DataW H × List MemPlace) (n : Nat), v = .agg #[v0, v1, v2, v3, v4, v5, v6, v7] ∧
      DataW.trod enc P w base spare held n f0.type [v0] = some y0 ∧ DataW.trod enc P w base spare held n f1.type [v1] = some y1 ∧ DataW.trod enc P w base spare held n f2.type [v2] = some y2 ∧ DataW.trod enc P w base spare held n f3.type [v3] = some y3 ∧ DataW.trod enc P w base spare held n f4.type [v4] = some y4 ∧ DataW.trod enc P w base spare held n f5.type [v5] = some y5 ∧ DataW.trod enc P w base spare held n f6.type [v6] = some y6 ∧ DataW.trod enc P w base spare held n f7.type [v7] = some y7 := by
  obtain ⟨cs, rfl, hsz⟩ := okWide_struct hs hv
  obtain ⟨l⟩ := cs
  match l, hsz.trans hC with
  | [c0, c1, c2, c3, c4, c5, c6, c7], _ =>
    obtain ⟨fuel, hf⟩ := h
    obtain ⟨xs, n, _, hx, _, hlen, hg⟩ := DataW.trod_struct hs hf
    obtain ⟨o0, k0⟩ := hone_of hone 0 f0 rfl
    obtain ⟨o1, k1⟩ := hone_of hone 1 f1 rfl
    obtain ⟨o2, k2⟩ := hone_of hone 2 f2 rfl
    obtain ⟨o3, k3⟩ := hone_of hone 3 f3 rfl
    obtain ⟨o4, k4⟩ := hone_of hone 4 f4 rfl
    obtain ⟨o5, k5⟩ := hone_of hone 5 f5 rfl
    obtain ⟨o6, k6⟩ := hone_of hone 6 f6 rfl
    obtain ⟨o7, k7⟩ := hone_of hone 7 f7 rfl
    match xs, hlen with
    | [y0, y1, y2, y3, y4, y5, y6, y7], _ =>
      exact ⟨c0, c1, c2, c3, c4, c5, c6, c7, y0, y1, y2, y3, y4, y5, y6, y7, n, rfl, by simpa [Value.cells, o0, k0] using hg 0 f0 rfl, by simpa [Value.cells, o1, k1] using hg 1 f1 rfl, by simpa [Value.cells, o2, k2] using hg 2 f2 rfl, by simpa [Value.cells, o3, k3] using hg 3 f3 rfl, by simpa [Value.cells, o4, k4] using hg 4 f4 rfl, by simpa [Value.cells, o5, k5] using hg 5 f5 rfl, by simpa [Value.cells, o6, k6] using hg 6 f6 rfl, by simpa [Value.cells, o7, k7] using hg 7 f7 rfl⟩
end
section
variable {H : Type} {enc : TypeId × Value → H} {P : Program}
/-- all arguments read again, where nothing below the world's size has turned -/
theorem trodAll_below (hl : laidOutB P = true) {W W' : World} (hb : Below W.heap.size W W') : ∀ {ts : List TypeId} {vs : List Value} {ds : List (DataW H)} {ps : List MemPlace}, (∀ t ∈ ts, P.readableRec t = true ∧ t < P.types.size) →
    DataW.TrodAll enc P W 0 (fun _ => true) true ts vs ds ps → DataW.TrodAll enc P W' 0 (fun b => decide (b < W.heap.size)) true ts vs ds ps
  | [], [], [], ps, _, h => h
  | [], _ :: _, _, _, _, h => h.elim
  | [], [], _ :: _, _, _, h => h.elim
  | _ :: _, [], _, _, _, h => h.elim
  | _ :: _, _ :: _, [], _, _, h => h.elim
  | t :: ts, v :: vs, d :: ds, ps, ht, h => by
    have hlt := DataW.TrodAll.lt h
    obtain ⟨p, q, h1, h2, rfl⟩ := h
    obtain ⟨r1, r2⟩ := ht t List.mem_cons_self
    exact ⟨p, q, Below.trod hl r1 r2 h1 hb (fun x hx => hlt x (List.mem_append_left _ hx)), trodAll_below hl hb (fun t' ht' => ht t' (List.mem_cons_of_mem _ ht')) h2, rfl⟩
/-- a statement's step, whatever its arguments' types, where nothing that was there has turned -/
theorem post_of_args (hl : laidOutB P = true) {f : Func} {s : ChangeSpec} {apart fresh handsOn : Bool} {W W' : World} {args : Array Value} {v : Value} {ds gs : List (DataW H)} {before : List MemPlace}
    (hW : DataW.Whole enc P f.params.toList s.vars apart W args.toList ds gs before) (hnv : s.vars = []) (hts : ∀ t ∈ f.params.toList, P.readableRec t = true ∧ t < P.types.size)
    (hres : ∀ (b : Nat) (sp : Nat → Bool) (hd : Bool), DataW.TrodAll enc P W' b sp hd f.resultTypes.toList (v.resultList f.resultTypes.size) (s.fn H (ds ++ gs)).results [])
    (hargs : (s.fn H (ds ++ gs)).args = ds) (hvars : (s.fn H (ds ++ gs)).vars = []) (hb : Below W.heap.size W W') : s.post enc P f apart fresh handsOn false W args v W' := by
  have hW2 := hW
  obtain ⟨p, q, h1, h2, hpq, _⟩ := hW2
  rw [hnv] at h2
  have hq : q = [] := by
    cases gs with
    | nil => exact h2
    | cons _ _ => exact h2.elim
  subst hq
  refine ⟨ds, gs, before, [], p, [], hW, hres _ _ _, by rw [hargs]; exact trodAll_below hl hb hts h1, by rw [hnv, hvars]; exact rfl, World.keptBut_mono (fun pl hp => ⟨hp, ?_⟩) (hb.frame (· ∈ before)), fun h => by cases h⟩
  rw [hpq, List.append_nil] at hp
  exact Or.inr (Or.inl hp)
end
end Go.Proofs.YtbogcompeefoaaaDoor
namespace Go.Proofs.YtbogcompeefoaaaDoor
open Go.Joins Go.ChangeShapes Go.WideShapes Go.RowKit Go.Deep
set_option linter.unusedVariables false
section
variable {H : Type} {enc : TypeId × Value → H} {P : Program} {w : World}
/-- the cells read, as of a type -/
def Rd (enc : TypeId × Value → H) (P : Program) (w : World) (T : TypeId) (cs : List Value) : Prop := ∃ fuel x, DataW.trod enc P w 0 (fun _ => true) true fuel T cs = some x
theorem Rd.of_trod {T : TypeId} {v : Value} {d : DataW H} {ps : List MemPlace} (h : DataW.Trod enc P w 0 (fun _ => true) true T v d ps) : Rd enc P w T v.cells.toList := by
  obtain ⟨fuel, hf⟩ := h
  exact ⟨fuel, _, hf⟩
theorem Rd.int {T : TypeId} {k : IntKind} {cs : List Value} (ht : P.underlying T = some (.int k)) (h : Rd enc P w T cs) : ∃ n, cs = [.int k n] ∧ (Lit.int k n).wf = true := by
  obtain ⟨fuel, x, hf⟩ := h
  obtain ⟨n, h1, _, h3⟩ := DataW.trod_int ht hf
  exact ⟨n, h1, h3⟩
theorem Rd.bool {T : TypeId} {cs : List Value} (ht : P.underlying T = some .bool) (h : Rd enc P w T cs) : ∃ b, cs = [.bool b] := by
  obtain ⟨fuel, x, hf⟩ := h
  obtain ⟨b, h1, _⟩ := DataW.trod_bool ht hf
  exact ⟨b, h1⟩
theorem Rd.string {T : TypeId} {cs : List Value} (ht : P.underlying T = some .string) (h : Rd enc P w T cs) : ∃ s : ByteArray, cs = [.string s] ∧ s.size ≤ maxLen := by
  obtain ⟨fuel, x, hf⟩ := h
  obtain ⟨s, h1, _, h3⟩ := DataW.trod_string ht hf
  exact ⟨s, h1, h3⟩
theorem Rd.struct {T : TypeId} {fs : Array Field} {cs : List Value} (hs : P.underlying T = some (.struct fs)) (h : Rd enc P w T cs) :
    cs.length = P.cellsOf T ∧ ∀ (i : Nat) (f : Field), fs[i]? = some f → Rd enc P w f.type ((cs.drop f.offset).take (P.cellsOf f.type)) := by
  obtain ⟨fuel, x, hf⟩ := h
  obtain ⟨xs, n, _, _, h1, h2, h3⟩ := DataW.trod_struct hs hf
  refine ⟨h1, fun i f hi => ?_⟩
  have hlt : i < xs.length := by rw [h2]; exact (Array.getElem?_eq_some_iff.1 hi).1
  exact ⟨n, xs[i], (h3 i f hi).trans (List.getElem?_eq_getElem hlt)⟩
/-- the elements of a slice that came in: C cells each -/
def SliceAt (w : World) (A : Option Addr) (len C : Nat) (R : List Value → Prop) : Prop :=
  ∀ i, i < len → ∃ ad cs, A = some ad ∧ cs.length = C ∧ (∀ j, j < C → w.cell? (ad.add (i * C + j)) = cs[j]?) ∧ R cs
theorem Rd.slice {T e : TypeId} {cs : List Value} (ht : P.underlying T = some (.slice e)) (h : Rd enc P w T cs) :
    ∃ A len cap, cs = [.slice A len cap] ∧ len ≤ cap ∧ cap ≤ maxLen ∧ SliceAt w A len (P.cellsOf e) (Rd enc P w e) := by
  obtain ⟨fuel, x, hf⟩ := h
  rcases DataW.trod_slice ht hf with ⟨h1, _⟩ | ⟨a, len, cap, elems, rest, n, _, h1, _, _, h2, h3, h4, h5, _⟩
  · exact ⟨none, 0, 0, h1, Nat.le_refl _, by decide, fun i hi => by omega⟩
  · refine ⟨some a, len, cap, h1, h2, h3, fun i hi => ?_⟩
    have e := h5 i hi
    rw [List.getElem?_eq_getElem (by omega), Option.bind_eq_some_iff] at e
    obtain ⟨cs', g1, g2⟩ := e
    obtain ⟨_, k1, k2⟩ := World.cells?_some g1
    refine ⟨a, cs', rfl, k1, fun j hj => ?_, n, _, g2⟩
    rw [← k2 j hj, Addr.add_add]
theorem rd_cell_lt {a : Addr} {v : Value} (h : w.cell? a = some v) : a.block < w.heap.size := World.block_lt_of_cell? w a h
end
theorem block_add (a : Addr) (n : Nat) : (a.add n).block = a.block := by unfold Addr.add; split <;> rfl
/-- an element of one cell, in a later world -/
theorem SliceAt.one {w w' : World} {A : Option Addr} {len k : Nat} {R : List Value → Prop} (h : SliceAt w A len 1 R) (hb : Below w.heap.size w w') (hk : k < len) :
    ∃ ad u, A = some ad ∧ w'.cell? (ad.add k) = some u ∧ R [u] := by
  obtain ⟨ad, cs, h1, h2, h3, h4⟩ := h k hk
  obtain ⟨u, rfl⟩ : ∃ u, cs = [u] := by
    match cs, h2 with
    | [u], _ => exact ⟨u, rfl⟩
  have e := h3 0 (by omega)
  rw [Nat.mul_one, Nat.add_zero] at e
  have e' : w.cell? (ad.add k) = some u := by simpa using e
  refine ⟨ad, u, h1, ?_, h4⟩
  rw [← e']
  exact hb.cell (p := ad.add k) (by have := rd_cell_lt e'; exact this)
section
variable {H : Type} {enc : TypeId × Value → H} {P : Program} {w : World}
/-- an argument that is a slice -/
theorem open_slice {r : Reach} {b0 : Nat} {T e : TypeId} {v : Value} {d : DataW H} {p : List MemPlace} (ht : P.underlying T = some (.slice e)) (hv : Value.okWide P w r b0 T v) (h : DataW.Trod enc P w 0 (fun _ => true) true T v d p) :
    ∃ A len cap, v = .slice A len cap ∧ len ≤ cap ∧ cap ≤ maxLen ∧ SliceAt w A len (P.cellsOf e) (Rd enc P w e) := by
  obtain ⟨a, len, cap, rfl⟩ := okWide_slice ht hv
  obtain ⟨A, len', cap', h1, h2⟩ := Rd.slice ht (Rd.of_trod h)
  simp [Value.cells] at h1
  obtain ⟨rfl, rfl, rfl⟩ := h1
  exact ⟨_, _, _, rfl, h2⟩
end
end Go.Proofs.YtbogcompeefoaaaDoor
namespace Go.Proofs.YtbogcompeefoaaaDoor
open Go.Joins Go.ChangeShapes Go.WideShapes Go.RowKit Go.Deep
set_option linter.unusedVariables false
section
variable {H : Type} {enc : TypeId × Value → H} {P : Program} {w : World}
/-- the cells read, as of a type; nothing weighs more than the reach -/
def Rw (enc : TypeId × Value → H) (P : Program) (w : World) (T : TypeId) (cs : List Value) : Prop := ∃ fuel x, DataW.trod enc P w 0 (fun _ => true) true fuel T cs = some x ∧ ∀ b ∈ x.1.weights P T, b ≤ reachBytes
theorem Rw.rd {T : TypeId} {cs : List Value} (h : Rw enc P w T cs) : Rd enc P w T cs := let ⟨f, x, h1, _⟩ := h; ⟨f, x, h1⟩
theorem Rw.of_trod {T : TypeId} {v : Value} {d : DataW H} {ps : List MemPlace} (h : DataW.Trod enc P w 0 (fun _ => true) true T v d ps) (hw : ∀ b ∈ d.weights P T, b ≤ reachBytes) : Rw enc P w T v.cells.toList := by
  obtain ⟨fuel, hf⟩ := h
  exact ⟨fuel, _, hf, hw⟩
theorem weightsAll_mem {e : TypeId} : ∀ (l : List (DataW H)) (d : DataW H), d ∈ l → ∀ b ∈ d.weights P e, b ∈ DataW.weightsAll P e l
  | x :: l, d, h, b, hb => by
    unfold DataW.weightsAll
    rw [List.mem_append]
    rcases List.mem_cons.1 h with rfl | h
    · exact Or.inl hb
    · exact Or.inr (weightsAll_mem l d h b hb)
theorem weightsEach_mem : ∀ (ts : List TypeId) (l : List (DataW H)) (i : Nat) (t : TypeId) (d : DataW H), ts[i]? = some t → l[i]? = some d → ∀ b ∈ d.weights P t, b ∈ DataW.weightsEach P ts l
  | [], _, i, t, d, h, _, _, _ => by simp at h
  | _ :: _, [], i, t, d, _, h, _, _ => by simp at h
  | t0 :: ts, x :: l, 0, t, d, h1, h2, b, hb => by
    simp only [List.getElem?_cons_zero, Option.some.injEq] at h1 h2
    subst h1 h2
    unfold DataW.weightsEach
    exact List.mem_append.2 (Or.inl hb)
  | t0 :: ts, x :: l, i + 1, t, d, h1, h2, b, hb => by
    unfold DataW.weightsEach
    exact List.mem_append.2 (Or.inr (weightsEach_mem ts l i t d (by simpa using h1) (by simpa using h2) b hb))
theorem Rw.struct {T : TypeId} {fs : Array Field} {cs : List Value} (hs : P.underlying T = some (.struct fs)) (h : Rw enc P w T cs) :
    cs.length = P.cellsOf T ∧ ∀ (i : Nat) (f : Field), fs[i]? = some f → Rw enc P w f.type ((cs.drop f.offset).take (P.cellsOf f.type)) := by
  obtain ⟨fuel, x, hf, hw⟩ := h
  obtain ⟨xs, n, _, hx, h1, h2, h3⟩ := DataW.trod_struct hs hf
  refine ⟨h1, fun i f hi => ?_⟩
  have hlt : i < xs.length := by rw [h2]; exact (Array.getElem?_eq_some_iff.1 hi).1
  refine ⟨n, xs[i], (h3 i f hi).trans (List.getElem?_eq_getElem hlt), fun b hb => hw b ?_⟩
  subst hx
  simp only [DataW.weights, hs]
  exact weightsEach_mem _ _ i f.type xs[i].1 (by simp [hi]) (by simp [List.getElem?_eq_getElem hlt]) b hb
theorem Rw.slice {T e : TypeId} {cs : List Value} (ht : P.underlying T = some (.slice e)) (h : Rw enc P w T cs) :
    ∃ A len cap, cs = [.slice A len cap] ∧ len ≤ cap ∧ cap ≤ maxLen ∧ SliceAt w A len (P.cellsOf e) (Rw enc P w e) ∧ cap * P.bytesOf e ≤ reachBytes := by
  obtain ⟨fuel, x, hf, hw⟩ := h
  rcases DataW.trod_slice ht hf with ⟨h1, _⟩ | ⟨a, len, cap, elems, rest, n, _, h1, hx, _, h2, h3, h4, h5, h6, _⟩
  · exact ⟨none, 0, 0, h1, Nat.le_refl _, by decide, (fun i hi => by omega), by simp [reachBytes]⟩
  · have hr := (h6 rfl).1
    subst hx
    simp only [DataW.weights, ht] at hw
    refine ⟨some a, len, cap, h1, h2, h3, fun i hi => ?_, ?_⟩
    · have e' := h5 i hi
      have hlt : i < elems.length := by omega
      rw [List.getElem?_eq_getElem hlt, Option.bind_eq_some_iff] at e'
      obtain ⟨cs', g1, g2⟩ := e'
      obtain ⟨_, k1, k2⟩ := World.cells?_some g1
      refine ⟨a, cs', rfl, k1, fun j hj => ?_, n, _, g2, fun b hb => hw b ?_⟩
      · rw [← k2 j hj, Addr.add_add]
      · refine List.mem_cons_of_mem _ (List.mem_append.2 (Or.inl ?_))
        exact weightsAll_mem _ _ (List.mem_map_of_mem (List.getElem_mem hlt)) b hb
    · have := hw _ List.mem_cons_self
      simp only [List.length_map, h4, hr] at this
      rw [show len + (cap - len) = cap by omega] at this
      exact this
/-- an argument that is a struct -/
theorem open_structW {r : Reach} {b0 : Nat} {T : TypeId} {fs : Array Field} {v : Value} {d : DataW H} {p : List MemPlace} (hs : P.underlying T = some (.struct fs)) (hv : Value.okWide P w r b0 T v) (h : DataW.Trod enc P w 0 (fun _ => true) true T v d p) (hw : ∀ b ∈ d.weights P T, b ≤ reachBytes) :
    ∃ cs : Array Value, v = .agg cs ∧ Rw enc P w T cs.toList := by
  obtain ⟨cs, rfl, _⟩ := okWide_struct hs hv
  exact ⟨cs, rfl, Rw.of_trod h hw⟩
end
end Go.Proofs.YtbogcompeefoaaaDoor
namespace Go.Proofs.YtbogcompeefoaaaDoor
open Go.RowKit
set_option linter.unusedVariables false
theorem blk_new' {w : World} {o : Obj} {n : Nat} (hn : n = w.heap.size) : (w.alloc o).heap[n]? = some o := by subst hn; exact blk_new w o
theorem below_drewN {B : Nat} {w x : World} (h : Below B w x) (n : Nat) : Below B w (x.drewN n) := ⟨h.os, h.tape, h.output, h.size, h.block⟩
theorem setCells_block (b : Nat) : ∀ (vs pre post : List Value) (w : World) (T : TypeId) (fr : Nat × Nat), w.heap[b]? = some (.cells (pre ++ post).toArray T fr) → vs.length = post.length →
    w.setCells b pre.length vs = { w with heap := w.heap.setIfInBounds b (.cells (pre ++ vs).toArray T fr) }
  | [], pre, post, w, T, fr, h, hl => by
    have : post = [] := by cases post with | nil => rfl | cons _ _ => simp at hl
    subst this
    have hb := blk_lt h
    unfold World.setCells
    have e : w.heap.setIfInBounds b (.cells (pre ++ []).toArray T fr) = w.heap := by
      apply Array.ext_getElem?
      intro i
      by_cases hi : i = b
      · subst hi; rw [Array.getElem?_setIfInBounds_self_of_lt hb, h]
      · rw [Array.getElem?_setIfInBounds_ne (fun e => hi e.symm)]
    rw [e]
  | v :: vs, pre, [], w, T, fr, h, hl => by simp at hl
  | v :: vs, pre, p :: post, w, T, fr, h, hl => by
    have hb := blk_lt h
    unfold World.setCells
    have h1 : (w.setCell ⟨b, pre.length, none⟩ v).heap[b]? = some (.cells ((pre ++ [v]) ++ post).toArray T fr) := by
      rw [blk_setCell h v]
      congr 2
      apply Array.ext_getElem?
      intro i
      simp only [List.append_assoc, List.cons_append, List.nil_append, Array.getElem?_setIfInBounds, List.size_toArray, List.getElem?_toArray]
      by_cases hi : pre.length = i
      · subst hi; simp
      · rw [if_neg hi]
        rcases Nat.lt_or_ge i pre.length with hlt | hge
        · rw [List.getElem?_append_left hlt, List.getElem?_append_left hlt]
        · obtain ⟨k, hk⟩ : ∃ k, i = pre.length + 1 + k := ⟨i - pre.length - 1, by omega⟩
          subst hk
          rw [List.getElem?_append_right (by omega), List.getElem?_append_right (by omega)]
          have : pre.length + 1 + k - pre.length = k + 1 := by omega
          rw [this]; rfl
    have ih := setCells_block b vs (pre ++ [v]) post (w.setCell ⟨b, pre.length, none⟩ v) T fr h1 (by simpa using hl)
    rw [List.length_append, List.length_singleton] at ih
    rw [ih]
    simp only [World.setCell, List.append_assoc, List.cons_append, List.nil_append]
    congr 1
    apply Array.ext_getElem?
    intro i
    by_cases hi : i = b
    · subst hi
      rw [Array.getElem?_setIfInBounds_self_of_lt (by simpa using hb), Array.getElem?_setIfInBounds_self_of_lt hb]
    · rw [Array.getElem?_setIfInBounds_ne (fun e => hi e.symm), Array.getElem?_setIfInBounds_ne (fun e => hi e.symm), Array.getElem?_modify]
      rw [if_neg (fun e => hi e.symm)]
theorem setCells_new (w : World) (zs cs : Array Value) (T : TypeId) (hsz : zs.size = cs.size) :
    (w.alloc (.cells zs T)).setCells w.heap.size 0 cs.toList = w.alloc (.cells cs T) := by
  have := setCells_block w.heap.size cs.toList [] zs.toList (w.alloc (.cells zs T)) T (0, 0) (by simpa using blk_new w (.cells zs T)) (by simpa using hsz.symm)
  simp only [List.length_nil, List.nil_append] at this
  rw [this]
  simp only [World.alloc]
  congr 1
  apply Array.ext_getElem?
  intro i
  by_cases hi : i = w.heap.size
  · subst hi
    rw [Array.getElem?_setIfInBounds_self_of_lt (by simp)]
    simp
  · rw [Array.getElem?_setIfInBounds_ne (fun e => hi e.symm)]
    rcases Nat.lt_or_ge i w.heap.size with h | h
    · rw [Array.getElem?_push_lt h, Array.getElem?_push_lt h]
    · rw [Array.getElem?_eq_none (by simp; omega), Array.getElem?_eq_none (by simp; omega)]
/-- a whole struct stored into a variable that has just been made -/
theorem wpList_store_new {P : Program} {ops : Array Oper} {rest : List Oper} {op : Oper} {a : Act} {w : World} {Q : Exit → Act → World → Prop} {zs cs : Array Value} {T : TypeId} (hgd : op.guard = none) (ty : TypeId) (x y : Operand) (ho : op.op = .store ty x y)
    (hx : a.eval x = .pointer (some ⟨w.heap.size, 0, none⟩)) (hy : a.eval y = .agg cs) (hsz : zs.size = cs.size) (hi : (P.info? ty).map (·.size) = some cs.size) (h1 : cs.all (·.oneCell') = true)
    (h : wpList P ops Q rest (a.put op.dst undef) (w.alloc (.cells cs T))) : wpList P ops Q (op :: rest) a (w.alloc (.cells zs T)) :=
  wpList_store_mid hgd ty x y ho w.heap.size 0 cs hx hy (fun j hj => by
    have hb := blk_new w (.cells zs T)
    have hj' : j < zs.size := by omega
    rw [Nat.zero_add]
    exact ⟨by rw [blk_cell hb (Array.getElem?_eq_getElem hj')]; rfl, blk_free hb⟩) hi h1 (by rw [setCells_new w zs cs T hsz]; exact h)
/-- a whole struct stored into a block that is known -/
theorem wpList_store_blk {P : Program} {ops : Array Oper} {rest : List Oper} {op : Oper} {a : Act} {w : World} {Q : Exit → Act → World → Prop} {zs cs : Array Value} {T : TypeId} (hgd : op.guard = none) (ty : TypeId) (x y : Operand) (ho : op.op = .store ty x y)
    (g : Nat) (hx : a.eval x = .pointer (some ⟨g, 0, none⟩)) (hy : a.eval y = .agg cs) (hg : w.heap[g]? = some (.cells zs T (0, 0))) (hsz : zs.size = cs.size) (hi : (P.info? ty).map (·.size) = some cs.size) (h1 : cs.all (·.oneCell') = true)
    (h : ∀ w', w'.heap[g]? = some (.cells cs T (0, 0)) → (∀ B w0, B ≤ g → Below B w0 w → Below B w0 w') → w'.heap.size = w.heap.size → (∀ k, k ≠ g → w'.heap[k]? = w.heap[k]?) → wpList P ops Q rest (a.put op.dst undef) w') : wpList P ops Q (op :: rest) a w := by
  refine wpList_store_mid hgd ty x y ho g 0 cs hx hy (fun j hj => ?_) hi h1 ?_
  · have hj' : j < zs.size := by omega
    rw [Nat.zero_add]
    exact ⟨by rw [blk_cell hg (Array.getElem?_eq_getElem hj')]; rfl, blk_free hg⟩
  · have e := setCells_block g cs.toList [] zs.toList w T (0, 0) (by simpa using hg) (by simpa using hsz.symm)
    simp only [List.length_nil, List.nil_append] at e
    rw [e]
    refine h _ ?_ (fun B w0 hB hb => ?_) (by simp) (fun k hk => ?_)
    · show (w.heap.setIfInBounds g _)[g]? = _
      rw [Array.getElem?_setIfInBounds_self_of_lt (blk_lt hg)]
    · refine ⟨hb.os, hb.tape, hb.output, by simpa using hb.size, fun k hk => ?_⟩
      show (w.heap.setIfInBounds g _)[k]? = _
      rw [Array.getElem?_setIfInBounds_ne (by omega)]
      exact hb.block k hk
    · show (w.heap.setIfInBounds g _)[k]? = _
      rw [Array.getElem?_setIfInBounds_ne (fun e => hk e.symm)]
/-- the same in a region that is taken operation by operation -/
theorem step_store_blk {P : Program} {ops : Array Oper} {op : Oper} {a : Act} {w : World} {K : Act → World → Prop} {Q : Exit → Act → World → Prop} {E : Prop} {zs cs : Array Value} {T : TypeId} (hgd : op.guard = none) (ty : TypeId) (x y : Operand) (ho : op.op = .store ty x y)
    (g : Nat) (hx : a.eval x = .pointer (some ⟨g, 0, none⟩)) (hy : a.eval y = .agg cs) (hg : w.heap[g]? = some (.cells zs T (0, 0))) (hsz : zs.size = cs.size) (hi : (P.info? ty).map (·.size) = some cs.size) (h1 : cs.all (·.oneCell') = true)
    (h : ∀ w', w'.heap[g]? = some (.cells cs T (0, 0)) → (∀ B w0, B ≤ g → Below B w0 w → Below B w0 w') → w'.heap.size = w.heap.size → (∀ k, k ≠ g → w'.heap[k]? = w.heap[k]?) → K (a.put op.dst undef) w') : if Region.wanted op (yielded ops a.tmps) = true then Oper.wp P op a w K Q else E := by
  rw [if_pos (show Region.wanted op (yielded ops a.tmps) = true by simp [Region.wanted, hgd])]
  refine wp_store_mid ty x y ho g 0 cs hx hy (fun j hj => ?_) hi h1 ?_
  · have hj' : j < zs.size := by omega
    rw [Nat.zero_add]
    exact ⟨by rw [blk_cell hg (Array.getElem?_eq_getElem hj')]; rfl, blk_free hg⟩
  · have e := setCells_block g cs.toList [] zs.toList w T (0, 0) (by simpa using hg) (by simpa using hsz.symm)
    simp only [List.length_nil, List.nil_append] at e
    rw [e]
    refine h _ ?_ (fun B w0 hB hb => ?_) (by simp) (fun k hk => ?_)
    · show (w.heap.setIfInBounds g _)[g]? = _
      rw [Array.getElem?_setIfInBounds_self_of_lt (blk_lt hg)]
    · refine ⟨hb.os, hb.tape, hb.output, by simpa using hb.size, fun k hk => ?_⟩
      show (w.heap.setIfInBounds g _)[k]? = _
      rw [Array.getElem?_setIfInBounds_ne (by omega)]
      exact hb.block k hk
    · show (w.heap.setIfInBounds g _)[k]? = _
      rw [Array.getElem?_setIfInBounds_ne (fun e => hk e.symm)]
end Go.Proofs.YtbogcompeefoaaaDoor
namespace Go.Proofs.YtbogcompeefoaaaDoor
open Go.RowKit
set_option linter.unusedVariables false
section
variable {P : Program} {w w' : World}
theorem own_ne {base base2 size size2 n n2 : Nat} {T T2 : TypeId} {v v2 : Value} {xs xs2 : List Value} (h : w.ownsRow base T size v n xs) (h2 : w.ownsRow base2 T2 size2 v2 n2 xs2) (hT : T ≠ T2) : v.ownBlock = none ∨ v.ownBlock ≠ v2.ownBlock := by
  rcases h.2 with ⟨rfl, e⟩ | ⟨g, cap, cur, rfl, h3, h4, _⟩
  · exact Or.inl rfl
  · rcases h2.2 with ⟨rfl, e⟩ | ⟨g2, cap2, cur2, rfl, h5, h6, _⟩
    · exact Or.inr (by simp [Value.ownBlock])
    · refine Or.inr (fun e => ?_)
      simp only [Value.ownBlock, Option.some.injEq] at e
      subst e
      rw [h4] at h6
      simp only [Option.some.injEq, Obj.cells.injEq] at h6
      exact hT h6.2.1
theorem own_blk {base size n b : Nat} {T T2 : TypeId} {v : Value} {xs : List Value} {cs : Array Value} {fr : Nat × Nat} (h : w.ownsRow base T size v n xs) (h2 : w.heap[b]? = some (.cells cs T2 fr)) (hT : T ≠ T2) : v.ownBlock = none ∨ v.ownBlock ≠ some b := by
  rcases h.2 with ⟨rfl, e⟩ | ⟨g, cap, cur, rfl, h3, h4, _⟩
  · exact Or.inl rfl
  · refine Or.inr (fun e => ?_)
    simp only [Value.ownBlock, Option.some.injEq] at e
    subst e
    rw [h4] at h2
    simp only [Option.some.injEq, Obj.cells.injEq] at h2
    exact hT h2.2.1
theorem blk_kept {b : Nat} {cs : Array Value} {T : TypeId} {fr : Nat × Nat} {r : Option Nat} (h : w.heap[b]? = some (.cells cs T fr)) (hg : w.grownBy w' r) (hr : r = none ∨ r ≠ some b) : w'.heap[b]? = some (.cells cs T fr) := by
  refine (hg.block b (blk_lt h) ?_).trans h
  rcases hr with rfl | hr
  · simp
  · exact fun e => hr e.symm
theorem own_base {base B size n : Nat} {T : TypeId} {v : Value} {xs : List Value} (h : w.ownsRow base T size v n xs) (hB : B ≤ base) : w.ownsRow B T size v n xs := by
  refine ⟨h.1, ?_⟩
  rcases h.2 with h1 | ⟨g, cap, cur, h1, h2, h3⟩
  · exact Or.inl h1
  · exact Or.inr ⟨g, cap, cur, h1, by omega, h3⟩
theorem own_below {base size n : Nat} {T : TypeId} {v : Value} {xs : List Value} (h : w.ownsRow base T size v n xs) (hb : Below w.heap.size w w') : w'.ownsRow base T size v n xs :=
  h.kept (row := none) ⟨hb.os, hb.tape, hb.output, hb.size, fun k hk _ => hb.block k hk⟩ (by cases v.ownBlock <;> simp)
theorem own_form {base size n : Nat} {T : TypeId} {v : Value} {xs : List Value} (h : w.ownsRow base T size v n xs) (hn : 0 < n) : ∃ g cap, v = .slice (some ⟨g, 0, none⟩) n cap ∧ n ≤ cap ∧ cap ≤ maxLen ∧ base ≤ g ∧ g < w.heap.size := by
  rcases h.2 with ⟨rfl, e⟩ | ⟨g, cap, cur, rfl, h1, h2, h3, h4, _⟩
  · omega
  · exact ⟨g, cap, rfl, h3, h4, h1, blk_lt h2⟩
theorem own_slice {base size n : Nat} {T : TypeId} {v : Value} {xs : List Value} (h : w.ownsRow base T size v n xs) : ∃ A cap, v = .slice A n cap ∧ n ≤ maxLen := by
  rcases h.2 with ⟨rfl, e⟩ | ⟨g, cap, cur, rfl, h1, h2, h3, h4, _⟩
  · exact ⟨_, _, by rw [e], by rw [e]; decide⟩
  · exact ⟨_, _, rfl, by omega⟩
/-- the first ones alone -/
theorem own_take {base n m g cap : Nat} {T : TypeId} {xs : List Value} (h : w.ownsRow base T 1 (.slice (some ⟨g, 0, none⟩) n cap) n xs) (hm : m ≤ n) : w.ownsRow base T 1 (.slice (some ⟨g, 0, none⟩) m cap) m (xs.take m) := by
  have hl := h.1
  refine ⟨by simp; omega, ?_⟩
  rcases h.2 with ⟨e, _⟩ | ⟨g', cap', cur, e, h1, h2, h3, h4, h5, h6⟩
  · cases e
  · cases e
    refine Or.inr ⟨g, cap, cur, rfl, h1, h2, by omega, h4, h5, ?_⟩
    rw [← h6, List.take_take, Nat.mul_one, Nat.mul_one, Nat.min_eq_left hm]
theorem grown_trans {w1 w2 : World} {r : Option Nat} (h : w.grownBy w1 r) (k : w1.grownBy w2 r) : w.grownBy w2 r :=
  ⟨k.os.trans h.os, k.tape.trans h.tape, k.output.trans h.output, Nat.le_trans h.size k.size, fun j hj hne => (k.block j (Nat.lt_of_lt_of_le hj h.size) hne).trans (h.block j hj hne)⟩
theorem grown_of_below {r : Option Nat} (h : Below w.heap.size w w') : w.grownBy w' r := ⟨h.os, h.tape, h.output, h.size, fun k hk _ => h.block k hk⟩
theorem below_of_grown {B : Nat} {w0 : World} {r : Option Nat} (hb : Below B w0 w) (hB : B ≤ w0.heap.size) (hg : w.grownBy w' r) (hr : ∀ k, r = some k → B ≤ k) : Below B w0 w' :=
  ⟨hg.os.trans hb.os, hg.tape.trans hb.tape, hg.output.trans hb.output, Nat.le_trans hb.size hg.size, fun k hk => by
    refine (hg.block k (by have := hb.size; omega) (fun e => ?_)).trans (hb.block k hk)
    have := hr k e.symm
    omega⟩
theorem apart_symm {v1 v2 : Value} (h : v2.ownBlock = none ∨ v2.ownBlock ≠ v1.ownBlock) : v1.ownBlock = none ∨ v1.ownBlock ≠ v2.ownBlock := by
  rcases h with h | h
  · rw [h]; cases v1.ownBlock <;> simp
  · exact Or.inr (Ne.symm h)
/-- where an appended row lies now -/
def Moved (w : World) (v v' : Value) : Prop := ∀ k, v'.ownBlock = some k → v.ownBlock = some k ∨ w.heap.size ≤ k
theorem append_row (base : Nat) (t ty e : TypeId) (i : TypeInfo) (z : Value) (bytes : Nat) (ht : P.underlying t = some (.slice e)) (hi : P.info? e = some i) (hz : i.zero = some z)
    (hsize : i.size = 1) (hby : i.bytes = bytes) (hzs : z.cells.size = 1) (v : Value) (n : Nat) (xs : List Value) (hown : w.ownsRow base e 1 v n xs)
    (a : Addr) (m c : Nat) (news : List Value) (hl : news.length = m) (hnews : ∀ j u, news[j]? = some u → w.cell? (a.add j) = some u) (h1 : ∀ u ∈ news, u.oneCell' = true)
    (h63 : n + m ≤ maxLen) (hbytes : (n + m) * bytes ≤ 140737488355328) (hbase : base ≤ w.heap.size) :
    ∃ v' w', (Builtin.append_ #[t, t] ty #[v, .slice (some a) m c]).run P w = .ok v' w' ∧ w'.ownsRow base e 1 v' (n + m) (xs ++ news) ∧ w.grownBy w' v.ownBlock ∧ Moved w v v' := by
  have hl' : news.length = m * 1 := by omega
  rcases hown.2 with ⟨rfl, rfl⟩ | ⟨g, cap, cur, rfl, g1, g2, g3, g4, g5, g6⟩
  · obtain ⟨v', w', r1, r2, r3, _⟩ := run_append_own (P := P) (w := w) w.heap.size t ty e i z 1 bytes ht hi hz hsize hby hzs (by decide) _ 0 xs ⟨hown.1, Or.inl ⟨rfl, rfl⟩⟩ a m c news hl' hnews h1 h63 hbytes (Nat.le_refl _)
    exact ⟨v', w', r1, own_base r2 hbase, r3, fun k hk => Or.inr (r2.lt k hk).1⟩
  · by_cases hc : n + m ≤ cap
    · obtain ⟨v', w', r1, r2, r3, _⟩ := run_append_own (P := P) (w := w) base t ty e i z 1 bytes ht hi hz hsize hby hzs (by decide) _ n xs hown a m c news hl' hnews h1 h63 hbytes hbase
      have hx : xs.length = n := by have := hown.1; omega
      have hr := run_append_room_cells (P := P) (w := w) t ty e i ht hi g 0 n cap a m c news (by rw [hsize]; exact hl') hnews h1 hc (fun j hj => by
          rw [hsize]
          have hjc : n * 1 + j < cur.size := by omega
          have : w.cell? ⟨g, 0 + n * 1 + j, none⟩ = some cur[n * 1 + j] := blk_cell g2 (by rw [show 0 + n * 1 + j = n * 1 + j by omega]; exact Array.getElem?_eq_getElem hjc)
          rw [this]; rfl) (fun j hj => blk_free g2)
      rw [hr] at r1
      simp only [Result.ok.injEq] at r1
      obtain ⟨e1, e2⟩ := r1
      subst e1 e2
      exact ⟨_, _, hr, r2, r3, fun k hk => Or.inl hk⟩
    · have hx : xs.length = n := by have := hown.1; omega
      obtain ⟨v', w', r1, r2, r3⟩ := run_append_arg_grows (P := P) (w := w) t ty e i z 1 bytes ht hi hz hsize hby hzs (by decide) ⟨g, 0, none⟩ n cap xs hown.1 (fun j u hj => by
          have hjn : j < n := by have := (List.getElem?_eq_some_iff.1 hj).1; omega
          rw [Addr.add_lit, Nat.zero_add, hown.cellAt j (by omega)]; exact hj) a m c news hl' hnews (by omega) h63 hbytes
      exact ⟨v', w', r1, own_base r2 hbase, ⟨r3.os, r3.tape, r3.output, r3.size, fun k hk _ => r3.block k hk (by simp)⟩, fun k hk => Or.inr (r2.lt k hk).1⟩
/-- one more, that lies in the newest block -/
theorem append_one (base : Nat) (t e : TypeId) (i : TypeInfo) (z : Value) (bytes : Nat) (ht : P.underlying t = some (.slice e)) (hi : P.info? e = some i) (hz : i.zero = some z)
    (hsize : i.size = 1) (hby : i.bytes = bytes) (hzs : z.cells.size = 1) (v : Value) (n : Nat) (xs : List Value) (hown : w.ownsRow base e 1 v n xs) (x : Value) (g : Nat) (hg : g = w.heap.size) (hx : x.oneCell' = true)
    (h63 : n + 1 ≤ maxLen) (hbytes : (n + 1) * bytes ≤ 140737488355328) (hbase : base ≤ w.heap.size) :
    ∃ v' w', (Builtin.append_ #[t, t] t #[v, .slice (some ⟨g, 0, none⟩) 1 1]).run P (w.alloc (.cells #[x] e)) = .ok v' w' ∧ w'.ownsRow base e 1 v' (n + 1) (xs ++ [x]) ∧ w.grownBy w' v.ownBlock ∧ Moved w v v' := by
  subst hg
  obtain ⟨v', w', r1, r2, r3, r4⟩ := append_row (P := P) (w := w.alloc (.cells #[x] e)) base t t e i z bytes ht hi hz hsize hby hzs v n xs (hown.alloc _) ⟨w.heap.size, 0, none⟩ 1 1 [x] rfl
    (fun j u hj => by
      match j, hj with
      | 0, hj => simp at hj; subst hj; exact blk_cell (blk_new w _) (by rfl)
      | j + 1, hj => simp at hj)
    (fun u hu => by rw [List.mem_singleton.1 hu]; exact hx) h63 hbytes (by simp; omega)
  refine ⟨v', w', r1, r2, grown_trans (w1 := w.alloc (.cells #[x] e)) (World.grownBy_alloc w _ _) r3, fun k hk => ?_⟩
  rcases r4 k hk with h | h
  · exact Or.inl h
  · exact Or.inr (by simp at h; omega)
end
end Go.Proofs.YtbogcompeefoaaaDoor
namespace Go.Proofs.YtbogcompeefoaaaDoor
open Go.RowKit
set_option linter.unusedVariables false
section
variable {P : Program} {w w' : World}
theorem append_rowC (base : Nat) (t ty e : TypeId) (i : TypeInfo) (z : Value) (size bytes : Nat) (ht : P.underlying t = some (.slice e)) (hi : P.info? e = some i) (hz : i.zero = some z)
    (hsize : i.size = size) (hby : i.bytes = bytes) (hzs : z.cells.size = size) (hsz : 0 < size) (v : Value) (n : Nat) (xs : List Value) (hown : w.ownsRow base e size v n xs)
    (a : Addr) (m c : Nat) (news : List Value) (hl : news.length = m * size) (hnews : ∀ j u, news[j]? = some u → w.cell? (a.add j) = some u) (h1 : ∀ u ∈ news, u.oneCell' = true)
    (h63 : n + m ≤ maxLen) (hbytes : (n + m) * bytes ≤ 140737488355328) (hbase : base ≤ w.heap.size) :
    ∃ v' w', (Builtin.append_ #[t, t] ty #[v, .slice (some a) m c]).run P w = .ok v' w' ∧ w'.ownsRow base e size v' (n + m) (xs ++ news) ∧ w.grownBy w' v.ownBlock ∧ Moved w v v' := by
  rcases hown.2 with ⟨rfl, rfl⟩ | ⟨g, cap, cur, rfl, g1, g2, g3, g4, g5, g6⟩
  · obtain ⟨v', w', r1, r2, r3, _⟩ := run_append_own (P := P) (w := w) w.heap.size t ty e i z size bytes ht hi hz hsize hby hzs hsz _ 0 xs ⟨hown.1, Or.inl ⟨rfl, rfl⟩⟩ a m c news hl hnews h1 h63 hbytes (Nat.le_refl _)
    exact ⟨v', w', r1, own_base r2 hbase, r3, fun k hk => Or.inr (r2.lt k hk).1⟩
  · by_cases hc : n + m ≤ cap
    · obtain ⟨v', w', r1, r2, r3, _⟩ := run_append_own (P := P) (w := w) base t ty e i z size bytes ht hi hz hsize hby hzs hsz _ n xs hown a m c news hl hnews h1 h63 hbytes hbase
      have hcs : n * size + m * size ≤ cap * size := by rw [← Nat.add_mul]; exact Nat.mul_le_mul_right _ hc
      have hr := run_append_room_cells (P := P) (w := w) t ty e i ht hi g 0 n cap a m c news (by rw [hsize]; exact hl) hnews h1 hc (fun j hj => by
          rw [hsize]
          have hjc : n * size + j < cur.size := by omega
          have : w.cell? ⟨g, 0 + n * size + j, none⟩ = some cur[n * size + j] := blk_cell g2 (by rw [show 0 + n * size + j = n * size + j by omega]; exact Array.getElem?_eq_getElem hjc)
          rw [this]; rfl) (fun j hj => blk_free g2)
      rw [hr] at r1
      simp only [Result.ok.injEq] at r1
      obtain ⟨e1, e2⟩ := r1
      subst e1 e2
      exact ⟨_, _, hr, r2, r3, fun k hk => Or.inl hk⟩
    · obtain ⟨v', w', r1, r2, r3⟩ := run_append_arg_grows (P := P) (w := w) t ty e i z size bytes ht hi hz hsize hby hzs hsz ⟨g, 0, none⟩ n cap xs hown.1 (fun j u hj => by
          have hx := hown.1
          have hjn : j < n * size := by have := (List.getElem?_eq_some_iff.1 hj).1; omega
          rw [Addr.add_lit, Nat.zero_add, hown.cellAt j hjn]; exact hj) a m c news hl hnews (by omega) h63 hbytes
      exact ⟨v', w', r1, own_base r2 hbase, ⟨r3.os, r3.tape, r3.output, r3.size, fun k hk _ => r3.block k hk (by simp)⟩, fun k hk => Or.inr (r2.lt k hk).1⟩
/-- one struct more, whose cells lie in the newest block -/
theorem append_oneC (base : Nat) (t e : TypeId) (i : TypeInfo) (z : Value) (size bytes : Nat) (ht : P.underlying t = some (.slice e)) (hi : P.info? e = some i) (hz : i.zero = some z)
    (hsize : i.size = size) (hby : i.bytes = bytes) (hzs : z.cells.size = size) (hsz : 0 < size) (v : Value) (n : Nat) (xs : List Value) (hown : w.ownsRow base e size v n xs) (cs : Array Value) (hcs : cs.size = size) (g : Nat) (hg : g = w.heap.size) (h1 : ∀ u ∈ cs.toList, u.oneCell' = true)
    (h63 : n + 1 ≤ maxLen) (hbytes : (n + 1) * bytes ≤ 140737488355328) (hbase : base ≤ w.heap.size) :
    ∃ v' w', (Builtin.append_ #[t, t] t #[v, .slice (some ⟨g, 0, none⟩) 1 1]).run P (w.alloc (.cells cs e)) = .ok v' w' ∧ w'.ownsRow base e size v' (n + 1) (xs ++ cs.toList) ∧ w.grownBy w' v.ownBlock ∧ Moved w v v' := by
  subst hg
  obtain ⟨v', w', r1, r2, r3, r4⟩ := append_rowC (P := P) (w := w.alloc (.cells cs e)) base t t e i z size bytes ht hi hz hsize hby hzs hsz v n xs (hown.alloc _) ⟨w.heap.size, 0, none⟩ 1 1 cs.toList (by simp [hcs])
    (fun j u hj => by
      rw [Addr.add_lit, Nat.zero_add]
      exact blk_cell (blk_new w _) (by rw [← Array.getElem?_toList]; exact hj))
    h1 h63 hbytes (by simp; omega)
  refine ⟨v', w', r1, r2, grown_trans (w1 := w.alloc (.cells cs e)) (World.grownBy_alloc w _ _) r3, fun k hk => ?_⟩
  rcases r4 k hk with h | h
  · exact Or.inl h
  · exact Or.inr (by simp at h; omega)
end
end Go.Proofs.YtbogcompeefoaaaDoor
namespace Go.Proofs.YtbogcompeefoaaaDoor
open Go.RowKit
set_option linter.unusedVariables false
/-- a map's entries are these texts, each true -/
def SetM (es : Array MapEntry) (l : List (List UInt8)) : Prop :=
  es.toList.map (fun e => (e.key, e.val)) = l.map (fun s => (Value.string ⟨⟨s⟩⟩, Value.bool true))
theorem SetM.nil : SetM #[] [] := rfl
theorem SetM.mem {es : Array MapEntry} {l : List (List UInt8)} (h : SetM es l) {e : MapEntry} (he : e ∈ es.toList) : ∃ s ∈ l, e.key = .string ⟨⟨s⟩⟩ ∧ e.val = .bool true := by
  have : (e.key, e.val) ∈ es.toList.map (fun e => (e.key, e.val)) := List.mem_map.2 ⟨e, he, rfl⟩
  rw [h] at this
  obtain ⟨s, h1, h2⟩ := List.mem_map.1 this
  simp only [Prod.mk.injEq] at h2
  exact ⟨s, h1, h2.1.symm, h2.2.symm⟩
theorem SetM.has {es : Array MapEntry} {l : List (List UInt8)} (h : SetM es l) {s : List UInt8} (hs : s ∈ l) : ∃ e ∈ es.toList, e.key = .string ⟨⟨s⟩⟩ := by
  have : (Value.string ⟨⟨s⟩⟩, Value.bool true) ∈ l.map (fun s => (Value.string ⟨⟨s⟩⟩, Value.bool true)) := List.mem_map.2 ⟨s, hs, rfl⟩
  rw [← h] at this
  obtain ⟨e, h1, h2⟩ := List.mem_map.1 this
  simp only [Prod.mk.injEq] at h2
  exact ⟨e, h1, h2.1⟩
theorem SetM.find {es : Array MapEntry} {l : List (List UInt8)} (h : SetM es l) (x : List UInt8) :
    ∃ r, Instr.findNow .string (.string ⟨⟨x⟩⟩) es.toList 0 = some r ∧ ((r = none ∧ x ∉ l) ∨ (∃ j, r = some (j, .bool true)) ∧ x ∈ l) := by
  rcases MapKept.findNow_spec (d := .string) (k := .string ⟨⟨x⟩⟩) (by simp [MapKept.IsKey]) es.toList 0 (fun e he => by obtain ⟨s, _, h2, _⟩ := h.mem he; rw [h2]; simp [MapKept.IsKey]) with ⟨h1, h2⟩ | ⟨j, e, h1, h2, h3⟩
  · refine ⟨none, h1, Or.inl ⟨rfl, fun hx => ?_⟩⟩
    obtain ⟨e, h4, h5⟩ := h.has hx
    exact h2 e h4 h5
  · have he := List.mem_of_getElem? h2
    obtain ⟨s, h4, h5, h6⟩ := h.mem he
    refine ⟨_, h1, Or.inr ⟨⟨0 + j, by rw [h6]⟩, ?_⟩⟩
    rw [h5] at h3
    simp only [Value.string.injEq, ByteArray.mk.injEq, Array.mk.injEq] at h3
    rw [← h3]; exact h4
section
variable {P : Program} {T K E : TypeId} {mp : Nat} {es : Array MapEntry} {clock : Nat} {l : List (List UInt8)} {w : World}
theorem run_lookS (hT : P.underlying T = some (.map K E)) (hK : P.underlying K = some .string) (hz : ∀ w : World, (zeroValue E).run P w = .ok (.bool false) w)
    (hm : w.heap[mp]? = some (.map es clock)) (he : SetM es l) (x : List UInt8) :
    (Instr.lookup T (.map (some mp)) (.string ⟨⟨x⟩⟩) false).run P w = .ok (.bool (decide (x ∈ l))) w := by
  obtain ⟨r, hr, hl⟩ := he.find x
  have hc : ∀ b, (Instr.checkKey b 10000 K (.string ⟨⟨x⟩⟩)).run P w = .ok () w := fun b => MapKept.run_checkKey (k := .string ⟨⟨x⟩⟩) hK (by simp [MapKept.IsKey]) b 9999
  rcases hl with ⟨rfl, hx⟩ | ⟨⟨j, rfl⟩, hx⟩
  · rw [decide_eq_false hx]
    simp [Instr.lookup, run_underlying hT, MapKept.run_getObj_map hm, hc, MapKept.run_findKey hK hr, hz, Result.andThen]
  · rw [decide_eq_true hx]
    simp [Instr.lookup, run_underlying hT, MapKept.run_getObj_map hm, hc, MapKept.run_findKey hK hr, Result.andThen]
theorem run_storeS (hT : P.underlying T = some (.map K E)) (hK : P.underlying K = some .string)
    (hm : w.heap[mp]? = some (.map es clock)) (he : SetM es l) (x : List UInt8) (hx : x ∉ l) :
    (Instr.mapUpdate T (.map (some mp)) (.string ⟨⟨x⟩⟩) (.bool true)).run P w = .ok () { w with heap := w.heap.setIfInBounds mp (.map (es.push { key := .string ⟨⟨x⟩⟩, val := .bool true, born := clock }) (clock + 1)) } := by
  obtain ⟨r, hr, hl⟩ := he.find x
  have hrn : r = none := by
    rcases hl with ⟨h, _⟩ | ⟨_, h⟩
    · exact h
    · exact absurd h hx
  subst hrn
  have hc : ∀ b, (Instr.checkKey b 10000 K (.string ⟨⟨x⟩⟩)).run P w = .ok () w := fun b => MapKept.run_checkKey (k := .string ⟨⟨x⟩⟩) hK (by simp [MapKept.IsKey]) b 9999
  simp [Instr.mapUpdate, run_underlying hT, MapKept.run_getObj_map hm, hc, MapKept.run_findKey hK hr, MapKept.run_setObj_map _ hm, Result.andThen]
end
theorem SetM.push {es : Array MapEntry} {l : List (List UInt8)} (h : SetM es l) (x : List UInt8) (c : Nat) :
    SetM (es.push { key := .string ⟨⟨x⟩⟩, val := .bool true, born := c }) (l ++ [x]) := by
  unfold SetM at *; simp [h]
end Go.Proofs.YtbogcompeefoaaaDoor
