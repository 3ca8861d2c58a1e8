/- Texts cut at a separator whose first byte does not stand ahead of it. read.number: what a text names. Plain facts: bits of whole numbers, one by one and together; no program is named here. Plain: which texts may be labels' names. Laws over any program: whole structs stored into a new variable, loaded out of a block or out of its middle. Laws over any program: rows that the call owns, appended to; rows told apart by what they are of. Laws over any program: rows of whole structs that the call owns, appended to. Numbers by texts, a map as it stands in memory: looking up, storing. No condition. -/
import Derived.Test.YtmmpkkpmlaiapaaGreatDoorLib
import Derived.Shelf.Strings.Split
import Derived.Shelf.Strings.Cut
import Derived.Test.YtmmpkkpmlaiapaaGreatDoorGl
import Derived.Test.YtmmpkkpmlaiapaaGreatDoorShelf
import Derived.Lib.AppendIntMem
import Derived.Test.YtmmpkkpmlaiapaaGreatDoorChecked
import Derived.Deep.MidRow
import Derived.Lib.Hide
import Derived.ArgAppend
import Derived.Laws.OwnMore
import Derived.OwnWalk
import Derived.OneCell
namespace Go.Proofs.YtmmpkkpmlaiapaaGreatDoor
open Go.RowKit
set_option linter.unusedVariables false
theorem index_none (c : UInt8) (r : List UInt8) : ∀ (a : List UInt8), c ∉ a → Lib.index a (c :: r) = -1
  | [], _ => by unfold Lib.index; rfl
  | x :: a, h => by
    simp only [List.mem_cons, not_or] at h
    have hp : (c :: r).isPrefixOf (x :: a) = false := by
      rw [List.isPrefixOf_cons_cons]
      have : (c == x) = false := by simpa using h.1
      rw [this]; rfl
    unfold Lib.index
    rw [hp, index_none c r a h.2]
    rfl
theorem index_app (c : UInt8) (r b : List UInt8) : ∀ (a : List UInt8), c ∉ a → Lib.index (a ++ (c :: r ++ b)) (c :: r) = (a.length : Int)
  | [], _ => by
    have hp : (c :: r).isPrefixOf (c :: (r ++ b)) = true := by
      rw [List.isPrefixOf_iff_prefix]
      exact ⟨b, rfl⟩
    show Lib.index (c :: (r ++ b)) (c :: r) = 0
    unfold Lib.index
    rw [hp]; rfl
  | x :: a, h => by
    simp only [List.mem_cons, not_or] at h
    have hp : (c :: r).isPrefixOf (x :: (a ++ (c :: r ++ b))) = false := by
      rw [List.isPrefixOf_cons_cons]
      have : (c == x) = false := by simpa using h.1
      rw [this]; rfl
    show Lib.index (x :: (a ++ (c :: r ++ b))) (c :: r) = _
    unfold Lib.index
    rw [hp, index_app c r b a h.2]
    have h2 : ((a.length : Int) == -1) = false := by simp
    rw [h2]
    simp
theorem cut_none {c : UInt8} {a : List UInt8} (h : c ∉ a) : Lib.cut a [c] = (a, [], false) := by
  unfold Lib.cut
  rw [index_none c [] a h]
  rfl
theorem cut_app {c : UInt8} {a : List UInt8} (b : List UInt8) (h : c ∉ a) : Lib.cut (a ++ c :: b) [c] = (a, b, true) := by
  unfold Lib.cut
  have e : Lib.index (a ++ c :: b) [c] = (a.length : Int) := index_app c [] b a h
  rw [e, if_pos (by omega)]
  simp
theorem split_one {c : UInt8} {r a : List UInt8} (h : c ∉ a) : Lib.splitB ⟨⟨c :: r⟩⟩ 0 (Lib.countB ⟨⟨a⟩⟩ ⟨⟨c :: r⟩⟩) ⟨⟨a⟩⟩ = [⟨⟨a⟩⟩] := Lib.splitB_miss _ _ _ _ (index_none c r a h)
theorem extract_list (l : List UInt8) (i j : Nat) : (⟨⟨l⟩⟩ : ByteArray).extract i j = ⟨⟨(l.take j).drop i⟩⟩ := by
  apply ByteArray.ext
  apply Array.ext'
  simp [ByteArray.extract, ByteArray.copySlice, List.extract, List.drop_take]
theorem split_more {c : UInt8} {r a b : List UInt8} (h : c ∉ a) : Lib.splitB ⟨⟨c :: r⟩⟩ 0 (Lib.countB ⟨⟨a ++ (c :: r ++ b)⟩⟩ ⟨⟨c :: r⟩⟩) ⟨⟨a ++ (c :: r ++ b)⟩⟩ = ⟨⟨a⟩⟩ :: Lib.splitB ⟨⟨c :: r⟩⟩ 0 (Lib.countB ⟨⟨b⟩⟩ ⟨⟨c :: r⟩⟩) ⟨⟨b⟩⟩ := by
  have hi : Lib.indexB ⟨⟨a ++ (c :: r ++ b)⟩⟩ ⟨⟨c :: r⟩⟩ = (a.length : Int) := index_app c r b a h
  have hsz : (⟨⟨c :: r⟩⟩ : ByteArray).size = r.length + 1 := rfl
  have hsz2 : (⟨⟨a ++ (c :: r ++ b)⟩⟩ : ByteArray).size = (a ++ (c :: r ++ b)).length := rfl
  have e1 : (⟨⟨a ++ (c :: r ++ b)⟩⟩ : ByteArray).extract (a.length + (⟨⟨c :: r⟩⟩ : ByteArray).size) (⟨⟨a ++ (c :: r ++ b)⟩⟩ : ByteArray).size = ⟨⟨b⟩⟩ := by
    rw [extract_list, hsz, hsz2, List.take_length]
    congr 2
    rw [← List.drop_drop, List.drop_left]
    show List.drop (r.length + 1) (c :: (r ++ b)) = b
    rw [List.drop_succ_cons, List.drop_left]
  have e2 : (⟨⟨a ++ (c :: r ++ b)⟩⟩ : ByteArray).extract 0 (a.length + 0) = ⟨⟨a⟩⟩ := by
    rw [extract_list, Nat.add_zero, List.take_left, List.drop_zero]
  rw [Lib.countB_hit _ _ a.length (by rw [hsz]; omega) hi, Nat.add_comm 1, Lib.splitB_hit _ _ _ _ _ hi, e1, e2]
end Go.Proofs.YtmmpkkpmlaiapaaGreatDoor
namespace Go.Proofs.YtmmpkkpmlaiapaaGreatDoor
open Go.RowKit
set_option linter.unusedVariables false
set_option maxHeartbeats 4000000
structure RdOk (w : World) : Prop where
  ml : ∃ m, w.cell? ⟨0, 0, none⟩ = some (.int .i64 m)
  es : ∃ ev, w.cell? ⟨6, 0, none⟩ = some ev ∧ (ev = .nilIface ∨ ∃ te pe, ev = .iface te pe)
  er : ∃ ev, w.cell? ⟨7, 0, none⟩ = some ev ∧ (ev = .nilIface ∨ ∃ te pe, ev = .iface te pe)
  pw : PowOk w
theorem laterR {w w' : World} {a : Addr} {v : Value} (h : w.cell? a = some v) (hb : Below w.heap.size w w') : w'.cell? a = some v := (hb.cell (World.block_lt_of_cell? w _ h)).trans h
theorem RdOk.later {w w' : World} (h : RdOk w) (hb : Below w.heap.size w w') : RdOk w' := by
  obtain ⟨⟨m, h1⟩, ⟨e1, h2, h3⟩, ⟨e2, h4, h5⟩, h6⟩ := h
  exact ⟨⟨m, laterR h1 hb⟩, ⟨e1, laterR h2 hb, h3⟩, ⟨e2, laterR h4 hb, h5⟩, h6.below hb⟩
def numF (s : List UInt8) : Option Int := match Lib.parseIntB 64 s with | .ok v => if Lib.itoa v = s then some v else none | _ => none
theorem parse_in {s : List UInt8} {v : Int} (h : Lib.parseIntB 64 s = .ok v) : In64 v := by
  unfold Lib.parseIntB at h
  split at h
  · cases h
  · rename_i c r
    simp only at h
    split at h
    · cases h
    · cases h
    · rename_i u hu
      split at h
      · cases h
      · rename_i h1
        split at h
        · cases h
        · rename_i h2
          simp only [Lib.NumEnd.ok.injEq] at h
          subst h
          unfold In64
          by_cases hn : c.toNat = 45
          · rw [if_pos hn]
            have : ¬ 2 ^ (64 - 1) < u := fun h3 => h2 ⟨hn, h3⟩
            omega
          · rw [if_neg hn]
            have : ¬ 2 ^ (64 - 1) ≤ u := fun h3 => h1 ⟨hn, h3⟩
            omega
theorem sat_in (s : List UInt8) : In64 (Lib.intSat 64 s) := by
  unfold Lib.intSat In64
  split <;> decide
theorem bytes_below (w : World) (T : TypeId) (t : ByteArray) : Below w.heap.size w (Lib.bytesWorld w T t) := by
  refine ⟨?_, ?_, ?_, by rw [Lib.bytesWorld_size]; omega, fun j hj => Lib.bytesWorld_at_old w T t j hj⟩
  all_goals (unfold Lib.bytesWorld World.freeze; rw [if_neg (by decide)]; rfl)
def ParO (s : ByteArray) (w : World) (e : Ending) (w' : World) : Prop := Below w.heap.size w w' ∧ ((∃ v, Lib.parseIntB 64 s.data.toList = .ok v ∧ e = .returned (.tuple #[.int .i64 v, .nilIface])) ∨ ((∀ v, Lib.parseIntB 64 s.data.toList ≠ .ok v) ∧ ∃ v T p, In64 v ∧ e = .returned (.tuple #[.int .i64 v, .iface T p])))
theorem parse_any (w : World) (hR : RdOk w) (s : ByteArray) (hs : s.size ≤ 1000000) : Calls Tryz.prog 77 #[.string s, .int .i64 10, .int .i64 64] w (ParO s w) := by
  cases hp : Lib.parseIntB 64 s.data.toList with
  | ok v =>
    refine (Tryz.strconv_ParseInt_10_at64_ok s (by omega) v hp w).mono ?_
    rintro e w' ⟨h1, h2⟩
    refine ⟨?_, Or.inl ⟨v, hp, h1⟩⟩
    rcases h2 with h | ⟨t, h⟩
    · subst h; exact Below.refl _ _
    · subst h; exact bytes_below _ _ _
  | range =>
    obtain ⟨ev, h1, h2⟩ := hR.er
    refine (Tryz.strconv_ParseInt_10_at64_range s (by omega) hp ev w h1 h2).mono ?_
    rintro e w' ⟨N, h3, _, _, h4⟩
    exact ⟨h4, Or.inr ⟨fun v => by rw [hp]; simp, _, _, _, sat_in _, h3⟩⟩
  | _ =>
    obtain ⟨ev, h1, h2⟩ := hR.es
    refine (Tryz.strconv_ParseInt_10_at64_syntax s (by omega) (fun v => by rw [hp]; simp) (by rw [hp]; simp) ev w h1 h2).mono ?_
    rintro e w' ⟨N, h3, _, _, h4⟩
    exact ⟨h4, Or.inr ⟨fun v => by rw [hp]; simp, 0, _, _, by unfold In64; decide, h3⟩⟩
theorem fmt10 (w : World) (hP : PowOk w) (n : Int) (h : In64 n) : Calls Tryz.prog 72 #[.int .i64 n, .int .i64 10] w fun e w' => e = .returned (.string ⟨⟨Lib.itoa n⟩⟩) ∧ Below w.heap.size w w' :=
  (Tryz.strconv_FormatInt_10 n h.1 h.2 w hP.1).mono (fun e w' ⟨h1, k, os, h2⟩ => ⟨h1, by rw [h2]; exact Lib.below_grow _ w (Nat.le_refl _) k os⟩)
def NumO (s : ByteArray) (w : World) (e : Ending) (w' : World) : Prop := ∃ v, In64 v ∧ e = .returned (.tuple #[.int .i64 v, .bool (numF s.data.toList).isSome]) ∧ (∀ u, numF s.data.toList = some u → v = u) ∧ Below w.heap.size w w'
theorem number_any (w : World) (hR : RdOk w) (s : ByteArray) (hs : s.size ≤ 1000000) : Calls Tryz.prog 63 #[.string s] w (NumO s w) := by
  have HR := Lib.hid hR
  have HS := Lib.hid hs
  clear hR hs
  go_enter Tryz.func63, Tryz.ntmps63
  go_wp2_with fail
  refine (parse_any w HR.out s HS.out).mono ?_
  rintro e w1 ⟨hb, hp⟩
  have HB := Lib.hid hb
  clear hb
  rcases hp with ⟨v, hv, rfl⟩ | ⟨hn, v, T, p, hi, rfl⟩
  · have HV := Lib.hid hv
    clear hv
    have HF := Lib.hid (fmt10 w1 (HR.out.later HB.out).pw v (parse_in HV.out))
    go_wp2_with fail
    refine HF.out.mono ?_
    rintro e w2 ⟨rfl, hb2⟩
    have HB2 := Lib.hid (HB.out.trans (hb2.mono HB.out.size))
    clear hb2
    go_wp2_with fail
    go_returns
    have h0 : numF s.data.toList = if Lib.itoa v = s.data.toList then some v else none := by
      unfold numF
      rw [HV.out]
    refine ⟨v, parse_in HV.out, ?_, fun u hu => ?_, HB2.out⟩
    · rw [h0, Lib.toList_data]
      by_cases h1 : Lib.itoa v = s.data.toList
      · rw [if_pos h1, beq_iff_eq.2 h1]; rfl
      · rw [if_neg h1, beq_eq_false_iff_ne.2 h1]; rfl
    · rw [h0] at hu
      by_cases h1 : Lib.itoa v = s.data.toList
      · rw [if_pos h1] at hu; cases hu; rfl
      · rw [if_neg h1] at hu; cases hu
  · have HNO := Lib.hid hn
    have HI := Lib.hid hi
    clear hn hi
    go_wp2_with fail
    go_returns
    have h0 : numF s.data.toList = none := by
      unfold numF
      cases hp : Lib.parseIntB 64 s.data.toList with
      | ok u => exact absurd hp (HNO.out u)
      | range => rfl
      | _ => rfl
    exact ⟨v, HI.out, by rw [h0]; rfl, (fun u hu => by rw [h0] at hu; cases hu), HB.out⟩
end Go.Proofs.YtmmpkkpmlaiapaaGreatDoor
namespace Go.Proofs.YtmmpkkpmlaiapaaGreatDoor
open Go.RowKit
end Go.Proofs.YtmmpkkpmlaiapaaGreatDoor
namespace Go.Proofs.YtmmpkkpmlaiapaaGreatDoor
open Go.RowKit
set_option linter.unusedVariables false
def wordN (n : Nat) : Bool := decide (97 ≤ n ∧ n ≤ 122) || decide (65 ≤ n ∧ n ≤ 90) || n == 95 || n == 46
def digN (n : Nat) : Bool := decide (48 ≤ n ∧ n ≤ 57)
def okAt (i n : Nat) : Bool := wordN n || (decide (0 < i) && digN n)
def okTo (s : ByteArray) (k : Nat) : Prop := ∀ j, (h : j < s.size) → j < k → okAt j (s[j]'h).toNat = true
instance (s : ByteArray) (k : Nat) : Decidable (okTo s k) := by unfold okTo; exact inferInstance
def namedB (s : ByteArray) : Bool := decide (0 < s.size ∧ s.size ≤ 60) && decide (okTo s s.size)
theorem okTo_succ {s : ByteArray} {k : Nat} (h : okTo s k) (hk : k < s.size) (ho : okAt k (s[k]'hk).toNat = true) : okTo s (k + 1) := fun j hj hl => by
  by_cases e : j = k
  · subst e; exact ho
  · exact h j hj (by omega)
theorem okTo_not {s : ByteArray} {k : Nat} (hk : k < s.size) (ho : okAt k (s[k]'hk).toNat = false) : ¬ okTo s s.size := fun h => by
  have := h k hk hk
  rw [ho] at this; cases this
theorem named_no {s : ByteArray} {k : Nat} (hk : k < s.size) (ho : okAt k (s[k]'hk).toNat = false) : namedB s = false := by
  unfold namedB
  rw [decide_eq_false (okTo_not hk ho), Bool.and_false]
theorem named_long {s : ByteArray} (h : ¬ (0 < s.size ∧ s.size ≤ 60)) : namedB s = false := by unfold namedB; rw [decide_eq_false h, Bool.false_and]
theorem named_yes {s : ByteArray} (h : 0 < s.size ∧ s.size ≤ 60) (ho : okTo s s.size) : namedB s = true := by unfold namedB; rw [decide_eq_true h, decide_eq_true ho]; rfl
theorem ok_word {i n : Nat} (h : wordN n = true) : okAt i n = true := by unfold okAt; rw [h]; rfl
theorem ok_dig {i n : Nat} (h : digN n = true) (hi : 0 < i) : okAt i n = true := by unfold okAt; rw [h, decide_eq_true hi]; simp
theorem ok_dig0 {n : Nat} (hw : wordN n = false) : okAt 0 n = false := by unfold okAt; rw [hw]; simp
theorem ok_bad {i n : Nat} (hw : wordN n = false) (hd : digN n = false) : okAt i n = false := by unfold okAt; rw [hw, hd]; simp
end Go.Proofs.YtmmpkkpmlaiapaaGreatDoor
namespace Go.Proofs.YtmmpkkpmlaiapaaGreatDoor
open Go.RowKit
set_option linter.unusedVariables false
theorem below_drewN {B : Nat} {w x : World} (h : Below B w x) (n : Nat) : Below B w (x.drewN n) := ⟨h.os, h.tape, h.output, h.size, h.block⟩
theorem setCells_block (b : Nat) : ∀ (vs pre post : List Value) (w : World) (T : TypeId) (fr : Nat × Nat), w.heap[b]? = some (.cells (pre ++ post).toArray T fr) → vs.length = post.length →
    w.setCells b pre.length vs = { w with heap := w.heap.setIfInBounds b (.cells (pre ++ vs).toArray T fr) }
  | [], pre, post, w, T, fr, h, hl => by
    have : post = [] := by cases post with | nil => rfl | cons _ _ => simp at hl
    subst this
    have hb := blk_lt h
    unfold World.setCells
    have e : w.heap.setIfInBounds b (.cells (pre ++ []).toArray T fr) = w.heap := by
      apply Array.ext_getElem?
      intro i
      by_cases hi : i = b
      · subst hi; rw [Array.getElem?_setIfInBounds_self_of_lt hb, h]
      · rw [Array.getElem?_setIfInBounds_ne (fun e => hi e.symm)]
    rw [e]
  | v :: vs, pre, [], w, T, fr, h, hl => by simp at hl
  | v :: vs, pre, p :: post, w, T, fr, h, hl => by
    have hb := blk_lt h
    unfold World.setCells
    have h1 : (w.setCell ⟨b, pre.length, none⟩ v).heap[b]? = some (.cells ((pre ++ [v]) ++ post).toArray T fr) := by
      rw [blk_setCell h v]
      congr 2
      apply Array.ext_getElem?
      intro i
      simp only [List.append_assoc, List.cons_append, List.nil_append, Array.getElem?_setIfInBounds, List.size_toArray, List.getElem?_toArray]
      by_cases hi : pre.length = i
      · subst hi; simp
      · rw [if_neg hi]
        rcases Nat.lt_or_ge i pre.length with hlt | hge
        · rw [List.getElem?_append_left hlt, List.getElem?_append_left hlt]
        · obtain ⟨k, hk⟩ : ∃ k, i = pre.length + 1 + k := ⟨i - pre.length - 1, by omega⟩
          subst hk
          rw [List.getElem?_append_right (by omega), List.getElem?_append_right (by omega)]
          have : pre.length + 1 + k - pre.length = k + 1 := by omega
          rw [this]; rfl
    have ih := setCells_block b vs (pre ++ [v]) post (w.setCell ⟨b, pre.length, none⟩ v) T fr h1 (by simpa using hl)
    rw [List.length_append, List.length_singleton] at ih
    rw [ih]
    simp only [World.setCell, List.append_assoc, List.cons_append, List.nil_append]
    congr 1
    apply Array.ext_getElem?
    intro i
    by_cases hi : i = b
    · subst hi
      rw [Array.getElem?_setIfInBounds_self_of_lt (by simpa using hb), Array.getElem?_setIfInBounds_self_of_lt hb]
    · rw [Array.getElem?_setIfInBounds_ne (fun e => hi e.symm), Array.getElem?_setIfInBounds_ne (fun e => hi e.symm), Array.getElem?_modify]
      rw [if_neg (fun e => hi e.symm)]
theorem setCells_new (w : World) (zs cs : Array Value) (T : TypeId) (hsz : zs.size = cs.size) :
    (w.alloc (.cells zs T)).setCells w.heap.size 0 cs.toList = w.alloc (.cells cs T) := by
  have := setCells_block w.heap.size cs.toList [] zs.toList (w.alloc (.cells zs T)) T (0, 0) (by simpa using blk_new w (.cells zs T)) (by simpa using hsz.symm)
  simp only [List.length_nil, List.nil_append] at this
  rw [this]
  simp only [World.alloc]
  congr 1
  apply Array.ext_getElem?
  intro i
  by_cases hi : i = w.heap.size
  · subst hi
    rw [Array.getElem?_setIfInBounds_self_of_lt (by simp)]
    simp
  · rw [Array.getElem?_setIfInBounds_ne (fun e => hi e.symm)]
    rcases Nat.lt_or_ge i w.heap.size with h | h
    · rw [Array.getElem?_push_lt h, Array.getElem?_push_lt h]
    · rw [Array.getElem?_eq_none (by simp; omega), Array.getElem?_eq_none (by simp; omega)]
theorem wpList_store_new {P : Program} {ops : Array Oper} {rest : List Oper} {op : Oper} {a : Act} {w : World} {Q : Exit → Act → World → Prop} {zs cs : Array Value} {T : TypeId} (hgd : op.guard = none) (ty : TypeId) (x y : Operand) (ho : op.op = .store ty x y)
    (hx : a.eval x = .pointer (some ⟨w.heap.size, 0, none⟩)) (hy : a.eval y = .agg cs) (hsz : zs.size = cs.size) (hi : (P.info? ty).map (·.size) = some cs.size) (h1 : cs.all (·.oneCell') = true)
    (h : wpList P ops Q rest (a.put op.dst undef) (w.alloc (.cells cs T))) : wpList P ops Q (op :: rest) a (w.alloc (.cells zs T)) :=
  wpList_store_mid hgd ty x y ho w.heap.size 0 cs hx hy (fun j hj => by
    have hb := blk_new w (.cells zs T)
    have hj' : j < zs.size := by omega
    rw [Nat.zero_add]
    exact ⟨by rw [blk_cell hb (Array.getElem?_eq_getElem hj')]; rfl, blk_free hb⟩) hi h1 (by rw [setCells_new w zs cs T hsz]; exact h)
theorem wpList_store_blk {P : Program} {ops : Array Oper} {rest : List Oper} {op : Oper} {a : Act} {w : World} {Q : Exit → Act → World → Prop} {zs cs : Array Value} {T : TypeId} (hgd : op.guard = none) (ty : TypeId) (x y : Operand) (ho : op.op = .store ty x y)
    (g : Nat) (hx : a.eval x = .pointer (some ⟨g, 0, none⟩)) (hy : a.eval y = .agg cs) (hg : w.heap[g]? = some (.cells zs T (0, 0))) (hsz : zs.size = cs.size) (hi : (P.info? ty).map (·.size) = some cs.size) (h1 : cs.all (·.oneCell') = true)
    (h : ∀ w', w'.heap[g]? = some (.cells cs T (0, 0)) → (∀ B w0, B ≤ g → Below B w0 w → Below B w0 w') → w'.heap.size = w.heap.size → (∀ k, k ≠ g → w'.heap[k]? = w.heap[k]?) → wpList P ops Q rest (a.put op.dst undef) w') : wpList P ops Q (op :: rest) a w := by
  refine wpList_store_mid hgd ty x y ho g 0 cs hx hy (fun j hj => ?_) hi h1 ?_
  · have hj' : j < zs.size := by omega
    rw [Nat.zero_add]
    exact ⟨by rw [blk_cell hg (Array.getElem?_eq_getElem hj')]; rfl, blk_free hg⟩
  · have e := setCells_block g cs.toList [] zs.toList w T (0, 0) (by simpa using hg) (by simpa using hsz.symm)
    simp only [List.length_nil, List.nil_append] at e
    rw [e]
    refine h _ ?_ (fun B w0 hB hb => ?_) (by simp) (fun k hk => ?_)
    · show (w.heap.setIfInBounds g _)[g]? = _
      rw [Array.getElem?_setIfInBounds_self_of_lt (blk_lt hg)]
    · refine ⟨hb.os, hb.tape, hb.output, by simpa using hb.size, fun k hk => ?_⟩
      show (w.heap.setIfInBounds g _)[k]? = _
      rw [Array.getElem?_setIfInBounds_ne (by omega)]
      exact hb.block k hk
    · show (w.heap.setIfInBounds g _)[k]? = _
      rw [Array.getElem?_setIfInBounds_ne (fun e => hk e.symm)]
theorem step_store_blk {P : Program} {ops : Array Oper} {op : Oper} {a : Act} {w : World} {K : Act → World → Prop} {Q : Exit → Act → World → Prop} {E : Prop} {zs cs : Array Value} {T : TypeId} (hgd : op.guard = none) (ty : TypeId) (x y : Operand) (ho : op.op = .store ty x y)
    (g : Nat) (hx : a.eval x = .pointer (some ⟨g, 0, none⟩)) (hy : a.eval y = .agg cs) (hg : w.heap[g]? = some (.cells zs T (0, 0))) (hsz : zs.size = cs.size) (hi : (P.info? ty).map (·.size) = some cs.size) (h1 : cs.all (·.oneCell') = true)
    (h : ∀ w', w'.heap[g]? = some (.cells cs T (0, 0)) → (∀ B w0, B ≤ g → Below B w0 w → Below B w0 w') → w'.heap.size = w.heap.size → (∀ k, k ≠ g → w'.heap[k]? = w.heap[k]?) → K (a.put op.dst undef) w') : if Region.wanted op (yielded ops a.tmps) = true then Oper.wp P op a w K Q else E := by
  rw [if_pos (show Region.wanted op (yielded ops a.tmps) = true by simp [Region.wanted, hgd])]
  refine wp_store_mid ty x y ho g 0 cs hx hy (fun j hj => ?_) hi h1 ?_
  · have hj' : j < zs.size := by omega
    rw [Nat.zero_add]
    exact ⟨by rw [blk_cell hg (Array.getElem?_eq_getElem hj')]; rfl, blk_free hg⟩
  · have e := setCells_block g cs.toList [] zs.toList w T (0, 0) (by simpa using hg) (by simpa using hsz.symm)
    simp only [List.length_nil, List.nil_append] at e
    rw [e]
    refine h _ ?_ (fun B w0 hB hb => ?_) (by simp) (fun k hk => ?_)
    · show (w.heap.setIfInBounds g _)[g]? = _
      rw [Array.getElem?_setIfInBounds_self_of_lt (blk_lt hg)]
    · refine ⟨hb.os, hb.tape, hb.output, by simpa using hb.size, fun k hk => ?_⟩
      show (w.heap.setIfInBounds g _)[k]? = _
      rw [Array.getElem?_setIfInBounds_ne (by omega)]
      exact hb.block k hk
    · show (w.heap.setIfInBounds g _)[k]? = _
      rw [Array.getElem?_setIfInBounds_ne (fun e => hk e.symm)]
theorem wsx {ops : Array Oper} {rest : List Oper} {op : Oper} {a : Act} {w : World} {Q : Exit → Act → World → Prop} {z0 z1 z2 z3 z4 z5 z6 z7 : Value} {cs : Array Value} {x y : Operand} (g : Nat) (hgd : op.guard = none) (ho : op.op = .store 23 x y) (hx : a.eval x = .pointer (some ⟨g, 0, none⟩)) (hy : a.eval y = .agg cs)
    (hg : RowKit.Hid (w.heap[g]? = some (.cells #[z0, z1, z2, z3, z4, z5, z6, z7] 23 (0, 0)))) (hs : ((cs.size == 8) && cs.all (·.oneCell')) = true)
    (h : ∀ w', w'.heap[g]? = some (.cells cs 23 (0, 0)) → (∀ B w0, B ≤ g → Below B w0 w → Below B w0 w') → w'.heap.size = w.heap.size → (∀ k, k ≠ g → w'.heap[k]? = w.heap[k]?) → wpList Tryz.prog ops Q rest (a.put op.dst undef) w') : wpList Tryz.prog ops Q (op :: rest) a w := by
  rw [Bool.and_eq_true, beq_iff_eq] at hs
  exact wpList_store_blk hgd 23 x y ho g hx hy hg.out (by rw [hs.1]; rfl) (by rw [hs.1]; kernel_rfl) hs.2 h
end Go.Proofs.YtmmpkkpmlaiapaaGreatDoor
namespace Go.Proofs.YtmmpkkpmlaiapaaGreatDoor
open Go.RowKit
set_option linter.unusedVariables false
section
variable {P : Program} {w w' : World}
theorem own_base {base B size n : Nat} {T : TypeId} {v : Value} {xs : List Value} (h : w.ownsRow base T size v n xs) (hB : B ≤ base) : w.ownsRow B T size v n xs := by
  refine ⟨h.1, ?_⟩
  rcases h.2 with h1 | ⟨g, cap, cur, h1, h2, h3⟩
  · exact Or.inl h1
  · exact Or.inr ⟨g, cap, cur, h1, by omega, h3⟩
theorem own_below {base size n : Nat} {T : TypeId} {v : Value} {xs : List Value} (h : w.ownsRow base T size v n xs) (hb : Below w.heap.size w w') : w'.ownsRow base T size v n xs :=
  h.kept (row := none) ⟨hb.os, hb.tape, hb.output, hb.size, fun k hk _ => hb.block k hk⟩ (by cases v.ownBlock <;> simp)
theorem own_form {base size n : Nat} {T : TypeId} {v : Value} {xs : List Value} (h : w.ownsRow base T size v n xs) (hn : 0 < n) : ∃ g cap, v = .slice (some ⟨g, 0, none⟩) n cap ∧ n ≤ cap ∧ cap ≤ maxLen ∧ base ≤ g ∧ g < w.heap.size := by
  rcases h.2 with ⟨rfl, e⟩ | ⟨g, cap, cur, rfl, h1, h2, h3, h4, _⟩
  · omega
  · exact ⟨g, cap, rfl, h3, h4, h1, blk_lt h2⟩
theorem own_slice {base size n : Nat} {T : TypeId} {v : Value} {xs : List Value} (h : w.ownsRow base T size v n xs) : ∃ A cap, v = .slice A n cap ∧ n ≤ maxLen := by
  rcases h.2 with ⟨rfl, e⟩ | ⟨g, cap, cur, rfl, h1, h2, h3, h4, _⟩
  · exact ⟨_, _, by rw [e], by rw [e]; decide⟩
  · exact ⟨_, _, rfl, by omega⟩
theorem grown_trans {w1 w2 : World} {r : Option Nat} (h : w.grownBy w1 r) (k : w1.grownBy w2 r) : w.grownBy w2 r :=
  ⟨k.os.trans h.os, k.tape.trans h.tape, k.output.trans h.output, Nat.le_trans h.size k.size, fun j hj hne => (k.block j (Nat.lt_of_lt_of_le hj h.size) hne).trans (h.block j hj hne)⟩
theorem below_of_grown {B : Nat} {w0 : World} {r : Option Nat} (hb : Below B w0 w) (hB : B ≤ w0.heap.size) (hg : w.grownBy w' r) (hr : ∀ k, r = some k → B ≤ k) : Below B w0 w' :=
  ⟨hg.os.trans hb.os, hg.tape.trans hb.tape, hg.output.trans hb.output, Nat.le_trans hb.size hg.size, fun k hk => by
    refine (hg.block k (by have := hb.size; omega) (fun e => ?_)).trans (hb.block k hk)
    have := hr k e.symm
    omega⟩
def Moved (w : World) (v v' : Value) : Prop := ∀ k, v'.ownBlock = some k → v.ownBlock = some k ∨ w.heap.size ≤ k
end
end Go.Proofs.YtmmpkkpmlaiapaaGreatDoor
namespace Go.Proofs.YtmmpkkpmlaiapaaGreatDoor
open Go.RowKit
set_option linter.unusedVariables false
section
variable {P : Program} {w w' : World}
theorem append_rowC (base : Nat) (t ty e : TypeId) (i : TypeInfo) (z : Value) (size bytes : Nat) (ht : P.underlying t = some (.slice e)) (hi : P.info? e = some i) (hz : i.zero = some z)
    (hsize : i.size = size) (hby : i.bytes = bytes) (hzs : z.cells.size = size) (hsz : 0 < size) (v : Value) (n : Nat) (xs : List Value) (hown : w.ownsRow base e size v n xs)
    (a : Addr) (m c : Nat) (news : List Value) (hl : news.length = m * size) (hnews : ∀ j u, news[j]? = some u → w.cell? (a.add j) = some u) (h1 : ∀ u ∈ news, u.oneCell' = true)
    (h63 : n + m ≤ maxLen) (hbytes : (n + m) * bytes ≤ 140737488355328) (hbase : base ≤ w.heap.size) :
    ∃ v' w', (Builtin.append_ #[t, t] ty #[v, .slice (some a) m c]).run P w = .ok v' w' ∧ w'.ownsRow base e size v' (n + m) (xs ++ news) ∧ w.grownBy w' v.ownBlock ∧ Moved w v v' := by
  rcases hown.2 with ⟨rfl, rfl⟩ | ⟨g, cap, cur, rfl, g1, g2, g3, g4, g5, g6⟩
  · obtain ⟨v', w', r1, r2, r3, _⟩ := run_append_own (P := P) (w := w) w.heap.size t ty e i z size bytes ht hi hz hsize hby hzs hsz _ 0 xs ⟨hown.1, Or.inl ⟨rfl, rfl⟩⟩ a m c news hl hnews h1 h63 hbytes (Nat.le_refl _)
    exact ⟨v', w', r1, own_base r2 hbase, r3, fun k hk => Or.inr (r2.lt k hk).1⟩
  · by_cases hc : n + m ≤ cap
    · obtain ⟨v', w', r1, r2, r3, _⟩ := run_append_own (P := P) (w := w) base t ty e i z size bytes ht hi hz hsize hby hzs hsz _ n xs hown a m c news hl hnews h1 h63 hbytes hbase
      have hcs : n * size + m * size ≤ cap * size := by rw [← Nat.add_mul]; exact Nat.mul_le_mul_right _ hc
      have hr := run_append_room_cells (P := P) (w := w) t ty e i ht hi g 0 n cap a m c news (by rw [hsize]; exact hl) hnews h1 hc (fun j hj => by
          rw [hsize]
          have hjc : n * size + j < cur.size := by omega
          have : w.cell? ⟨g, 0 + n * size + j, none⟩ = some cur[n * size + j] := blk_cell g2 (by rw [show 0 + n * size + j = n * size + j by omega]; exact Array.getElem?_eq_getElem hjc)
          rw [this]; rfl) (fun j hj => blk_free g2)
      rw [hr] at r1
      simp only [Result.ok.injEq] at r1
      obtain ⟨e1, e2⟩ := r1
      subst e1 e2
      exact ⟨_, _, hr, r2, r3, fun k hk => Or.inl hk⟩
    · obtain ⟨v', w', r1, r2, r3⟩ := run_append_arg_grows (P := P) (w := w) t ty e i z size bytes ht hi hz hsize hby hzs hsz ⟨g, 0, none⟩ n cap xs hown.1 (fun j u hj => by
          have hx := hown.1
          have hjn : j < n * size := by have := (List.getElem?_eq_some_iff.1 hj).1; omega
          rw [Addr.add_lit, Nat.zero_add, hown.cellAt j hjn]; exact hj) a m c news hl hnews (by omega) h63 hbytes
      exact ⟨v', w', r1, own_base r2 hbase, ⟨r3.os, r3.tape, r3.output, r3.size, fun k hk _ => r3.block k hk (by simp)⟩, fun k hk => Or.inr (r2.lt k hk).1⟩
theorem append_oneC (base : Nat) (t e : TypeId) (i : TypeInfo) (z : Value) (size bytes : Nat) (ht : P.underlying t = some (.slice e)) (hi : P.info? e = some i) (hz : i.zero = some z)
    (hsize : i.size = size) (hby : i.bytes = bytes) (hzs : z.cells.size = size) (hsz : 0 < size) (v : Value) (n : Nat) (xs : List Value) (hown : w.ownsRow base e size v n xs) (cs : Array Value) (hcs : cs.size = size) (g : Nat) (hg : g = w.heap.size) (h1 : ∀ u ∈ cs.toList, u.oneCell' = true)
    (h63 : n + 1 ≤ maxLen) (hbytes : (n + 1) * bytes ≤ 140737488355328) (hbase : base ≤ w.heap.size) :
    ∃ v' w', (Builtin.append_ #[t, t] t #[v, .slice (some ⟨g, 0, none⟩) 1 1]).run P (w.alloc (.cells cs e)) = .ok v' w' ∧ w'.ownsRow base e size v' (n + 1) (xs ++ cs.toList) ∧ w.grownBy w' v.ownBlock ∧ Moved w v v' := by
  subst hg
  obtain ⟨v', w', r1, r2, r3, r4⟩ := append_rowC (P := P) (w := w.alloc (.cells cs e)) base t t e i z size bytes ht hi hz hsize hby hzs hsz v n xs (hown.alloc _) ⟨w.heap.size, 0, none⟩ 1 1 cs.toList (by simp [hcs])
    (fun j u hj => by
      rw [Addr.add_lit, Nat.zero_add]
      exact blk_cell (blk_new w _) (by rw [← Array.getElem?_toList]; exact hj))
    h1 h63 hbytes (by simp; omega)
  refine ⟨v', w', r1, r2, grown_trans (w1 := w.alloc (.cells cs e)) (World.grownBy_alloc w _ _) r3, fun k hk => ?_⟩
  rcases r4 k hk with h | h
  · exact Or.inl h
  · exact Or.inr (by simp at h; omega)
end
end Go.Proofs.YtmmpkkpmlaiapaaGreatDoor
namespace Go.Proofs.YtmmpkkpmlaiapaaGreatDoor
open Go.RowKit
set_option linter.unusedVariables false
def MapI (k : IntKind) (es : Array MapEntry) (l : List (List UInt8 × Int)) : Prop :=
  es.toList.map (fun e => (e.key, e.val)) = l.map (fun p => (Value.string ⟨⟨p.1⟩⟩, Value.int k p.2))
theorem MapI.nil (k : IntKind) : MapI k #[] [] := rfl
def lookI (l : List (List UInt8 × Int)) (x : List UInt8) : Option Int := (l.find? (fun p => decide (p.1 = x))).map (·.2)
theorem findNow_mapI {k : IntKind} (x : List UInt8) : ∀ (es : List MapEntry) (l : List (List UInt8 × Int)) (i : Nat),
    es.map (fun e => (e.key, e.val)) = l.map (fun p => (Value.string ⟨⟨p.1⟩⟩, Value.int k p.2)) →
    ∃ r, Instr.findNow .string (.string ⟨⟨x⟩⟩) es i = some r ∧ r.map (·.2) = (lookI l x).map (Value.int k)
  | [], [], i, _ => ⟨none, rfl, rfl⟩
  | [], p :: l, i, h => by simp at h
  | e :: es, [], i, h => by simp at h
  | e :: es, p :: l, i, h => by
    simp only [List.map_cons, List.cons.injEq, Prod.mk.injEq] at h
    obtain ⟨⟨h1, h2⟩, h3⟩ := h
    obtain ⟨r, hr, hiff⟩ := MapKept.sameNow_of_keys (d := .string) (a := .string ⟨⟨x⟩⟩) (b := .string ⟨⟨p.1⟩⟩) (by simp [MapKept.IsKey]) (by simp [MapKept.IsKey])
    unfold Instr.findNow
    rw [h1, hr]
    by_cases hx : p.1 = x
    · have : r = true := hiff.2 (by rw [hx])
      subst this
      exact ⟨some (i, e.val), rfl, by simp [lookI, hx, h2]⟩
    · have : r = false := by
        cases r with
        | false => rfl
        | true =>
          have := hiff.1 rfl
          simp only [Value.string.injEq, ByteArray.mk.injEq, Array.mk.injEq] at this
          exact absurd this.symm hx
      subst this
      obtain ⟨r2, g1, g2⟩ := findNow_mapI x es l (i + 1) h3
      refine ⟨r2, g1, ?_⟩
      rw [g2]
      simp [lookI, hx]
section
variable {P : Program} {T K E : TypeId} {k : IntKind} {mp : Nat} {es : Array MapEntry} {clock : Nat} {l : List (List UInt8 × Int)} {w : World}
theorem run_storeI (hT : P.underlying T = some (.map K E)) (hK : P.underlying K = some .string)
    (hm : w.heap[mp]? = some (.map es clock)) (he : MapI k es l) (x : List UInt8) (hx : lookI l x = none) (v : Value) :
    (Instr.mapUpdate T (.map (some mp)) (.string ⟨⟨x⟩⟩) v).run P w = .ok () { w with heap := w.heap.setIfInBounds mp (.map (es.push { key := .string ⟨⟨x⟩⟩, val := v, born := clock }) (clock + 1)) } := by
  obtain ⟨r, hr, hl⟩ := findNow_mapI x es.toList l 0 he
  have hrn : r = none := by
    rw [hx] at hl
    cases r with
    | none => rfl
    | some p => simp at hl
  subst hrn
  have hc : ∀ b, (Instr.checkKey b 10000 K (.string ⟨⟨x⟩⟩)).run P w = .ok () w := fun b => MapKept.run_checkKey (k := .string ⟨⟨x⟩⟩) hK (by simp [MapKept.IsKey]) b 9999
  simp [Instr.mapUpdate, run_underlying hT, MapKept.run_getObj_map hm, hc, MapKept.run_findKey hK hr, MapKept.run_setObj_map _ hm, Result.andThen]
end
theorem MapI.push {k : IntKind} {es : Array MapEntry} {l : List (List UInt8 × Int)} (h : MapI k es l) (x : List UInt8) (n : Int) (c : Nat) :
    MapI k (es.push { key := .string ⟨⟨x⟩⟩, val := .int k n, born := c }) (l ++ [(x, n)]) := by
  unfold MapI at *; simp [h]
end Go.Proofs.YtmmpkkpmlaiapaaGreatDoor
