/- ctype.Table's Align and Find. No condition. -/
import Derived.Test.YtpcfibnnboenhaaOlS
namespace Go.Proofs.Ytpcfibnnboenhaa
open Go.RowKit
set_option linter.unusedVariables false
set_option maxHeartbeats 2000000
theorem align_any (p : Nat) (tab : List RecP) : ∀ (t : Ty) (w : World) (ds : List Value), OkT t → TabC w p tab → TyC w (fun _ => True) t ds →
    Calls Try.prog 19 #[.pointer (some ⟨p, 0, none⟩), .agg ds.toArray] w fun e w' => e = .returned (.int .i64 (alignT tab t)) ∧ Below w.heap.size w w'
  | .int s g c, w, ds, hO, hT, hC => by
    have hC : ds = tyCells 1 s g c none 0 0 (.slice none 0 0) none := hC
    subst hC
    unfold tyCells alignT
    have hb := Lib.hid (below_alloc (.cells #[.int .i64 1, .int .i64 s, .bool g, .bool c, .pointer none, .int .i64 0, .int .i64 0, .slice none 0 0, .pointer none] 39) (Below.refl w.heap.size w))
    clear hT
    go_enter Try.func19, Try.ntmps19
    go_wp2_with fail
    go_returns
    exact ⟨rfl, hb.out⟩
  | .ptr e, w, ds, hO, hT, hC => by
    obtain ⟨b, es, rfl, _, h2, h3⟩ := hC
    unfold tyCells alignT
    have hb := Lib.hid (below_alloc (.cells #[.int .i64 2, .int .i64 8, .bool false, .bool false, .pointer (some ⟨b, 0, none⟩), .int .i64 0, .int .i64 0, .slice none 0 0, .pointer none] 39) (Below.refl w.heap.size w))
    clear hT h2 h3
    go_enter Try.func19, Try.ntmps19
    go_wp2_with fail
    go_returns
    exact ⟨rfl, hb.out⟩
  | .arr e n, w, ds, hO, hT, hC => by
    obtain ⟨b, es, rfl, _, h2, h3⟩ := hC
    have hI : ∀ W, Below w.heap.size w W → Calls Try.prog 19 #[.pointer (some ⟨p, 0, none⟩), .agg es.toArray] W fun e' w' => e' = .returned (.int .i64 (alignT tab e)) ∧ Below W.heap.size W w' := fun W hb => align_any p tab e W es hO.2.2 (hT.later hb) (h3.later hb)
    obtain ⟨k', s', g', c', p', n', num', A', q1', q2', rt', rfl⟩ := h3.ten
    unfold tyCells at h2 hI
    unfold tyCells alignT
    obtain ⟨m, hm⟩ : ∃ m, m = alignT tab e := ⟨_, rfl⟩
    rw [← hm] at hI ⊢
    have HI := Lib.hid hI
    obtain ⟨wa, hwa⟩ : ∃ wa, wa = w.alloc (.cells #[.int .i64 3, .int .i64 0, .bool false, .bool false, .pointer (some ⟨b, 0, none⟩), .int .i64 n, .int .i64 0, .slice none 0 0, .pointer none] 39) := ⟨_, rfl⟩
    have hb : Below w.heap.size w wa := by rw [hwa]; exact below_alloc _ (Below.refl _ _)
    have HB := Lib.hid hb
    have HKW := Lib.hid (show wa.heap[w.heap.size]? = some (.cells #[.int .i64 3, .int .i64 0, .bool false, .bool false, .pointer (some ⟨b, 0, none⟩), .int .i64 n, .int .i64 0, .slice none 0 0, .pointer none] 39 (0, 0)) by rw [hwa]; exact blk_new _ _)
    have h4 := blk_alloc h2 (.cells #[.int .i64 3, .int .i64 0, .bool false, .bool false, .pointer (some ⟨b, 0, none⟩), .int .i64 n, .int .i64 0, .slice none 0 0, .pointer none] 39)
    have c0 := blk_cell (i := 0) h4 rfl
    have c1 := blk_cell (i := 1) h4 rfl
    have c2 := blk_cell (i := 2) h4 rfl
    have c3 := blk_cell (i := 3) h4 rfl
    have c4 := blk_cell (i := 4) h4 rfl
    have c5 := blk_cell (i := 5) h4 rfl
    have c6 := blk_cell (i := 6) h4 rfl
    have c7 := blk_cell (i := 7) h4 rfl
    have c8 := blk_cell (i := 8) h4 rfl
    have lb := blk_lt h4
    clear hT h2 h3 hI hb h4 hm
    go_enter Try.func19, Try.ntmps19
    go_wp2_with fail
    rw [← hwa]
    clear hwa c0 c1 c2 c3 c4 c5 c6 c7 c8 lb
    refine (HI.out _ HB.out).mono ?_
    rintro e' w2 ⟨rfl, kb⟩
    have HB2 := Lib.hid (HB.out.bt kb)
    clear kb
    go_wp2_with fail
    go_returns
    exact ⟨rfl, HB2.out⟩
  | .str k, w, ds, hO, hT, hC => by
    have hC : ds = tyCells 4 0 false false none 0 k (.slice none 0 0) none := hC
    subst hC
    unfold tyCells alignT
    have hk : In64 k := hO
    obtain ⟨wa, hwa⟩ : ∃ wa, wa = w.alloc (.cells #[.int .i64 4, .int .i64 0, .bool false, .bool false, .pointer none, .int .i64 0, .int .i64 k, .slice none 0 0, .pointer none] 39) := ⟨_, rfl⟩
    have hb : Below w.heap.size w wa := by rw [hwa]; exact below_alloc _ (Below.refl _ _)
    have HB := Lib.hid hb
    have HR := Lib.hid (record_any wa p tab k (hT.later hb) hk)
    clear hT hb
    go_enter Try.func19, Try.ntmps19
    go_wp2_with fail
    rw [← hwa]
    clear hwa
    refine HR.out.mono ?_
    rintro e' w2 ⟨vf, rfl, hv, _, kb⟩
    obtain ⟨A, cap, rfl, _⟩ := hv
    have HB2 := Lib.hid (HB.out.bt kb)
    have hfl := rec_align (recT tab k).name A (recT tab k).fields.length cap (recT tab k).size (recT tab k).align
    clear kb
    go_wp2_with fail
    go_returns
    exact ⟨rfl, HB2.out⟩
  | .fn _ _ _, w, ds, hO, hT, hC => hO.elim
def FindV (w : World) (e : Ending) (w' : World) : Prop := ∃ (i : Int) (ok : Bool), e = .returned (.tuple #[.int .i64 i, .bool ok]) ∧ Below w.heap.size w w'
theorem find_any (w : World) (p : Nat) (tab : List RecP) (s : ByteArray) (hT : TabC w p tab) : Calls Try.prog 18 #[.pointer (some ⟨p, 0, none⟩), .string s] w (FindV w) := by
  have HT := Lib.hid hT
  obtain ⟨v, h1, h2, h3⟩ := hT
  obtain ⟨A, cap, rfl, k1, k2, k3⟩ := h2
  have HS := Lib.hid (show SlR w 4 (TrecR w) (.slice A tab.length cap) tab from ⟨A, cap, rfl, k1, k2, k3⟩)
  have c0 := blk_cell (i := 0) h1 rfl
  have lp := blk_lt h1
  clear k3 h1
  go_enter Try.func18, Try.ntmps18
  go_wp2_with fail
  go_loopw [15] (fun i wr => ∃ k : Nat, k ≤ tab.length ∧ i = .int .i64 k ∧ Below w.heap.size w wr) (fun i _ => tab.length - (intOf i).toNat)
  case atStart => exact ⟨0, by omega, rfl, Below.refl _ _⟩
  case round =>
    obtain ⟨k, hk, rfl, hb⟩ := hrel
    have HB := Lib.hid hb
    clear hb
    by_cases hlt : k < tab.length
    · obtain ⟨r, hr⟩ : ∃ r, tab[k]? = some r := ⟨_, List.getElem?_eq_getElem hlt⟩
      obtain ⟨A4, c4, e1, _, _, e4⟩ := HS.out.later (by decide) HB.out
      simp only [Value.slice.injEq] at e1
      obtain ⟨rfl, _, rfl⟩ := e1
      obtain ⟨b, o, cs, rfl, g2, g3, vf, rfl, r1, r2, r3⟩ := e4 k r hr
      obtain ⟨A5, c5, rfl, _⟩ := r1
      have z0 : wr.cell? ⟨b, o + k * 4, none⟩ = some (.string r.name) := g3 0 (by decide)
      have z1 : wr.cell? ⟨b, o + k * 4 + 1, none⟩ = some (.slice A5 r.fields.length c5) := g3 1 (by decide)
      have z2 : wr.cell? ⟨b, o + k * 4 + 2, none⟩ = some (.int .i64 r.size) := g3 2 (by decide)
      have z3 : wr.cell? ⟨b, o + k * 4 + 3, none⟩ = some (.int .i64 r.align) := g3 3 (by decide)
      have hlx := World.block_lt_of_cell? _ _ z0
      have HLT := Lib.hid hlt
      have HB2 := Lib.hid (HB.out.alloc HB.out.size (.cells #[.string r.name, .slice A5 r.fields.length c5, .int .i64 r.size, .int .i64 r.align] 69))
      clear g3 e4 hr
      cases hq : r.name.toList == s.toList with
      | true =>
        go_wp2_with fail
        go_returns
        exact ⟨k, true, rfl, HB2.out⟩
      | false =>
        go_wp2_with fail
        have hlt := HLT.out
        go_roundw
        case rel => exact ⟨k + 1, by omega, by go_num, HB2.out⟩
        case measure => simp [intOf]; omega
    · have e : k = tab.length := by omega
      subst e
      go_wp2_with fail
      go_returns
      exact ⟨0, false, rfl, HB.out⟩
end Go.Proofs.Ytpcfibnnboenhaa
