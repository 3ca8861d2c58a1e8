/- read.operands: the parts of a line. read.kinds: are parts of these kinds?. read.jump. No condition. -/
import Derived.Test.YtmmpkkpmlaiapaaGreatDoorRlO
import Derived.Test.YtmmpkkpmlaiapaaGreatDoorQb
import Derived.Test.YtmmpkkpmlaiapaaGreatDoorHu
import Derived.Test.YtmmpkkpmlaiapaaGreatDoorQa
namespace Go.Proofs.YtmmpkkpmlaiapaaGreatDoor
open Go.RowKit
set_option linter.unusedVariables false
set_option maxHeartbeats 4000000
set_option maxRecDepth 100000
def comB : ByteArray := ⟨#[44, 32]⟩
def pieces (s : ByteArray) : List ByteArray := Lib.splitB comB 0 (Lib.countB s comB) s
theorem split_len : ∀ (k : Nat) (s : ByteArray), ∀ p ∈ Lib.splitB comB 0 k s, p.size ≤ s.size
  | 0, s, p, h => by
    rw [Lib.splitB_zero] at h
    rw [List.mem_singleton.1 h]
    exact Nat.le_refl _
  | k + 1, s, p, h => by
    unfold Lib.splitB at h
    split at h
    · rw [List.mem_singleton.1 h]
      exact Nat.le_refl _
    · rcases List.mem_cons.1 h with rfl | h
      · rw [ByteArray.size_extract]; omega
      · have := split_len k _ p h
        rw [ByteArray.size_extract] at this
        omega
theorem pieces_le {s p : ByteArray} (h : p ∈ pieces s) : p.size ≤ s.size := split_len _ s p h
theorem pieces_len (s : ByteArray) : (pieces s).length = Lib.countB s comB + 1 := Lib.splitB_all comB (by decide) 0 _ s rfl
theorem count_le' (s : ByteArray) : Lib.countB s comB ≤ s.size + 1 := by
  have := Lib.countB_le comB (by decide) s.size s (Nat.le_refl _)
  omega
def RowO (w : World) (B : Nat) (v : Value) (l : List Opd) : Prop := w.ownsRow B 90 5 v l.length (l.map (fun o => (opdV o).toList)).flatten
theorem RowO.slice {w : World} {B : Nat} {v : Value} {l : List Opd} (h : RowO w B v l) : ∃ A cap, v = .slice A l.length cap := let ⟨A, cap, e, _⟩ := own_slice h; ⟨A, cap, e⟩
theorem RowO.push {w : World} {B : Nat} {v : Value} {xs : List Opd} (h : RowO w B v xs) (hB : B ≤ w.heap.size) (x : Opd) (g : Nat) (hg : g = w.heap.size) (hl : xs.length ≤ 100000000) :
    ∃ v' w', (Builtin.append_ #[57, 57] 57 #[v, .slice (some ⟨g, 0, none⟩) 1 1]).run Tryz.prog (w.alloc (.cells (opdV x) 90)) = .ok v' w' ∧ RowO w' B v' (xs ++ [x]) ∧ Below B w w' ∧ KpT 90 w w' := by
  obtain ⟨i0, z0, q1, q2, q3, q4, q5⟩ := info_partsK (C := 5) (B := 48) (show (Tryz.prog.info? 90).map (fun i => (i.zero.map (·.cells.size), i.size, i.bytes)) = some (some 5, 5, 48) by kernel_rfl)
  obtain ⟨v', w', r1, r2, r3, r4⟩ := append_oneC (P := Tryz.prog) B 57 90 i0 z0 5 48 Tryz.underlying57 q1 q2 q4 q5 q3 (by decide) v xs.length _ h (opdV x) rfl g hg (fun u hu => by
    simp only [opdV, List.mem_cons, List.not_mem_nil, or_false] at hu
    rcases hu with e | e | e | e | e <;> subst e <;> rfl) (by unfold maxLen; omega) (by omega) hB
  refine ⟨v', w', r1, ?_, below_of_grown (Below.refl _ _) hB r3 (fun k hk => ?_), kpT_grown h r3⟩
  · unfold RowO
    rw [List.length_append, List.map_append, List.flatten_append]
    simpa using r2
  · rcases h.2 with ⟨rfl, e2⟩ | ⟨g', cap, cur, rfl, k1, k2, _⟩
    · simp [Value.ownBlock] at hk
    · simp only [Value.ownBlock, Option.some.injEq] at hk
      omega
theorem wpList_append_ro {P : Program} (w : World) {ops : Array Oper} {rest : List Oper} {o : Oper} {a : Act} {Q : Exit → Act → World → Prop} (hgd : o.guard = none) (s x : Operand) (t : TypeId)
    (ho : o.op = .call { callee := .builtin .append, args := #[s, x], argTypes := #[t, t] }) (v u v' : Value) (w' : World) (hs : a.eval s = v) (hx : a.eval x = u)
    (hr : (Builtin.append_ #[t, t] o.type #[v, u]).run P w = .ok v' w') (h : wpList P ops Q rest (a.put o.dst v') w') : wpList P ops Q (o :: rest) a w :=
  wpList_plain hgd fun _ hK => by
    unfold Oper.wp execOp
    simp only [ho, resolve, invoke, builtin, Sem.run_bind, Sem.run_pure, Result.andThen_ok, List.map_toArray, List.map_cons, List.map_nil, hs, hx, hr]
    exact hK _ _ h
def OpsR (s : ByteArray) (l : List Opd) (b : Bool) : Prop :=
  (s.data.toList = [] ∧ l = [] ∧ b = true) ∨
  (s.data.toList ≠ [] ∧ b = true ∧ l.length = (pieces s).length ∧ ∀ (i : Nat) (p : ByteArray) (o : Opd), (pieces s)[i]? = some p → l[i]? = some o → OneR p.data.toList o true) ∨
  (s.data.toList ≠ [] ∧ b = false ∧ ∃ (p : ByteArray) (o : Opd), p ∈ pieces s ∧ OneR p.data.toList o false)
def OpsO (s : ByteArray) (w : World) (e : Ending) (w' : World) : Prop := ∃ v l b, e = .returned (.tuple #[v, .bool b]) ∧ OpsR s l b ∧ (b = true → RowO w' w.heap.size v l) ∧ Below w.heap.size w w' ∧ ∃ A n c, v = .slice A n c
theorem operands_any (w : World) (hR : RdOk w) (hG : GsOk w) (s : ByteArray) (hs : s.size ≤ 1000000) : Calls Tryz.prog 25 #[.string s] w (OpsO s w) := by
  have HR := Lib.hid hR
  have HG := Lib.hid hG
  have HS := Lib.hid hs
  clear hR hG hs
  by_cases h0 : s.data.toList = []
  · have d0 : s.toList.isEmpty = true := by rw [Lib.toList_data, h0]; rfl
    have H0 := Lib.hid h0
    clear h0
    go_enter Tryz.func25, Tryz.ntmps25
    go_wp2_with fail
    go_returns
    exact ⟨_, [], true, rfl, Or.inl ⟨H0.out, rfl, rfl⟩, fun _ => World.ownsRow_nil _ _ _ _, by first | exact Below.refl _ _ | exact Below.drew (Below.refl _ _), none, 0, 0, rfl⟩
  · have d0 : s.toList.isEmpty = false := by rw [Lib.toList_data]; simpa using h0
    have H0 := Lib.hid h0
    clear h0
    obtain ⟨mm, hmm⟩ := HR.out.ml
    obtain ⟨n, hn⟩ : ∃ n, n = (pieces s).length := ⟨_, rfl⟩
    have hc : Lib.countB s comB + 1 = n := by rw [hn, pieces_len]
    have HCC := Lib.hid (show Calls Tryz.prog 31 #[.string s, .string ⟨#[44, 32]⟩] w (fun e w' => e = .returned (.slice (some ⟨w.heap.size, 0, none⟩) n n) ∧ w' = w.alloc (.cells ((pieces s).map Value.string).toArray 9)) from by
      have h := Tryz.strings_Split s ⟨#[44, 32]⟩ mm w (by have := HS.out; omega) hmm (by decide)
      rw [show (⟨#[44, 32]⟩ : ByteArray) = comB from rfl, hc] at h
      exact h)
    have HN := Lib.hid hn
    have HNB := Lib.hid (show n ≤ 1000002 by rw [← hc]; have := count_le' s; have := HS.out; omega)
    clear hc hmm hn mm
    go_enter Tryz.func25, Tryz.ntmps25
    go_wp2_with fail
    refine HCC.out.mono ?_
    rintro e w1 ⟨rfl, hw1⟩
    have HX := Lib.hid (show w1.heap[w.heap.size]? = some (.cells ((pieces s).map Value.string).toArray 9 (0, 0)) by rw [hw1]; exact blk_new w _)
    have HB := Lib.hid (show Below w.heap.size w w1 by rw [hw1]; exact below_alloc _ (Below.refl _ _))
    obtain ⟨g, hg⟩ : ∃ z, z = w.heap.size := ⟨_, rfl⟩
    rw [← hg] at HX ⊢
    clear hw1 hg HCC
    go_wp2_with fail
    obtain ⟨wq, hwq⟩ : ∃ wq, wq = w1 := ⟨_, rfl⟩
    rw [← hwq] at HX HB ⊢
    clear hwq w1
    go_loopw [4, 14] (fun v i wr => ∃ (j : Nat) (l : List Opd), j ≤ n ∧ i = .int .i64 (j : Nat) ∧ l.length = j ∧ RowO wr w.heap.size v l ∧ (∀ (i : Nat) (p : ByteArray) (o : Opd), (pieces s)[i]? = some p → l[i]? = some o → OneR p.data.toList o true) ∧ wr.heap[g]? = some (.cells ((pieces s).map Value.string).toArray 9 (0, 0)) ∧ Below w.heap.size w wr) (fun _ i _ => n - (intOf i).toNat)
    case atStart => exact ⟨0, [], by omega, rfl, rfl, World.ownsRow_nil _ _ _ _, (fun i p o _ h => by simp at h), HX.out, HB.out⟩
    case round =>
      rename World => wr
      obtain ⟨j, l, hj, rfl, hl, hrow, hon, hx, hb⟩ := hrel
      have HROW := Lib.hid hrow
      have HON := Lib.hid hon
      have HL := Lib.hid hl
      have HXr := Lib.hid hx
      have HBr := Lib.hid hb
      clear hrow hon hl hx hb HX HB
      by_cases hlt : j < n
      · obtain ⟨p, hp⟩ : ∃ p, (pieces s)[j]? = some p := ⟨_, List.getElem?_eq_getElem (by have := HN.out; omega)⟩
        have HP := Lib.hid hp
        have HLT := Lib.hid hlt
        have hnb := HNB.out
        have c0 : wr.cell? ⟨g, j, none⟩ = some (.string p) := blk_cell HXr.out (by simp [hp])
        have cl := blk_lt HXr.out
        clear hp
        go_wp2_with fail
        refine (one_any wr (HR.out.later HBr.out) (HG.out.below HBr.out) p (Nat.le_trans (pieces_le (List.mem_of_getElem? HP.out)) HS.out)).mono ?_
        rintro e w2 ⟨⟨ok, orr, os, on, onm⟩, b, he, ho, hb2⟩
        have he2 : e = .returned (.tuple #[.agg #[.int .i64 ok, .int .i64 orr, .int .i64 os, .int .i64 on, .string ⟨⟨onm⟩⟩], .bool b]) := he
        subst he2
        have HO := Lib.hid ho
        have HX2 := Lib.hid (blk_below HXr.out hb2)
        have HB2 := Lib.hid (HBr.out.trans (hb2.mono HBr.out.size))
        have HR2 := Lib.hid (own_below HROW.out hb2)
        clear he ho hb2 c0 cl
        cases b with
        | false =>
          go_wp2_with fail
          go_returns
          refine ⟨_, [], false, rfl, Or.inr (Or.inr ⟨H0.out, rfl, p, _, List.mem_of_getElem? HP.out, HO.out⟩), (fun h => by cases h), ?_, none, 0, 0, rfl⟩
          have h9 := below_alloc (.cells #[.int .i64 ok, .int .i64 orr, .int .i64 os, .int .i64 on, .string ⟨⟨onm⟩⟩] 90) (Below.refl w2.heap.size w2)
          exact HB2.out.trans (h9.mono HB2.out.size)
        | true =>
          have h9 := below_alloc (.cells #[.int .i64 ok, .int .i64 orr, .int .i64 os, .int .i64 on, .string ⟨⟨onm⟩⟩] 90) (Below.refl w2.heap.size w2)
          have HX3 := Lib.hid (blk_below HX2.out h9)
          have HZ3 := Lib.hid (blk_new w2 (.cells #[.int .i64 ok, .int .i64 orr, .int .i64 os, .int .i64 on, .string ⟨⟨onm⟩⟩] 90))
          have HB3 := Lib.hid (HB2.out.trans (h9.mono HB2.out.size))
          have HR3 := Lib.hid (own_below HR2.out h9)
          clear h9
          go_upto_region 10 with (fail)
          obtain ⟨w3, hw3⟩ : ∃ z, z = w2.alloc (.cells #[.int .i64 ok, .int .i64 orr, .int .i64 os, .int .i64 on, .string ⟨⟨onm⟩⟩] 90) := ⟨_, rfl⟩
          obtain ⟨g3, hg3⟩ : ∃ z, z = w2.heap.size := ⟨_, rfl⟩
          rw [← hw3] at HX3 HZ3 HB3 HR3 ⊢
          rw [← hg3] at HZ3 ⊢
          clear hw3 hg3
          obtain ⟨z0, z1, z2, z3, z4⟩ := c5q HZ3.out
          have zl := blk_lt HZ3.out
          obtain ⟨Av, cv, hv⟩ := RowO.slice HR3.out
          obtain ⟨nv, hnv⟩ : ∃ z, z = l.length := ⟨_, rfl⟩
          rw [← hnv] at hv
          clear hnv
          subst hv
          obtain ⟨v2, w4, hr, hri, hb4, hk4⟩ := RowO.push HR3.out HB3.out.size ⟨ok, orr, os, on, onm⟩ w3.heap.size rfl (by have := HL.out; have := HNB.out; omega)
          have HRI := Lib.hid hri
          have HX4 := Lib.hid (hk4.cells HX3.out (by decide))
          have HB4 := Lib.hid (HB3.out.trans hb4)
          clear hri hb4 hk4
          go_wp2_with (at_builtin; refine wpList_append_ro _ rfl _ _ _ rfl _ _ _ _ rfl rfl hr ?_)
          go_roundw
          case rel =>
            have hlt2 := HLT.out
            refine ⟨j + 1, l ++ [⟨ok, orr, os, on, onm⟩], by omega, by go_num, by have := HL.out; simp; omega, HRI.out, fun i p' o' h1 h2 => ?_, HX4.out, HB4.out⟩
            by_cases hi : i < l.length
            · rw [List.getElem?_append_left hi] at h2
              exact HON.out i p' o' h1 h2
            · have e : i = j := by
                have h3 := (List.getElem?_eq_some_iff.1 h2).1
                have := HL.out
                simp at h3
                omega
              subst e
              rw [HP.out] at h1
              rw [List.getElem?_append_right (by have := HL.out; omega), HL.out, Nat.sub_self] at h2
              simp only [Option.some.injEq, List.getElem?_cons_zero] at h1 h2
              subst h1 h2
              exact HO.out
          case measure => have hlt2 := HLT.out; simp [intOf]; omega
      · have e : j = n := by omega
        subst e
        obtain ⟨Av, cv, hv⟩ := RowO.slice HROW.out
        go_wp2_with fail
        go_returns
        exact ⟨_, l, true, rfl, Or.inr (Or.inl ⟨H0.out, rfl, by rw [HL.out, HN.out], HON.out⟩), fun _ => HROW.out, HBr.out, Av, _, cv, hv⟩
end Go.Proofs.YtmmpkkpmlaiapaaGreatDoor
namespace Go.Proofs.YtmmpkkpmlaiapaaGreatDoor
open Go.RowKit
set_option linter.unusedVariables false
set_option maxHeartbeats 4000000
set_option maxRecDepth 100000
theorem flatO_at : ∀ (xs : List Opd) (i k : Nat) (x : Opd), xs[i]? = some x → k < 5 → (xs.map (fun o => (opdV o).toList)).flatten[i * 5 + k]? = (opdV x).toList[k]?
  | [], i, k, x, h, _ => by simp at h
  | y :: xs, 0, k, x, h, hk => by
    simp only [List.getElem?_cons_zero, Option.some.injEq] at h
    subst h
    rw [Nat.zero_mul, Nat.zero_add, List.map_cons, List.flatten_cons, List.getElem?_append_left (by show k < 5; exact hk)]
  | y :: xs, i + 1, k, x, h, hk => by
    simp only [List.getElem?_cons_succ] at h
    have h2 := flatO_at xs i k x h hk
    rw [List.map_cons, List.flatten_cons, List.getElem?_append_right (by show 5 ≤ _; omega)]
    rw [show (i + 1) * 5 + k - (opdV y).toList.length = i * 5 + k by show (i + 1) * 5 + k - 5 = _; omega]
    exact h2
theorem RowO.cells {w : World} {B cap n i : Nat} {A : Option Addr} {xs : List Opd} {x : Opd} (h : RowO w B (.slice A n cap) xs) (hn : xs.length = n) (hx : xs[i]? = some x) : ∃ g, A = some ⟨g, 0, none⟩ ∧ ∀ k, k < 5 → w.cell? ⟨g, i * 5 + k, none⟩ = (opdV x).toList[k]? := by
  subst hn
  have hlt := (List.getElem?_eq_some_iff.1 hx).1
  obtain ⟨g, c, e, h1, h2, h3, h4⟩ := own_form h (by omega)
  simp only [Value.slice.injEq] at e
  obtain ⟨rfl, _, rfl⟩ := e
  refine ⟨g, rfl, fun k hk => ?_⟩
  rw [World.ownsRow.cellAt h (i * 5 + k) (by omega)]
  exact flatO_at xs i k x hx hk
def kindsB (l : List Opd) (ws : List Int) : Bool := decide (l.map (·.kind) = ws)
theorem kinds_any (w : World) (B : Nat) (v : Value) (l : List Opd) (hl : RowO w B v l) (hlen : l.length ≤ 100000000) (ws : List Int) (hws : ws.length ≤ 8) (gw m : Nat) (cs : Array Value) (hm : m = ws.length) (hc : cs = (ws.map (Value.int .i64)).toArray) (hg : w.heap[gw]? = some (.cells cs 3 (0, 0))) :
    Calls Tryz.prog 43 #[v, .slice (some ⟨gw, 0, none⟩) m m] w fun e w' => e = .returned (.bool (kindsB l ws)) ∧ Below w.heap.size w w' := by
  obtain ⟨A, cap, rfl⟩ := hl.slice
  obtain ⟨n, hn⟩ : ∃ n, n = l.length := ⟨_, rfl⟩
  rw [← hn] at hl ⊢
  have HROW := Lib.hid hl
  have HN := Lib.hid hn
  have HW := Lib.hid hg
  have HM := Lib.hid hm
  have HC := Lib.hid hc
  have hnb : n ≤ 100000000 := by omega
  have hmb : m ≤ 8 := by omega
  clear hl hn hg hm hc hlen hws
  by_cases hnm : n = m
  · subst hnm
    have dn : ((n : Int) != (n : Int)) = false := by simp
    go_enter Tryz.func43, Tryz.ntmps43
    go_wp2_with fail
    go_loopw [14] (fun i wr => ∃ (j : Nat), j ≤ n ∧ i = .int .i64 (j : Nat) ∧ (∀ (i : Nat) (o : Opd), i < j → l[i]? = some o → ws[i]? = some o.kind) ∧ Below w.heap.size w wr) (fun i _ => n - (intOf i).toNat)
    case atStart => exact ⟨0, by omega, rfl, (fun i o h => by omega), by first | exact Below.refl _ _ | exact Below.drew (Below.refl _ _)⟩
    case round =>
      rename World => wr
      obtain ⟨j, hj, rfl, hk, hb⟩ := hrel
      have HK := Lib.hid hk
      have HB := Lib.hid hb
      clear hk hb
      by_cases hlt : j < n
      · have HLT := Lib.hid hlt
        obtain ⟨o, ho⟩ : ∃ o, l[j]? = some o := ⟨_, List.getElem?_eq_getElem (by have := HN.out; omega)⟩
        obtain ⟨wj, hwj⟩ : ∃ x, ws[j]? = some x := ⟨_, List.getElem?_eq_getElem (by have := HM.out; omega)⟩
        have HO := Lib.hid ho
        have HWJ := Lib.hid hwj
        obtain ⟨gl, rfl, hcell⟩ := HROW.out.cells HN.out.symm ho
        have r0 := laterR (hcell 0 (by decide)) HB.out
        have r1 := laterR (hcell 1 (by decide)) HB.out
        have r2 := laterR (hcell 2 (by decide)) HB.out
        have r3 := laterR (hcell 3 (by decide)) HB.out
        have r4 := laterR (hcell 4 (by decide)) HB.out
        rw [Nat.add_zero] at r0
        have rl := World.block_lt_of_cell? _ _ r0
        clear hcell ho hwj
        have HX := Lib.hid (blk_new wr (.cells (opdV o) 90))
        have HBa := Lib.hid (below_alloc (.cells (opdV o) 90) (Below.refl wr.heap.size wr))
        go_upto_region 6 with (fail)
        obtain ⟨wd, hwd⟩ : ∃ z, z = wr.alloc (.cells (opdV o) 90) := ⟨_, rfl⟩
        change Code.wp _ _ _ _ (wr.alloc (.cells (opdV o) 90))
        obtain ⟨gq, hgq⟩ : ∃ z, z = wr.heap.size := ⟨_, rfl⟩
        rw [← hwd] at HX HBa ⊢
        rw [← hgq] at HX ⊢
        have HBd := Lib.hid (HB.out.trans (HBa.out.mono HB.out.size))
        clear hwd hgq r0 r1 r2 r3 r4 rl HBa
        have q0 : wd.cell? ⟨gq, 0, none⟩ = some (.int .i64 o.kind) := blk_cell HX.out rfl
        have ql := blk_lt HX.out
        have c0 : wd.cell? ⟨gw, j, none⟩ = some (.int .i64 wj) := laterR (blk_cell HW.out (by rw [HC.out]; simp [HWJ.out])) HBd.out
        have cl := World.block_lt_of_cell? _ _ c0
        refine upto_begin 6 (fun w' => w'.cell? ⟨gq, 0, none⟩ = some (.int .i64 o.kind) ∧ w'.cell? ⟨gw, j, none⟩ = some (.int .i64 wj)) (by kernel_rfl) ?_ (fun hU0 => ?_)
        · exact ⟨q0, c0⟩
        refine ur 0 (v := ?_) hU0 rfl (by kernel_rfl) (fun _ _ _ h => h) rfl ?_ ?_
        rotate_left
        focus intro w _; go_simp; first | done | with_reducible rfl
        try simp only [Act.put, List.setIfInBounds_toArray, List.set_cons_zero, List.set_cons_succ]
        refine urd 1 (v := ?_) hU0 rfl (by kernel_rfl) (fun _ _ _ h => h) rfl ?_ ?_
        rotate_left
        focus intro w hSw; (try dsimp only at hSw); go_simp; first | done | with_reducible rfl
        try simp only [Act.put, List.setIfInBounds_toArray, List.set_cons_zero, List.set_cons_succ]
        refine ur 2 (v := ?_) hU0 rfl (by kernel_rfl) (fun _ _ _ h => h) rfl ?_ ?_
        rotate_left
        focus intro w _; go_simp; first | done | with_reducible rfl
        try simp only [Act.put, List.setIfInBounds_toArray, List.set_cons_zero, List.set_cons_succ]
        refine ur 3 (v := ?_) hU0 rfl (by kernel_rfl) (fun _ _ _ h => h) rfl ?_ ?_
        rotate_left
        focus intro w _; go_simp; first | done | with_reducible rfl
        try simp only [Act.put, List.setIfInBounds_toArray, List.set_cons_zero, List.set_cons_succ]
        refine ur 4 (v := ?_) hU0 rfl (by kernel_rfl) (fun _ _ _ h => h) rfl ?_ ?_
        rotate_left
        focus intro w _; go_simp; first | done | with_reducible rfl
        try simp only [Act.put, List.setIfInBounds_toArray, List.set_cons_zero, List.set_cons_succ]
        refine urd 5 (v := ?_) hU0 rfl (by kernel_rfl) (fun _ _ _ h => h) rfl ?_ ?_
        rotate_left
        focus intro w hSw; (try dsimp only at hSw); go_simp; first | done | with_reducible rfl
        try simp only [Act.put, List.setIfInBounds_toArray, List.set_cons_zero, List.set_cons_succ]
        refine upto_next 6 rfl (by kernel_rfl) (fun K hK => ?_)
        go_simp
        first | refine hK.out _ _ ?_ fun hU1 => ?_ | (go_wp2_with fail; refine hK.out _ _ ?_ fun hU1 => ?_)
        · exact Or.inl (by kernel_rfl)
        clear hK K
        clear hU0
        try simp only [Act.put, List.setIfInBounds_toArray, List.set_cons_zero, List.set_cons_succ]
        refine upto_done (by kernel_rfl) ?_ _
        by_cases hkk : o.kind = wj
        · have dk : (o.kind != wj) = false := by simpa using hkk
          have HKK := Lib.hid hkk
          clear hkk
          go_wp2_with fail
          go_roundw
          case rel =>
            have hlt2 := HLT.out
            refine ⟨j + 1, by omega, by go_num, fun i o' hi ho' => ?_, by first | exact HBd.out | exact Below.drew HBd.out⟩
            by_cases hij : i < j
            · exact HK.out i o' hij ho'
            · have e : i = j := by omega
              subst e
              rw [HO.out] at ho'
              cases ho'
              rw [HWJ.out, HKK.out]
          case measure => have hlt2 := HLT.out; simp [intOf]; omega
        · have dk : (o.kind != wj) = true := by simpa using hkk
          have HKB := Lib.hid (show kindsB l ws = false by
            unfold kindsB
            refine decide_eq_false (fun h => hkk ?_)
            have h1 : (l.map (·.kind))[j]? = some o.kind := by rw [List.getElem?_map, HO.out]; rfl
            rw [h, HWJ.out] at h1
            exact (Option.some.inj h1).symm)
          clear hkk
          go_wp2_with fail
          go_returns
          exact ⟨by rw [HKB.out]; rfl, by first | exact HBd.out | exact Below.drew HBd.out⟩
      · have e : j = n := by omega
        subst e
        have HKB := Lib.hid (show kindsB l ws = true by
          unfold kindsB
          refine decide_eq_true (List.ext_getElem? fun i => ?_)
          by_cases hi : i < l.length
          · obtain ⟨o, ho⟩ : ∃ o, l[i]? = some o := ⟨_, List.getElem?_eq_getElem hi⟩
            rw [List.getElem?_map, ho, HK.out i o (by have := HN.out; omega) ho]
            rfl
          · rw [List.getElem?_eq_none (by simp; omega), List.getElem?_eq_none (by have := HN.out; have := HM.out; omega)])
        go_wp2_with fail
        go_returns
        exact ⟨by rw [HKB.out]; rfl, HB.out⟩
  · have dn : ((n : Int) != (m : Int)) = true := by simp; omega
    have HKB := Lib.hid (show kindsB l ws = false by
      unfold kindsB
      refine decide_eq_false (fun h => hnm ?_)
      have := congrArg List.length h
      simp at this
      have := HN.out
      have := HM.out
      omega)
    clear hnm
    go_enter Tryz.func43, Tryz.ntmps43
    go_wp2_with fail
    go_returns
    exact ⟨by rw [HKB.out]; rfl, by first | exact Below.refl _ _ | exact Below.drew (Below.refl _ _)⟩
end Go.Proofs.YtmmpkkpmlaiapaaGreatDoor
namespace Go.Proofs.YtmmpkkpmlaiapaaGreatDoor
open Go.RowKit
set_option linter.unusedVariables false
set_option maxHeartbeats 4000000
set_option maxRecDepth 100000
def insZ : XInsD := { op := 0, dst := 0, src := 0, imm := 0, size := 0, signed := false, cond := 0, to_ := ⟨⟨[]⟩⟩ }
def BldO (f : Option XInsD) (w : World) (e : Ending) (w' : World) : Prop := ∃ x b, e = .returned (.tuple #[.agg (insV x).toArray, .bool b]) ∧ (∀ y, f = some y → x = y ∧ b = true) ∧ (f = none → b = false) ∧ Below w.heap.size w w'
def jump1 (c : Bool) (o : Opd) : Option XInsD := if o.kind = 5 then some { insZ with op := if c then 35 else 33, to_ := ⟨⟨o.name⟩⟩ } else if o.kind = 6 then some { insZ with op := if c then 36 else 37, dst := o.reg } else none
def jumpF (c : Bool) : List Opd → Option XInsD
  | [o] => jump1 c o
  | _ => none
theorem kinds_one {l : List Opd} {k : Int} (h : kindsB l [k] = true) : ∃ o, l = [o] ∧ o.kind = k := by
  unfold kindsB at h
  have h := of_decide_eq_true h
  match l, h with
  | [o], h => exact ⟨o, rfl, by simpa using h⟩
theorem jump_none {c : Bool} {l : List Opd} (h5 : kindsB l [5] = false) (h6 : kindsB l [6] = false) : jumpF c l = none := by
  match l, h5, h6 with
  | [], _, _ => rfl
  | [o], h5, h6 =>
    have a5 : ¬ o.kind = 5 := fun h => by have := of_decide_eq_false h5; simp [h] at this
    have a6 : ¬ o.kind = 6 := fun h => by have := of_decide_eq_false h6; simp [h] at this
    show jump1 c o = none
    unfold jump1
    rw [if_neg a5, if_neg a6]
  | o :: p :: r, _, _ => rfl
def callB : ByteArray := ⟨#[99, 97, 108, 108]⟩
theorem jump_any (w : World) (name : ByteArray) (B : Nat) (v : Value) (l : List Opd) (hl : RowO w B v l) (hlen : l.length ≤ 100000000) :
    Calls Tryz.prog 44 #[.string name, v] w (BldO (jumpF (decide (name = callB)) l) w) := by
  have HROW := Lib.hid hl
  have HLEN := Lib.hid hlen
  clear hl hlen
  obtain ⟨Av, cv, hv⟩ := HROW.out.slice
  obtain ⟨nv, hnv⟩ : ∃ z, z = l.length := ⟨_, rfl⟩
  have HNV := Lib.hid hnv
  rw [← hnv] at hv
  clear hnv
  have HX0 := Lib.hid (blk_new w (.cells #[.int .i64 0, .int .i64 0, .int .i64 0, .int .i64 0, .int .i64 0, .bool false, .int .i64 0, .string ⟨#[]⟩] 23))
  have HB0 := Lib.hid (below_alloc (.cells #[.int .i64 0, .int .i64 0, .int .i64 0, .int .i64 0, .int .i64 0, .bool false, .int .i64 0, .string ⟨#[]⟩] 23) (Below.refl w.heap.size w))
  obtain ⟨c, hc⟩ : ∃ c, c = decide (name = callB) := ⟨_, rfl⟩
  rw [← hc]
  have HC := Lib.hid hc
  clear hc
  subst hv
  go_enter Tryz.func44, Tryz.ntmps44
  go_upto_region 2 with (fail)
  obtain ⟨w1, hw1⟩ : ∃ z, z = w.alloc (.cells #[.int .i64 0, .int .i64 0, .int .i64 0, .int .i64 0, .int .i64 0, .bool false, .int .i64 0, .string ⟨#[]⟩] 23) := ⟨_, rfl⟩
  obtain ⟨g, hg⟩ : ∃ z, z = w.heap.size := ⟨_, rfl⟩
  have HGE := Lib.hid (show w.heap.size ≤ g by rw [hg]; exact Nat.le_refl _)
  rw [← hw1] at HX0 HB0 ⊢
  rw [← hg] at HX0 ⊢
  clear hw1 hg
  by_cases hnm : name = callB
  · have hcc : c = true := by rw [HC.out]; exact decide_eq_true hnm
    subst hnm hcc
    unfold callB
    go_upto_region 4 with (fail)
    have hb1 := below_alloc (.cells #[.int .i64 5] 3) (Below.refl w1.heap.size w1)
    have HBa := Lib.hid (HB0.out.trans (hb1.mono HB0.out.size))
    have HXa := Lib.hid (blk_below HX0.out hb1)
    clear hb1
    go_wp2_with fail
    refine (kinds_any _ B (.slice Av nv cv) l (own_below HROW.out HBa.out) HLEN.out [5] (by decide) w1.heap.size 1 #[.int .i64 5] rfl rfl (blk_new w1 _)).mono ?_
    rintro e w2 ⟨rfl, hb2⟩
    have HB2 := Lib.hid (HBa.out.trans (hb2.mono HBa.out.size))
    have HX2 := Lib.hid (blk_below HXa.out hb2)
    clear hb2
    cases hk : kindsB l [5] with
    | true =>
      obtain ⟨o, rfl, hok⟩ := kinds_one hk
      have HOK := Lib.hid hok
      clear hok hk
      obtain rfl : nv = 1 := HNV.out
      obtain ⟨gl, rfl, hcell⟩ := RowO.cells (own_below HROW.out HB2.out) rfl (i := 0) rfl
      have r4 : w2.cell? ⟨gl, 4, none⟩ = some (.string ⟨⟨o.name⟩⟩) := hcell 4 (by decide)
      have rl := World.block_lt_of_cell? _ _ r4
      clear hcell
      go_wp2_with (refine wsx g rfl rfl rfl rfl HX2 (by kernel_rfl) ?_; intro x7 k7 hb7 hz7 ho7; obtain ⟨q0, q1, q2, q3, q4, q5, q6, q7⟩ := cq k7)
      refine bodyPost_ret (by simp [results, Tryz.results44, go_sem, q0, q1, q2, q3, q4, q5, q6, q7]; try rfl) rfl ?_
      have hf : jumpF true [o] = some { insZ with op := 35, to_ := ⟨⟨o.name⟩⟩ } := by show jump1 _ o = _; unfold jump1; rw [if_pos HOK.out]; rfl
      exact ⟨_, true, rfl, (fun y hy => by rw [hf] at hy; cases hy; exact ⟨rfl, rfl⟩), (fun h => by rw [hf] at h; cases h), hb7 _ _ HGE.out HB2.out⟩
    | false =>
      have HK5 := Lib.hid hk
      clear hk
      have hb1 := below_alloc (.cells #[.int .i64 6] 3) (Below.refl w2.heap.size w2)
      have HBa := Lib.hid (HB2.out.trans (hb1.mono HB2.out.size))
      have HXa := Lib.hid (blk_below HX2.out hb1)
      clear hb1
      go_wp2_with fail
      refine (kinds_any _ B (.slice Av nv cv) l (own_below HROW.out HBa.out) HLEN.out [6] (by decide) w2.heap.size 1 #[.int .i64 6] rfl rfl (blk_new w2 _)).mono ?_
      rintro e w3 ⟨rfl, hb2⟩
      have HB3 := Lib.hid (HBa.out.trans (hb2.mono HBa.out.size))
      have HX3 := Lib.hid (blk_below HXa.out hb2)
      clear hb2
      cases hk : kindsB l [6] with
      | true =>
        obtain ⟨o, rfl, hok⟩ := kinds_one hk
        have HOK := Lib.hid hok
        clear hok hk
        obtain rfl : nv = 1 := HNV.out
        obtain ⟨gl, rfl, hcell⟩ := RowO.cells (own_below HROW.out HB3.out) rfl (i := 0) rfl
        have r1 : w3.cell? ⟨gl, 1, none⟩ = some (.int .i64 o.reg) := hcell 1 (by decide)
        have rl := World.block_lt_of_cell? _ _ r1
        clear hcell
        go_wp2_with (refine wsx g rfl rfl rfl rfl HX3 (by kernel_rfl) ?_; intro x7 k7 hb7 hz7 ho7; obtain ⟨q0, q1, q2, q3, q4, q5, q6, q7⟩ := cq k7)
        refine bodyPost_ret (by simp [results, Tryz.results44, go_sem, q0, q1, q2, q3, q4, q5, q6, q7]; try rfl) rfl ?_
        have hf : jumpF true [o] = some { insZ with op := 36, dst := o.reg } := by show jump1 _ o = _; unfold jump1; rw [if_neg (by rw [HOK.out]; decide), if_pos HOK.out]; rfl
        exact ⟨_, true, rfl, (fun y hy => by rw [hf] at hy; cases hy; exact ⟨rfl, rfl⟩), (fun h => by rw [hf] at h; cases h), hb7 _ _ HGE.out HB3.out⟩
      | false =>
        have HK6 := Lib.hid hk
        clear hk
        go_wp2_with (refine wsx g rfl rfl rfl rfl HX3 (by kernel_rfl) ?_; intro x7 k7 hb7 hz7 ho7; obtain ⟨q0, q1, q2, q3, q4, q5, q6, q7⟩ := cq k7)
        refine bodyPost_ret (by simp [results, Tryz.results44, go_sem, q0, q1, q2, q3, q4, q5, q6, q7]; try rfl) rfl ?_
        have hf : jumpF true l = none := jump_none HK5.out HK6.out
        exact ⟨insZ, false, rfl, (fun y hy => by rw [hf] at hy; cases hy), fun _ => rfl, hb7 _ _ HGE.out HB3.out⟩
  · have hcc : c = false := by rw [HC.out]; exact decide_eq_false hnm
    have dn : (name.toList == [99, 97, 108, 108]) = false := by
      rw [Lib.toList_data]
      refine beq_eq_false_iff_ne.2 (fun h => hnm ?_)
      apply ByteArray.ext
      apply Array.ext'
      exact h
    subst hcc
    clear hnm
    go_upto_region 4 with (fail)
    have hb1 := below_alloc (.cells #[.int .i64 5] 3) (Below.refl w1.heap.size w1)
    have HBa := Lib.hid (HB0.out.trans (hb1.mono HB0.out.size))
    have HXa := Lib.hid (blk_below HX0.out hb1)
    clear hb1
    go_wp2_with fail
    refine (kinds_any _ B (.slice Av nv cv) l (own_below HROW.out HBa.out) HLEN.out [5] (by decide) w1.heap.size 1 #[.int .i64 5] rfl rfl (blk_new w1 _)).mono ?_
    rintro e w2 ⟨rfl, hb2⟩
    have HB2 := Lib.hid (HBa.out.trans (hb2.mono HBa.out.size))
    have HX2 := Lib.hid (blk_below HXa.out hb2)
    clear hb2
    cases hk : kindsB l [5] with
    | true =>
      obtain ⟨o, rfl, hok⟩ := kinds_one hk
      have HOK := Lib.hid hok
      clear hok hk
      obtain rfl : nv = 1 := HNV.out
      obtain ⟨gl, rfl, hcell⟩ := RowO.cells (own_below HROW.out HB2.out) rfl (i := 0) rfl
      have r4 : w2.cell? ⟨gl, 4, none⟩ = some (.string ⟨⟨o.name⟩⟩) := hcell 4 (by decide)
      have rl := World.block_lt_of_cell? _ _ r4
      clear hcell
      go_wp2_with (refine wsx g rfl rfl rfl rfl HX2 (by kernel_rfl) ?_; intro x7 k7 hb7 hz7 ho7; obtain ⟨q0, q1, q2, q3, q4, q5, q6, q7⟩ := cq k7)
      refine bodyPost_ret (by simp [results, Tryz.results44, go_sem, q0, q1, q2, q3, q4, q5, q6, q7]; try rfl) rfl ?_
      have hf : jumpF false [o] = some { insZ with op := 33, to_ := ⟨⟨o.name⟩⟩ } := by show jump1 _ o = _; unfold jump1; rw [if_pos HOK.out]; rfl
      exact ⟨_, true, rfl, (fun y hy => by rw [hf] at hy; cases hy; exact ⟨rfl, rfl⟩), (fun h => by rw [hf] at h; cases h), hb7 _ _ HGE.out HB2.out⟩
    | false =>
      have HK5 := Lib.hid hk
      clear hk
      have hb1 := below_alloc (.cells #[.int .i64 6] 3) (Below.refl w2.heap.size w2)
      have HBa := Lib.hid (HB2.out.trans (hb1.mono HB2.out.size))
      have HXa := Lib.hid (blk_below HX2.out hb1)
      clear hb1
      go_wp2_with fail
      refine (kinds_any _ B (.slice Av nv cv) l (own_below HROW.out HBa.out) HLEN.out [6] (by decide) w2.heap.size 1 #[.int .i64 6] rfl rfl (blk_new w2 _)).mono ?_
      rintro e w3 ⟨rfl, hb2⟩
      have HB3 := Lib.hid (HBa.out.trans (hb2.mono HBa.out.size))
      have HX3 := Lib.hid (blk_below HXa.out hb2)
      clear hb2
      cases hk : kindsB l [6] with
      | true =>
        obtain ⟨o, rfl, hok⟩ := kinds_one hk
        have HOK := Lib.hid hok
        clear hok hk
        obtain rfl : nv = 1 := HNV.out
        obtain ⟨gl, rfl, hcell⟩ := RowO.cells (own_below HROW.out HB3.out) rfl (i := 0) rfl
        have r1 : w3.cell? ⟨gl, 1, none⟩ = some (.int .i64 o.reg) := hcell 1 (by decide)
        have rl := World.block_lt_of_cell? _ _ r1
        clear hcell
        go_wp2_with (refine wsx g rfl rfl rfl rfl HX3 (by kernel_rfl) ?_; intro x7 k7 hb7 hz7 ho7; obtain ⟨q0, q1, q2, q3, q4, q5, q6, q7⟩ := cq k7)
        refine bodyPost_ret (by simp [results, Tryz.results44, go_sem, q0, q1, q2, q3, q4, q5, q6, q7]; try rfl) rfl ?_
        have hf : jumpF false [o] = some { insZ with op := 37, dst := o.reg } := by show jump1 _ o = _; unfold jump1; rw [if_neg (by rw [HOK.out]; decide), if_pos HOK.out]; rfl
        exact ⟨_, true, rfl, (fun y hy => by rw [hf] at hy; cases hy; exact ⟨rfl, rfl⟩), (fun h => by rw [hf] at h; cases h), hb7 _ _ HGE.out HB3.out⟩
      | false =>
        have HK6 := Lib.hid hk
        clear hk
        go_wp2_with (refine wsx g rfl rfl rfl rfl HX3 (by kernel_rfl) ?_; intro x7 k7 hb7 hz7 ho7; obtain ⟨q0, q1, q2, q3, q4, q5, q6, q7⟩ := cq k7)
        refine bodyPost_ret (by simp [results, Tryz.results44, go_sem, q0, q1, q2, q3, q4, q5, q6, q7]; try rfl) rfl ?_
        have hf : jumpF false l = none := jump_none HK5.out HK6.out
        exact ⟨insZ, false, rfl, (fun y hy => by rw [hf] at hy; cases hy), fun _ => rfl, hb7 _ _ HGE.out HB3.out⟩
end Go.Proofs.YtmmpkkpmlaiapaaGreatDoor
