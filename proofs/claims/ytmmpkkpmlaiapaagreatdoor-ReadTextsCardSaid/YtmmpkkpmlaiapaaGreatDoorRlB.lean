/- read.build. No condition. -/
import Derived.Test.YtmmpkkpmlaiapaaGreatDoorRlC
import Derived.Test.YtmmpkkpmlaiapaaGreatDoorQa
import Derived.Shelf.Strings.Prefix
namespace Go.Proofs.YtmmpkkpmlaiapaaGreatDoor
open Go.RowKit
set_option linter.unusedVariables false
set_option maxHeartbeats 4000000
set_option maxRecDepth 100000
theorem ins_step {w : World} {mp c : Nat} {es : Array MapEntry} {l : List (List UInt8 × Int)} (hm : w.heap[mp]? = some (.map es c)) (he : MapI .i64 es l) (x : List UInt8) (hx : lookI l x = none) (n : Int) :
    ∃ w' es' c', (Instr.mapUpdate 93 (.map (some mp)) (.string ⟨⟨x⟩⟩) (.int .i64 n)).run Tryz.prog w = .ok () w' ∧ w'.heap[mp]? = some (.map es' c') ∧ MapI .i64 es' (l ++ [(x, n)]) ∧ (∀ B w0, B ≤ mp → Below B w0 w → Below B w0 w') ∧ (∀ k, k ≠ mp → w'.heap[k]? = w.heap[k]?) := by
  have hlt : mp < w.heap.size := (Array.getElem?_eq_some_iff.1 hm).1
  refine ⟨_, es.push { key := .string ⟨⟨x⟩⟩, val := .int .i64 n, born := c }, c + 1, run_storeI (P := Tryz.prog) Tryz.underlying93 Tryz.underlying9 hm he x hx (.int .i64 n), by simp [hlt], he.push x n c, fun B w0 hB h => ?_, fun k hk => ?_⟩
  · exact ⟨h.os, h.tape, h.output, by simpa using h.size, fun k hk => (by simp [Array.getElem?_setIfInBounds_ne (show mp ≠ k by omega)] : _ = w.heap[k]?).trans (h.block k hk)⟩
  · simp [Array.getElem?_setIfInBounds_ne (Ne.symm hk)]
theorem lookN {w : World} {mp c : Nat} {es : Array MapEntry} {l : List (List UInt8 × Int)} (hm : w.heap[mp]? = some (.map es c)) (he : MapI .i64 es l) (x : List UInt8) {v : Int} (hx : lookI l x = some v) :
    (Instr.lookup 93 (.map (some mp)) (.string ⟨⟨x⟩⟩) false).run Tryz.prog w = .ok (.int .i64 v) w := by
  obtain ⟨r, hr, hl⟩ := findNow_mapI x es.toList l 0 he
  have hc : ∀ b, (Instr.checkKey b 10000 9 (.string ⟨⟨x⟩⟩)).run Tryz.prog w = .ok () w := fun b => MapKept.run_checkKey (k := .string ⟨⟨x⟩⟩) Tryz.underlying9 (by simp [MapKept.IsKey]) b 9999
  rw [hx] at hl
  cases r with
  | none => simp at hl
  | some p =>
    obtain ⟨j, u⟩ := p
    simp only [Option.map_some, Option.some.injEq] at hl
    subst hl
    simp [Instr.lookup, run_underlying Tryz.underlying93, MapKept.run_getObj_map hm, hc, MapKept.run_findKey Tryz.underlying9 hr, Result.andThen]
def bd0 (op : Int) : List Opd → Option XInsD
  | [] => some { insZ with op := op }
  | _ => none
def bd1 (op : Int) : List Opd → Option XInsD
  | [o] => if o.kind = 1 then some { insZ with op := op, dst := o.reg } else none
  | _ => none
def bdI : List Opd → Option XInsD
  | [o, q] => if o.kind = 2 ∧ q.kind = 1 then some { insZ with op := 2, imm := o.num, dst := q.reg } else none
  | _ => none
def bdL : List Opd → Option XInsD
  | [o, q] => if o.kind = 3 ∧ q.kind = 1 then some { insZ with op := 5, src := o.reg, imm := o.num, dst := q.reg } else if o.kind = 4 ∧ q.kind = 1 then some { insZ with op := 6, to_ := ⟨⟨o.name⟩⟩, dst := q.reg } else none
  | _ => none
theorem bd1_none {op : Int} {l : List Opd} (h : kindsB l [1] = false) : bd1 op l = none := by
  match l, h with
  | [], _ => rfl
  | [o], h =>
    have a : ¬ o.kind = 1 := fun e => by have := of_decide_eq_false h; simp [e] at this
    show (if _ then _ else _) = none
    rw [if_neg a]
  | o :: p :: r, _ => rfl
theorem bd0_none {op : Int} {l : List Opd} (h : kindsB l [] = false) : bd0 op l = none := by
  match l, h with
  | [], h => cases h
  | o :: r, _ => rfl
theorem kinds_nil {l : List Opd} (h : kindsB l [] = true) : l = [] := by
  have := of_decide_eq_true h
  simpa using this
theorem bdI_none {l : List Opd} (h : kindsB l [2, 1] = false) : bdI l = none := by
  match l, h with
  | [], _ => rfl
  | [o], _ => rfl
  | [o, q], h => show (if _ then _ else _) = none; rw [if_neg (kinds_not h)]
  | o :: q :: r :: s, _ => rfl
theorem bdL_none {l : List Opd} (h : kindsB l [3, 1] = false) (h2 : kindsB l [4, 1] = false) : bdL l = none := by
  match l, h, h2 with
  | [], _, _ => rfl
  | [o], _, _ => rfl
  | [o, q], h, h2 => show (if _ then _ else _) = none; rw [if_neg (kinds_not h), if_neg (kinds_not h2)]
  | o :: q :: r :: s, _, _ => rfl
def buildF (n : List UInt8) (l : List Opd) : Option XInsD :=
  if n = [99, 113, 116, 111] then bd0 27 l else if n = [114, 101, 116] then bd0 38 l else if n = [108, 102, 101, 110, 99, 101] then bd0 39 l else if n = [104, 108, 116] then bd0 41 l
  else if n = [105, 100, 105, 118, 113] then bd1 28 l else if n = [100, 105, 118, 113] then bd1 29 l else if n = [111, 117, 116, 113] then bd1 40 l
  else if n = [106, 109, 112] then jumpF false l else if n = [99, 97, 108, 108] then jumpF true l
  else if n = [109, 111, 118, 97, 98, 115, 113] then bdI l else if n = [108, 101, 97, 113] then bdL l
  else if Lib.hasPrefix n [109, 111, 118] = true then rmoveF (mvS n).1 (mvS n).2 l
  else match reckonF n l with
    | some x => some x
    | none => condiF n l
theorem bf_cqto (l : List Opd) : buildF [99, 113, 116, 111] l = bd0 27 l := by kernel_rfl
theorem bf_ret (l : List Opd) : buildF [114, 101, 116] l = bd0 38 l := by kernel_rfl
theorem bf_lfence (l : List Opd) : buildF [108, 102, 101, 110, 99, 101] l = bd0 39 l := by kernel_rfl
theorem bf_hlt (l : List Opd) : buildF [104, 108, 116] l = bd0 41 l := by kernel_rfl
theorem bf_idivq (l : List Opd) : buildF [105, 100, 105, 118, 113] l = bd1 28 l := by kernel_rfl
theorem bf_divq (l : List Opd) : buildF [100, 105, 118, 113] l = bd1 29 l := by kernel_rfl
theorem bf_outq (l : List Opd) : buildF [111, 117, 116, 113] l = bd1 40 l := by kernel_rfl
theorem bf_jmp (l : List Opd) : buildF [106, 109, 112] l = jumpF (decide ((⟨⟨[106, 109, 112]⟩⟩ : ByteArray) = callB)) l := by kernel_rfl
theorem bf_call (l : List Opd) : buildF [99, 97, 108, 108] l = jumpF (decide ((⟨⟨[99, 97, 108, 108]⟩⟩ : ByteArray) = callB)) l := by kernel_rfl
theorem bf_movabsq (l : List Opd) : buildF [109, 111, 118, 97, 98, 115, 113] l = bdI l := by kernel_rfl
theorem bf_leaq (l : List Opd) : buildF [108, 101, 97, 113] l = bdL l := by kernel_rfl
theorem kinds0_any (w : World) (B : Nat) (v : Value) (l : List Opd) (hl : RowO w B v l) (hlen : l.length ≤ 100000000) :
    Calls Tryz.prog 43 #[v, .slice none 0 0] w fun e w' => e = .returned (.bool (kindsB l [])) ∧ Below w.heap.size w w' := by
  obtain ⟨A, cap, rfl⟩ := hl.slice
  obtain ⟨n, hn⟩ : ∃ n, n = l.length := ⟨_, rfl⟩
  rw [← hn] at hl ⊢
  have HN := Lib.hid hn
  have hnb : n ≤ 100000000 := by omega
  clear hl hn hlen
  by_cases h0 : n = 0
  · subst h0
    have HKB := Lib.hid (show kindsB l [] = true by
      have : l = [] := List.length_eq_zero_iff.1 HN.out.symm
      rw [this]; rfl)
    go_enter Tryz.func43, Tryz.ntmps43
    go_wp2_with fail
    go_loopw [14] (fun i wr => i = .int .i64 0 ∧ Below w.heap.size w wr) (fun i _ => 0)
    case atStart => exact ⟨rfl, by first | exact Below.refl _ _ | exact Below.drew (Below.refl _ _)⟩
    case round =>
      rename World => wr
      obtain ⟨rfl, hb⟩ := hrel
      have HB := Lib.hid hb
      clear hb
      go_wp2_with fail
      go_returns
      exact ⟨by rw [HKB.out]; rfl, HB.out⟩
  · have dn : ((n : Int) != 0) = true := by simp; omega
    have HKB := Lib.hid (show kindsB l [] = false by
      unfold kindsB
      refine decide_eq_false (fun h => h0 ?_)
      have := congrArg List.length h
      simp at this
      have := HN.out
      simp_all)
    go_enter Tryz.func43, Tryz.ntmps43
    go_wp2_with fail
    go_returns
    exact ⟨by rw [HKB.out]; rfl, by first | exact Below.refl _ _ | exact Below.drew (Below.refl _ _)⟩
theorem build_any (w : World) (hG : GsOk w) (name : ByteArray) (B : Nat) (v : Value) (l : List Opd) (hl : RowO w B v l) (hlen : l.length ≤ 100000000) :
    Calls Tryz.prog 26 #[.string name, v] w (BldO (buildF name.data.toList l) w) := by
  have HROW := Lib.hid hl
  have HLEN := Lib.hid hlen
  have HG := Lib.hid hG
  clear hl hlen hG
  obtain ⟨Av, cv, hv⟩ := HROW.out.slice
  obtain ⟨nv, hnv⟩ : ∃ z, z = l.length := ⟨_, rfl⟩
  have HNV := Lib.hid hnv
  rw [← hnv] at hv
  clear hnv
  have HX0 := Lib.hid (blk_new w (.cells (insV insZ).toArray 23))
  have HB0 := Lib.hid (below_alloc (.cells (insV insZ).toArray 23) (Below.refl w.heap.size w))
  subst hv
  go_enter Tryz.func26, Tryz.ntmps26
  go_upto_region 1 with (fail)
  obtain ⟨w1, hw1⟩ : ∃ z, z = w.alloc (.cells (insV insZ).toArray 23) := ⟨_, rfl⟩
  change Code.wp _ _ _ _ (w.alloc (.cells (insV insZ).toArray 23))
  obtain ⟨g, hg⟩ : ∃ z, z = w.heap.size := ⟨_, rfl⟩
  have HGE := Lib.hid (show w.heap.size ≤ g by rw [hg]; exact Nat.le_refl _)
  rw [← hw1] at HX0 HB0 ⊢
  rw [← hg] at HX0 ⊢
  clear hw1 hg
  by_cases h0 : name.data.toList = [99, 113, 116, 111]
  · obtain rfl := nm_eq h0
    clear h0
    obtain ⟨m0, hm0⟩ : ∃ z, z = w1.alloc (.map #[] 0) := ⟨_, rfl⟩
    obtain ⟨mp, hmp⟩ : ∃ z, z = w1.heap.size := ⟨_, rfl⟩
    have hmm : (Instr.makeMap 93 none).run Tryz.prog w1 = .ok (.map (some mp)) m0 := by rw [hm0, hmp]; rfl
    have HM := Lib.hid (show m0.heap[mp]? = some (.map #[] 0) by rw [hm0, hmp]; exact blk_new _ _)
    have HB := Lib.hid (show Below w.heap.size w m0 by rw [hm0]; exact HB0.out.trans ((below_alloc _ (Below.refl _ _)).mono HB0.out.size))
    have HX := Lib.hid (show m0.heap[g]? = some (.cells (insV insZ).toArray 23 (0, 0)) by rw [hm0]; exact blk_below HX0.out (below_alloc _ (Below.refl _ _)))
    have hgm : g < mp := by rw [hmp]; exact blk_lt HX0.out
    have hwm : w.heap.size ≤ mp := by rw [hmp]; exact HB0.out.size
    clear hm0 hmp
    obtain ⟨m1, e1, c1, s1, t1, u1, v1, z1⟩ := ins_step (w := m0) (l := []) HM.out rfl [99, 113, 116, 111] (by kernel_rfl) 27
    have HM := Lib.hid t1
    have HB := Lib.hid (v1 _ _ hwm HB.out)
    have HX := Lib.hid ((z1 g (by omega)).trans HX.out)
    obtain ⟨m2, e2, c2, s2, t2, u2, v2, z2⟩ := ins_step (w := m1) (l := [([99, 113, 116, 111], 27)]) HM.out u1 [114, 101, 116] (by kernel_rfl) 38
    have HM := Lib.hid t2
    have HB := Lib.hid (v2 _ _ hwm HB.out)
    have HX := Lib.hid ((z2 g (by omega)).trans HX.out)
    obtain ⟨m3, e3, c3, s3, t3, u3, v3, z3⟩ := ins_step (w := m2) (l := [([99, 113, 116, 111], 27), ([114, 101, 116], 38)]) HM.out u2 [108, 102, 101, 110, 99, 101] (by kernel_rfl) 39
    have HM := Lib.hid t3
    have HB := Lib.hid (v3 _ _ hwm HB.out)
    have HX := Lib.hid ((z3 g (by omega)).trans HX.out)
    obtain ⟨m4, e4, c4, s4, t4, u4, v4, z4⟩ := ins_step (w := m3) (l := [([99, 113, 116, 111], 27), ([114, 101, 116], 38), ([108, 102, 101, 110, 99, 101], 39)]) HM.out u3 [104, 108, 116] (by kernel_rfl) 41
    have HM := Lib.hid t4
    have HB := Lib.hid (v4 _ _ hwm HB.out)
    have HX := Lib.hid ((z4 g (by omega)).trans HX.out)
    have hlk := lookN (w := m4) HM.out u4 [99, 113, 116, 111] (v := 27) (by kernel_rfl)
    clear t1 u1 v1 z1 t2 u2 v2 z2 t3 u3 v3 z3 t4 u4 v4 z4
    go_wp2_with fail
    refine (kinds0_any _ B (.slice Av nv cv) l (own_below HROW.out HB.out) HLEN.out).mono ?_
    rintro e w2 ⟨rfl, hb2⟩
    have HB2 := Lib.hid (HB.out.trans (hb2.mono HB.out.size))
    have HX2 := Lib.hid (blk_below HX.out hb2)
    clear hb2
    go_wp2_with (refine wsx g rfl rfl rfl rfl HX2 (by kernel_rfl) ?_; intro x7 k7 hb7 hz7 ho7; obtain ⟨q0, q1, q2, q3, q4, q5, q6, q7⟩ := cq k7)
    refine bodyPost_ret (by simp [results, Tryz.results26, go_sem, q0, q1, q2, q3, q4, q5, q6, q7]; try rfl) rfl ?_
    cases hk : kindsB l [] with
    | true =>
      obtain rfl := kinds_nil hk
      have hf : buildF [99, 113, 116, 111] [] = some { insZ with op := 27 } := by kernel_rfl
      exact ⟨_, true, rfl, (fun y hy => by rw [hf] at hy; cases hy; exact ⟨rfl, rfl⟩), (fun h => by rw [hf] at h; cases h), hb7 _ _ HGE.out (by first | exact HB2.out | exact Below.drew HB2.out)⟩
    | false =>
      have hf : buildF [99, 113, 116, 111] l = none := (bf_cqto l).trans (bd0_none hk)
      exact ⟨{ insZ with op := 27 }, false, rfl, (fun y hy => by rw [hf] at hy; cases hy), fun _ => rfl, hb7 _ _ HGE.out (by first | exact HB2.out | exact Below.drew HB2.out)⟩
  by_cases h1 : name.data.toList = [114, 101, 116]
  · obtain rfl := nm_eq h1
    clear h0 h1
    obtain ⟨m0, hm0⟩ : ∃ z, z = w1.alloc (.map #[] 0) := ⟨_, rfl⟩
    obtain ⟨mp, hmp⟩ : ∃ z, z = w1.heap.size := ⟨_, rfl⟩
    have hmm : (Instr.makeMap 93 none).run Tryz.prog w1 = .ok (.map (some mp)) m0 := by rw [hm0, hmp]; rfl
    have HM := Lib.hid (show m0.heap[mp]? = some (.map #[] 0) by rw [hm0, hmp]; exact blk_new _ _)
    have HB := Lib.hid (show Below w.heap.size w m0 by rw [hm0]; exact HB0.out.trans ((below_alloc _ (Below.refl _ _)).mono HB0.out.size))
    have HX := Lib.hid (show m0.heap[g]? = some (.cells (insV insZ).toArray 23 (0, 0)) by rw [hm0]; exact blk_below HX0.out (below_alloc _ (Below.refl _ _)))
    have hgm : g < mp := by rw [hmp]; exact blk_lt HX0.out
    have hwm : w.heap.size ≤ mp := by rw [hmp]; exact HB0.out.size
    clear hm0 hmp
    obtain ⟨m1, e1, c1, s1, t1, u1, v1, z1⟩ := ins_step (w := m0) (l := []) HM.out rfl [99, 113, 116, 111] (by kernel_rfl) 27
    have HM := Lib.hid t1
    have HB := Lib.hid (v1 _ _ hwm HB.out)
    have HX := Lib.hid ((z1 g (by omega)).trans HX.out)
    obtain ⟨m2, e2, c2, s2, t2, u2, v2, z2⟩ := ins_step (w := m1) (l := [([99, 113, 116, 111], 27)]) HM.out u1 [114, 101, 116] (by kernel_rfl) 38
    have HM := Lib.hid t2
    have HB := Lib.hid (v2 _ _ hwm HB.out)
    have HX := Lib.hid ((z2 g (by omega)).trans HX.out)
    obtain ⟨m3, e3, c3, s3, t3, u3, v3, z3⟩ := ins_step (w := m2) (l := [([99, 113, 116, 111], 27), ([114, 101, 116], 38)]) HM.out u2 [108, 102, 101, 110, 99, 101] (by kernel_rfl) 39
    have HM := Lib.hid t3
    have HB := Lib.hid (v3 _ _ hwm HB.out)
    have HX := Lib.hid ((z3 g (by omega)).trans HX.out)
    obtain ⟨m4, e4, c4, s4, t4, u4, v4, z4⟩ := ins_step (w := m3) (l := [([99, 113, 116, 111], 27), ([114, 101, 116], 38), ([108, 102, 101, 110, 99, 101], 39)]) HM.out u3 [104, 108, 116] (by kernel_rfl) 41
    have HM := Lib.hid t4
    have HB := Lib.hid (v4 _ _ hwm HB.out)
    have HX := Lib.hid ((z4 g (by omega)).trans HX.out)
    have hlk := lookN (w := m4) HM.out u4 [114, 101, 116] (v := 38) (by kernel_rfl)
    clear t1 u1 v1 z1 t2 u2 v2 z2 t3 u3 v3 z3 t4 u4 v4 z4
    go_wp2_with fail
    refine (kinds0_any _ B (.slice Av nv cv) l (own_below HROW.out HB.out) HLEN.out).mono ?_
    rintro e w2 ⟨rfl, hb2⟩
    have HB2 := Lib.hid (HB.out.trans (hb2.mono HB.out.size))
    have HX2 := Lib.hid (blk_below HX.out hb2)
    clear hb2
    go_wp2_with (refine wsx g rfl rfl rfl rfl HX2 (by kernel_rfl) ?_; intro x7 k7 hb7 hz7 ho7; obtain ⟨q0, q1, q2, q3, q4, q5, q6, q7⟩ := cq k7)
    refine bodyPost_ret (by simp [results, Tryz.results26, go_sem, q0, q1, q2, q3, q4, q5, q6, q7]; try rfl) rfl ?_
    cases hk : kindsB l [] with
    | true =>
      obtain rfl := kinds_nil hk
      have hf : buildF [114, 101, 116] [] = some { insZ with op := 38 } := by kernel_rfl
      exact ⟨_, true, rfl, (fun y hy => by rw [hf] at hy; cases hy; exact ⟨rfl, rfl⟩), (fun h => by rw [hf] at h; cases h), hb7 _ _ HGE.out (by first | exact HB2.out | exact Below.drew HB2.out)⟩
    | false =>
      have hf : buildF [114, 101, 116] l = none := (bf_ret l).trans (bd0_none hk)
      exact ⟨{ insZ with op := 38 }, false, rfl, (fun y hy => by rw [hf] at hy; cases hy), fun _ => rfl, hb7 _ _ HGE.out (by first | exact HB2.out | exact Below.drew HB2.out)⟩
  by_cases h2 : name.data.toList = [108, 102, 101, 110, 99, 101]
  · obtain rfl := nm_eq h2
    clear h0 h1 h2
    obtain ⟨m0, hm0⟩ : ∃ z, z = w1.alloc (.map #[] 0) := ⟨_, rfl⟩
    obtain ⟨mp, hmp⟩ : ∃ z, z = w1.heap.size := ⟨_, rfl⟩
    have hmm : (Instr.makeMap 93 none).run Tryz.prog w1 = .ok (.map (some mp)) m0 := by rw [hm0, hmp]; rfl
    have HM := Lib.hid (show m0.heap[mp]? = some (.map #[] 0) by rw [hm0, hmp]; exact blk_new _ _)
    have HB := Lib.hid (show Below w.heap.size w m0 by rw [hm0]; exact HB0.out.trans ((below_alloc _ (Below.refl _ _)).mono HB0.out.size))
    have HX := Lib.hid (show m0.heap[g]? = some (.cells (insV insZ).toArray 23 (0, 0)) by rw [hm0]; exact blk_below HX0.out (below_alloc _ (Below.refl _ _)))
    have hgm : g < mp := by rw [hmp]; exact blk_lt HX0.out
    have hwm : w.heap.size ≤ mp := by rw [hmp]; exact HB0.out.size
    clear hm0 hmp
    obtain ⟨m1, e1, c1, s1, t1, u1, v1, z1⟩ := ins_step (w := m0) (l := []) HM.out rfl [99, 113, 116, 111] (by kernel_rfl) 27
    have HM := Lib.hid t1
    have HB := Lib.hid (v1 _ _ hwm HB.out)
    have HX := Lib.hid ((z1 g (by omega)).trans HX.out)
    obtain ⟨m2, e2, c2, s2, t2, u2, v2, z2⟩ := ins_step (w := m1) (l := [([99, 113, 116, 111], 27)]) HM.out u1 [114, 101, 116] (by kernel_rfl) 38
    have HM := Lib.hid t2
    have HB := Lib.hid (v2 _ _ hwm HB.out)
    have HX := Lib.hid ((z2 g (by omega)).trans HX.out)
    obtain ⟨m3, e3, c3, s3, t3, u3, v3, z3⟩ := ins_step (w := m2) (l := [([99, 113, 116, 111], 27), ([114, 101, 116], 38)]) HM.out u2 [108, 102, 101, 110, 99, 101] (by kernel_rfl) 39
    have HM := Lib.hid t3
    have HB := Lib.hid (v3 _ _ hwm HB.out)
    have HX := Lib.hid ((z3 g (by omega)).trans HX.out)
    obtain ⟨m4, e4, c4, s4, t4, u4, v4, z4⟩ := ins_step (w := m3) (l := [([99, 113, 116, 111], 27), ([114, 101, 116], 38), ([108, 102, 101, 110, 99, 101], 39)]) HM.out u3 [104, 108, 116] (by kernel_rfl) 41
    have HM := Lib.hid t4
    have HB := Lib.hid (v4 _ _ hwm HB.out)
    have HX := Lib.hid ((z4 g (by omega)).trans HX.out)
    have hlk := lookN (w := m4) HM.out u4 [108, 102, 101, 110, 99, 101] (v := 39) (by kernel_rfl)
    clear t1 u1 v1 z1 t2 u2 v2 z2 t3 u3 v3 z3 t4 u4 v4 z4
    go_wp2_with fail
    refine (kinds0_any _ B (.slice Av nv cv) l (own_below HROW.out HB.out) HLEN.out).mono ?_
    rintro e w2 ⟨rfl, hb2⟩
    have HB2 := Lib.hid (HB.out.trans (hb2.mono HB.out.size))
    have HX2 := Lib.hid (blk_below HX.out hb2)
    clear hb2
    go_wp2_with (refine wsx g rfl rfl rfl rfl HX2 (by kernel_rfl) ?_; intro x7 k7 hb7 hz7 ho7; obtain ⟨q0, q1, q2, q3, q4, q5, q6, q7⟩ := cq k7)
    refine bodyPost_ret (by simp [results, Tryz.results26, go_sem, q0, q1, q2, q3, q4, q5, q6, q7]; try rfl) rfl ?_
    cases hk : kindsB l [] with
    | true =>
      obtain rfl := kinds_nil hk
      have hf : buildF [108, 102, 101, 110, 99, 101] [] = some { insZ with op := 39 } := by kernel_rfl
      exact ⟨_, true, rfl, (fun y hy => by rw [hf] at hy; cases hy; exact ⟨rfl, rfl⟩), (fun h => by rw [hf] at h; cases h), hb7 _ _ HGE.out (by first | exact HB2.out | exact Below.drew HB2.out)⟩
    | false =>
      have hf : buildF [108, 102, 101, 110, 99, 101] l = none := (bf_lfence l).trans (bd0_none hk)
      exact ⟨{ insZ with op := 39 }, false, rfl, (fun y hy => by rw [hf] at hy; cases hy), fun _ => rfl, hb7 _ _ HGE.out (by first | exact HB2.out | exact Below.drew HB2.out)⟩
  by_cases h3 : name.data.toList = [104, 108, 116]
  · obtain rfl := nm_eq h3
    clear h0 h1 h2 h3
    obtain ⟨m0, hm0⟩ : ∃ z, z = w1.alloc (.map #[] 0) := ⟨_, rfl⟩
    obtain ⟨mp, hmp⟩ : ∃ z, z = w1.heap.size := ⟨_, rfl⟩
    have hmm : (Instr.makeMap 93 none).run Tryz.prog w1 = .ok (.map (some mp)) m0 := by rw [hm0, hmp]; rfl
    have HM := Lib.hid (show m0.heap[mp]? = some (.map #[] 0) by rw [hm0, hmp]; exact blk_new _ _)
    have HB := Lib.hid (show Below w.heap.size w m0 by rw [hm0]; exact HB0.out.trans ((below_alloc _ (Below.refl _ _)).mono HB0.out.size))
    have HX := Lib.hid (show m0.heap[g]? = some (.cells (insV insZ).toArray 23 (0, 0)) by rw [hm0]; exact blk_below HX0.out (below_alloc _ (Below.refl _ _)))
    have hgm : g < mp := by rw [hmp]; exact blk_lt HX0.out
    have hwm : w.heap.size ≤ mp := by rw [hmp]; exact HB0.out.size
    clear hm0 hmp
    obtain ⟨m1, e1, c1, s1, t1, u1, v1, z1⟩ := ins_step (w := m0) (l := []) HM.out rfl [99, 113, 116, 111] (by kernel_rfl) 27
    have HM := Lib.hid t1
    have HB := Lib.hid (v1 _ _ hwm HB.out)
    have HX := Lib.hid ((z1 g (by omega)).trans HX.out)
    obtain ⟨m2, e2, c2, s2, t2, u2, v2, z2⟩ := ins_step (w := m1) (l := [([99, 113, 116, 111], 27)]) HM.out u1 [114, 101, 116] (by kernel_rfl) 38
    have HM := Lib.hid t2
    have HB := Lib.hid (v2 _ _ hwm HB.out)
    have HX := Lib.hid ((z2 g (by omega)).trans HX.out)
    obtain ⟨m3, e3, c3, s3, t3, u3, v3, z3⟩ := ins_step (w := m2) (l := [([99, 113, 116, 111], 27), ([114, 101, 116], 38)]) HM.out u2 [108, 102, 101, 110, 99, 101] (by kernel_rfl) 39
    have HM := Lib.hid t3
    have HB := Lib.hid (v3 _ _ hwm HB.out)
    have HX := Lib.hid ((z3 g (by omega)).trans HX.out)
    obtain ⟨m4, e4, c4, s4, t4, u4, v4, z4⟩ := ins_step (w := m3) (l := [([99, 113, 116, 111], 27), ([114, 101, 116], 38), ([108, 102, 101, 110, 99, 101], 39)]) HM.out u3 [104, 108, 116] (by kernel_rfl) 41
    have HM := Lib.hid t4
    have HB := Lib.hid (v4 _ _ hwm HB.out)
    have HX := Lib.hid ((z4 g (by omega)).trans HX.out)
    have hlk := lookN (w := m4) HM.out u4 [104, 108, 116] (v := 41) (by kernel_rfl)
    clear t1 u1 v1 z1 t2 u2 v2 z2 t3 u3 v3 z3 t4 u4 v4 z4
    go_wp2_with fail
    refine (kinds0_any _ B (.slice Av nv cv) l (own_below HROW.out HB.out) HLEN.out).mono ?_
    rintro e w2 ⟨rfl, hb2⟩
    have HB2 := Lib.hid (HB.out.trans (hb2.mono HB.out.size))
    have HX2 := Lib.hid (blk_below HX.out hb2)
    clear hb2
    go_wp2_with (refine wsx g rfl rfl rfl rfl HX2 (by kernel_rfl) ?_; intro x7 k7 hb7 hz7 ho7; obtain ⟨q0, q1, q2, q3, q4, q5, q6, q7⟩ := cq k7)
    refine bodyPost_ret (by simp [results, Tryz.results26, go_sem, q0, q1, q2, q3, q4, q5, q6, q7]; try rfl) rfl ?_
    cases hk : kindsB l [] with
    | true =>
      obtain rfl := kinds_nil hk
      have hf : buildF [104, 108, 116] [] = some { insZ with op := 41 } := by kernel_rfl
      exact ⟨_, true, rfl, (fun y hy => by rw [hf] at hy; cases hy; exact ⟨rfl, rfl⟩), (fun h => by rw [hf] at h; cases h), hb7 _ _ HGE.out (by first | exact HB2.out | exact Below.drew HB2.out)⟩
    | false =>
      have hf : buildF [104, 108, 116] l = none := (bf_hlt l).trans (bd0_none hk)
      exact ⟨{ insZ with op := 41 }, false, rfl, (fun y hy => by rw [hf] at hy; cases hy), fun _ => rfl, hb7 _ _ HGE.out (by first | exact HB2.out | exact Below.drew HB2.out)⟩
  by_cases h4 : name.data.toList = [105, 100, 105, 118, 113]
  · obtain rfl := nm_eq h4
    clear h0 h1 h2 h3 h4
    obtain ⟨m0, hm0⟩ : ∃ z, z = w1.alloc (.map #[] 0) := ⟨_, rfl⟩
    obtain ⟨mp, hmp⟩ : ∃ z, z = w1.heap.size := ⟨_, rfl⟩
    have hmm : (Instr.makeMap 93 none).run Tryz.prog w1 = .ok (.map (some mp)) m0 := by rw [hm0, hmp]; rfl
    have HM := Lib.hid (show m0.heap[mp]? = some (.map #[] 0) by rw [hm0, hmp]; exact blk_new _ _)
    have HB := Lib.hid (show Below w.heap.size w m0 by rw [hm0]; exact HB0.out.trans ((below_alloc _ (Below.refl _ _)).mono HB0.out.size))
    have HX := Lib.hid (show m0.heap[g]? = some (.cells (insV insZ).toArray 23 (0, 0)) by rw [hm0]; exact blk_below HX0.out (below_alloc _ (Below.refl _ _)))
    have hgm : g < mp := by rw [hmp]; exact blk_lt HX0.out
    have hwm : w.heap.size ≤ mp := by rw [hmp]; exact HB0.out.size
    clear hm0 hmp
    obtain ⟨m1, e1, c1, s1, t1, u1, v1, z1⟩ := ins_step (w := m0) (l := []) HM.out rfl [105, 100, 105, 118, 113] (by kernel_rfl) 28
    have HM := Lib.hid t1
    have HB := Lib.hid (v1 _ _ hwm HB.out)
    have HX := Lib.hid ((z1 g (by omega)).trans HX.out)
    obtain ⟨m2, e2, c2, s2, t2, u2, v2, z2⟩ := ins_step (w := m1) (l := [([105, 100, 105, 118, 113], 28)]) HM.out u1 [100, 105, 118, 113] (by kernel_rfl) 29
    have HM := Lib.hid t2
    have HB := Lib.hid (v2 _ _ hwm HB.out)
    have HX := Lib.hid ((z2 g (by omega)).trans HX.out)
    obtain ⟨m3, e3, c3, s3, t3, u3, v3, z3⟩ := ins_step (w := m2) (l := [([105, 100, 105, 118, 113], 28), ([100, 105, 118, 113], 29)]) HM.out u2 [111, 117, 116, 113] (by kernel_rfl) 40
    have HM := Lib.hid t3
    have HB := Lib.hid (v3 _ _ hwm HB.out)
    have HX := Lib.hid ((z3 g (by omega)).trans HX.out)
    have hlk := lookN (w := m3) HM.out u3 [105, 100, 105, 118, 113] (v := 28) (by kernel_rfl)
    clear t1 u1 v1 z1 t2 u2 v2 z2 t3 u3 v3 z3
    have hb1 := below_alloc (.cells #[.int .i64 1] 3) (Below.refl m3.heap.size m3)
    have HBa := Lib.hid (HB.out.trans (hb1.mono HB.out.size))
    have HXa := Lib.hid (blk_below HX.out hb1)
    clear hb1
    go_wp2_with fail
    refine (kinds_any _ B (.slice Av nv cv) l (own_below HROW.out HBa.out) HLEN.out [1] (by decide) m3.heap.size 1 #[.int .i64 1] rfl rfl (blk_new m3 _)).mono ?_
    rintro e w2 ⟨rfl, hb2⟩
    have HB2 := Lib.hid (HBa.out.trans (hb2.mono HBa.out.size))
    have HX2 := Lib.hid (blk_below HXa.out hb2)
    clear hb2
    cases hk : kindsB l [1] with
    | true =>
      obtain ⟨o, rfl, hok⟩ := kinds_one hk
      have HOK := Lib.hid hok
      clear hok hk
      obtain rfl : nv = 1 := HNV.out
      obtain ⟨gl, rfl, hcell⟩ := RowO.cells (own_below HROW.out HB2.out) rfl (i := 0) rfl
      have r1 : w2.cell? ⟨gl, 1, none⟩ = some (.int .i64 o.reg) := hcell 1 (by decide)
      have rl := World.block_lt_of_cell? _ _ r1
      clear hcell
      go_wp2_with (refine wsx g rfl rfl rfl rfl HX2 (by kernel_rfl) ?_; intro x7 k7 hb7 hz7 ho7; obtain ⟨q0, q1, q2, q3, q4, q5, q6, q7⟩ := cq k7)
      refine bodyPost_ret (by simp [results, Tryz.results26, go_sem, q0, q1, q2, q3, q4, q5, q6, q7]; try rfl) rfl ?_
      have hf : buildF [105, 100, 105, 118, 113] [o] = some { insZ with op := 28, dst := o.reg } := (bf_idivq [o]).trans ((show (if _ then _ else _) = _ from (if_pos HOK.out).trans rfl))
      exact ⟨_, true, rfl, (fun y hy => by rw [hf] at hy; cases hy; exact ⟨rfl, rfl⟩), (fun h => by rw [hf] at h; cases h), hb7 _ _ HGE.out (by first | exact HB2.out | exact Below.drew HB2.out)⟩
    | false =>
      go_wp2_with (refine wsx g rfl rfl rfl rfl HX2 (by kernel_rfl) ?_; intro x7 k7 hb7 hz7 ho7; obtain ⟨q0, q1, q2, q3, q4, q5, q6, q7⟩ := cq k7)
      refine bodyPost_ret (by simp [results, Tryz.results26, go_sem, q0, q1, q2, q3, q4, q5, q6, q7]; try rfl) rfl ?_
      have hf : buildF [105, 100, 105, 118, 113] l = none := (bf_idivq l).trans (bd1_none hk)
      exact ⟨insZ, false, rfl, (fun y hy => by rw [hf] at hy; cases hy), fun _ => rfl, hb7 _ _ HGE.out (by first | exact HB2.out | exact Below.drew HB2.out)⟩
  by_cases h5 : name.data.toList = [100, 105, 118, 113]
  · obtain rfl := nm_eq h5
    clear h0 h1 h2 h3 h4 h5
    obtain ⟨m0, hm0⟩ : ∃ z, z = w1.alloc (.map #[] 0) := ⟨_, rfl⟩
    obtain ⟨mp, hmp⟩ : ∃ z, z = w1.heap.size := ⟨_, rfl⟩
    have hmm : (Instr.makeMap 93 none).run Tryz.prog w1 = .ok (.map (some mp)) m0 := by rw [hm0, hmp]; rfl
    have HM := Lib.hid (show m0.heap[mp]? = some (.map #[] 0) by rw [hm0, hmp]; exact blk_new _ _)
    have HB := Lib.hid (show Below w.heap.size w m0 by rw [hm0]; exact HB0.out.trans ((below_alloc _ (Below.refl _ _)).mono HB0.out.size))
    have HX := Lib.hid (show m0.heap[g]? = some (.cells (insV insZ).toArray 23 (0, 0)) by rw [hm0]; exact blk_below HX0.out (below_alloc _ (Below.refl _ _)))
    have hgm : g < mp := by rw [hmp]; exact blk_lt HX0.out
    have hwm : w.heap.size ≤ mp := by rw [hmp]; exact HB0.out.size
    clear hm0 hmp
    obtain ⟨m1, e1, c1, s1, t1, u1, v1, z1⟩ := ins_step (w := m0) (l := []) HM.out rfl [105, 100, 105, 118, 113] (by kernel_rfl) 28
    have HM := Lib.hid t1
    have HB := Lib.hid (v1 _ _ hwm HB.out)
    have HX := Lib.hid ((z1 g (by omega)).trans HX.out)
    obtain ⟨m2, e2, c2, s2, t2, u2, v2, z2⟩ := ins_step (w := m1) (l := [([105, 100, 105, 118, 113], 28)]) HM.out u1 [100, 105, 118, 113] (by kernel_rfl) 29
    have HM := Lib.hid t2
    have HB := Lib.hid (v2 _ _ hwm HB.out)
    have HX := Lib.hid ((z2 g (by omega)).trans HX.out)
    obtain ⟨m3, e3, c3, s3, t3, u3, v3, z3⟩ := ins_step (w := m2) (l := [([105, 100, 105, 118, 113], 28), ([100, 105, 118, 113], 29)]) HM.out u2 [111, 117, 116, 113] (by kernel_rfl) 40
    have HM := Lib.hid t3
    have HB := Lib.hid (v3 _ _ hwm HB.out)
    have HX := Lib.hid ((z3 g (by omega)).trans HX.out)
    have hlk := lookN (w := m3) HM.out u3 [100, 105, 118, 113] (v := 29) (by kernel_rfl)
    clear t1 u1 v1 z1 t2 u2 v2 z2 t3 u3 v3 z3
    have hb1 := below_alloc (.cells #[.int .i64 1] 3) (Below.refl m3.heap.size m3)
    have HBa := Lib.hid (HB.out.trans (hb1.mono HB.out.size))
    have HXa := Lib.hid (blk_below HX.out hb1)
    clear hb1
    go_wp2_with fail
    refine (kinds_any _ B (.slice Av nv cv) l (own_below HROW.out HBa.out) HLEN.out [1] (by decide) m3.heap.size 1 #[.int .i64 1] rfl rfl (blk_new m3 _)).mono ?_
    rintro e w2 ⟨rfl, hb2⟩
    have HB2 := Lib.hid (HBa.out.trans (hb2.mono HBa.out.size))
    have HX2 := Lib.hid (blk_below HXa.out hb2)
    clear hb2
    cases hk : kindsB l [1] with
    | true =>
      obtain ⟨o, rfl, hok⟩ := kinds_one hk
      have HOK := Lib.hid hok
      clear hok hk
      obtain rfl : nv = 1 := HNV.out
      obtain ⟨gl, rfl, hcell⟩ := RowO.cells (own_below HROW.out HB2.out) rfl (i := 0) rfl
      have r1 : w2.cell? ⟨gl, 1, none⟩ = some (.int .i64 o.reg) := hcell 1 (by decide)
      have rl := World.block_lt_of_cell? _ _ r1
      clear hcell
      go_wp2_with (refine wsx g rfl rfl rfl rfl HX2 (by kernel_rfl) ?_; intro x7 k7 hb7 hz7 ho7; obtain ⟨q0, q1, q2, q3, q4, q5, q6, q7⟩ := cq k7)
      refine bodyPost_ret (by simp [results, Tryz.results26, go_sem, q0, q1, q2, q3, q4, q5, q6, q7]; try rfl) rfl ?_
      have hf : buildF [100, 105, 118, 113] [o] = some { insZ with op := 29, dst := o.reg } := (bf_divq [o]).trans ((show (if _ then _ else _) = _ from (if_pos HOK.out).trans rfl))
      exact ⟨_, true, rfl, (fun y hy => by rw [hf] at hy; cases hy; exact ⟨rfl, rfl⟩), (fun h => by rw [hf] at h; cases h), hb7 _ _ HGE.out (by first | exact HB2.out | exact Below.drew HB2.out)⟩
    | false =>
      go_wp2_with (refine wsx g rfl rfl rfl rfl HX2 (by kernel_rfl) ?_; intro x7 k7 hb7 hz7 ho7; obtain ⟨q0, q1, q2, q3, q4, q5, q6, q7⟩ := cq k7)
      refine bodyPost_ret (by simp [results, Tryz.results26, go_sem, q0, q1, q2, q3, q4, q5, q6, q7]; try rfl) rfl ?_
      have hf : buildF [100, 105, 118, 113] l = none := (bf_divq l).trans (bd1_none hk)
      exact ⟨insZ, false, rfl, (fun y hy => by rw [hf] at hy; cases hy), fun _ => rfl, hb7 _ _ HGE.out (by first | exact HB2.out | exact Below.drew HB2.out)⟩
  by_cases h6 : name.data.toList = [111, 117, 116, 113]
  · obtain rfl := nm_eq h6
    clear h0 h1 h2 h3 h4 h5 h6
    obtain ⟨m0, hm0⟩ : ∃ z, z = w1.alloc (.map #[] 0) := ⟨_, rfl⟩
    obtain ⟨mp, hmp⟩ : ∃ z, z = w1.heap.size := ⟨_, rfl⟩
    have hmm : (Instr.makeMap 93 none).run Tryz.prog w1 = .ok (.map (some mp)) m0 := by rw [hm0, hmp]; rfl
    have HM := Lib.hid (show m0.heap[mp]? = some (.map #[] 0) by rw [hm0, hmp]; exact blk_new _ _)
    have HB := Lib.hid (show Below w.heap.size w m0 by rw [hm0]; exact HB0.out.trans ((below_alloc _ (Below.refl _ _)).mono HB0.out.size))
    have HX := Lib.hid (show m0.heap[g]? = some (.cells (insV insZ).toArray 23 (0, 0)) by rw [hm0]; exact blk_below HX0.out (below_alloc _ (Below.refl _ _)))
    have hgm : g < mp := by rw [hmp]; exact blk_lt HX0.out
    have hwm : w.heap.size ≤ mp := by rw [hmp]; exact HB0.out.size
    clear hm0 hmp
    obtain ⟨m1, e1, c1, s1, t1, u1, v1, z1⟩ := ins_step (w := m0) (l := []) HM.out rfl [105, 100, 105, 118, 113] (by kernel_rfl) 28
    have HM := Lib.hid t1
    have HB := Lib.hid (v1 _ _ hwm HB.out)
    have HX := Lib.hid ((z1 g (by omega)).trans HX.out)
    obtain ⟨m2, e2, c2, s2, t2, u2, v2, z2⟩ := ins_step (w := m1) (l := [([105, 100, 105, 118, 113], 28)]) HM.out u1 [100, 105, 118, 113] (by kernel_rfl) 29
    have HM := Lib.hid t2
    have HB := Lib.hid (v2 _ _ hwm HB.out)
    have HX := Lib.hid ((z2 g (by omega)).trans HX.out)
    obtain ⟨m3, e3, c3, s3, t3, u3, v3, z3⟩ := ins_step (w := m2) (l := [([105, 100, 105, 118, 113], 28), ([100, 105, 118, 113], 29)]) HM.out u2 [111, 117, 116, 113] (by kernel_rfl) 40
    have HM := Lib.hid t3
    have HB := Lib.hid (v3 _ _ hwm HB.out)
    have HX := Lib.hid ((z3 g (by omega)).trans HX.out)
    have hlk := lookN (w := m3) HM.out u3 [111, 117, 116, 113] (v := 40) (by kernel_rfl)
    clear t1 u1 v1 z1 t2 u2 v2 z2 t3 u3 v3 z3
    have hb1 := below_alloc (.cells #[.int .i64 1] 3) (Below.refl m3.heap.size m3)
    have HBa := Lib.hid (HB.out.trans (hb1.mono HB.out.size))
    have HXa := Lib.hid (blk_below HX.out hb1)
    clear hb1
    go_wp2_with fail
    refine (kinds_any _ B (.slice Av nv cv) l (own_below HROW.out HBa.out) HLEN.out [1] (by decide) m3.heap.size 1 #[.int .i64 1] rfl rfl (blk_new m3 _)).mono ?_
    rintro e w2 ⟨rfl, hb2⟩
    have HB2 := Lib.hid (HBa.out.trans (hb2.mono HBa.out.size))
    have HX2 := Lib.hid (blk_below HXa.out hb2)
    clear hb2
    cases hk : kindsB l [1] with
    | true =>
      obtain ⟨o, rfl, hok⟩ := kinds_one hk
      have HOK := Lib.hid hok
      clear hok hk
      obtain rfl : nv = 1 := HNV.out
      obtain ⟨gl, rfl, hcell⟩ := RowO.cells (own_below HROW.out HB2.out) rfl (i := 0) rfl
      have r1 : w2.cell? ⟨gl, 1, none⟩ = some (.int .i64 o.reg) := hcell 1 (by decide)
      have rl := World.block_lt_of_cell? _ _ r1
      clear hcell
      go_wp2_with (refine wsx g rfl rfl rfl rfl HX2 (by kernel_rfl) ?_; intro x7 k7 hb7 hz7 ho7; obtain ⟨q0, q1, q2, q3, q4, q5, q6, q7⟩ := cq k7)
      refine bodyPost_ret (by simp [results, Tryz.results26, go_sem, q0, q1, q2, q3, q4, q5, q6, q7]; try rfl) rfl ?_
      have hf : buildF [111, 117, 116, 113] [o] = some { insZ with op := 40, dst := o.reg } := (bf_outq [o]).trans ((show (if _ then _ else _) = _ from (if_pos HOK.out).trans rfl))
      exact ⟨_, true, rfl, (fun y hy => by rw [hf] at hy; cases hy; exact ⟨rfl, rfl⟩), (fun h => by rw [hf] at h; cases h), hb7 _ _ HGE.out (by first | exact HB2.out | exact Below.drew HB2.out)⟩
    | false =>
      go_wp2_with (refine wsx g rfl rfl rfl rfl HX2 (by kernel_rfl) ?_; intro x7 k7 hb7 hz7 ho7; obtain ⟨q0, q1, q2, q3, q4, q5, q6, q7⟩ := cq k7)
      refine bodyPost_ret (by simp [results, Tryz.results26, go_sem, q0, q1, q2, q3, q4, q5, q6, q7]; try rfl) rfl ?_
      have hf : buildF [111, 117, 116, 113] l = none := (bf_outq l).trans (bd1_none hk)
      exact ⟨insZ, false, rfl, (fun y hy => by rw [hf] at hy; cases hy), fun _ => rfl, hb7 _ _ HGE.out (by first | exact HB2.out | exact Below.drew HB2.out)⟩
  by_cases h7 : name.data.toList = [106, 109, 112]
  · obtain rfl := nm_eq h7
    clear h0 h1 h2 h3 h4 h5 h6 h7
    go_wp2_with fail
    refine (jump_any w1 _ B (.slice Av nv cv) l (own_below HROW.out HB0.out) HLEN.out).mono ?_
    rintro e w2 ⟨x, b, rfl, hy, hn, hb2⟩
    have HY := Lib.hid hy
    have HN := Lib.hid hn
    have HB2 := Lib.hid (HB0.out.trans (hb2.mono HB0.out.size))
    have HX2 := Lib.hid (blk_below HX0.out hb2)
    clear hy hn hb2
    go_wp2_with (refine wsx g rfl rfl rfl rfl HX2 (by kernel_rfl) ?_; intro x7 k7 hb7 hz7 ho7; obtain ⟨q0, q1, q2, q3, q4, q5, q6, q7⟩ := cq k7)
    refine bodyPost_ret (by simp [results, Tryz.results26, go_sem, q0, q1, q2, q3, q4, q5, q6, q7]; try rfl) rfl ?_
    exact ⟨x, b, rfl, (fun y h => HY.out y (by rw [← h]; exact (bf_jmp l).symm)), (fun h => HN.out (by rw [← h]; exact (bf_jmp l).symm)), hb7 _ _ HGE.out HB2.out⟩
  by_cases h8 : name.data.toList = [99, 97, 108, 108]
  · obtain rfl := nm_eq h8
    clear h0 h1 h2 h3 h4 h5 h6 h7 h8
    go_wp2_with fail
    refine (jump_any w1 _ B (.slice Av nv cv) l (own_below HROW.out HB0.out) HLEN.out).mono ?_
    rintro e w2 ⟨x, b, rfl, hy, hn, hb2⟩
    have HY := Lib.hid hy
    have HN := Lib.hid hn
    have HB2 := Lib.hid (HB0.out.trans (hb2.mono HB0.out.size))
    have HX2 := Lib.hid (blk_below HX0.out hb2)
    clear hy hn hb2
    go_wp2_with (refine wsx g rfl rfl rfl rfl HX2 (by kernel_rfl) ?_; intro x7 k7 hb7 hz7 ho7; obtain ⟨q0, q1, q2, q3, q4, q5, q6, q7⟩ := cq k7)
    refine bodyPost_ret (by simp [results, Tryz.results26, go_sem, q0, q1, q2, q3, q4, q5, q6, q7]; try rfl) rfl ?_
    exact ⟨x, b, rfl, (fun y h => HY.out y (by rw [← h]; exact (bf_call l).symm)), (fun h => HN.out (by rw [← h]; exact (bf_call l).symm)), hb7 _ _ HGE.out HB2.out⟩
  by_cases h9 : name.data.toList = [109, 111, 118, 97, 98, 115, 113]
  · obtain rfl := nm_eq h9
    clear h0 h1 h2 h3 h4 h5 h6 h7 h8 h9
    have hb1 := below_alloc (.cells #[.int .i64 2, .int .i64 1] 3) (Below.refl w1.heap.size w1)
    have HBa := Lib.hid (HB0.out.trans (hb1.mono HB0.out.size))
    have HXa := Lib.hid (blk_below HX0.out hb1)
    clear hb1
    go_wp2_with fail
    refine (kinds_any _ B (.slice Av nv cv) l (own_below HROW.out HBa.out) HLEN.out [2, 1] (by decide) w1.heap.size 2 #[.int .i64 2, .int .i64 1] rfl rfl (blk_new w1 _)).mono ?_
    rintro e w2 ⟨rfl, hb2⟩
    have HB2 := Lib.hid (HBa.out.trans (hb2.mono HBa.out.size))
    have HX2 := Lib.hid (blk_below HXa.out hb2)
    clear hb2
    cases hk : kindsB l [2, 1] with
    | true =>
      obtain ⟨o, q, rfl, hok, hqk⟩ := kinds_two hk
      have HOK := Lib.hid hok
      have HQK := Lib.hid hqk
      clear hok hqk hk
      obtain rfl : nv = 2 := HNV.out
      obtain ⟨gl, rfl, hcell⟩ := RowO.cells (own_below HROW.out HB2.out) rfl (i := 0) rfl
      obtain ⟨gl2, e2, hcell2⟩ := RowO.cells (own_below HROW.out HB2.out) rfl (i := 1) rfl
      cases e2
      have r1 : w2.cell? ⟨gl, 1, none⟩ = some (.int .i64 o.reg) := hcell 1 (by decide)
      have r3 : w2.cell? ⟨gl, 3, none⟩ = some (.int .i64 o.num) := hcell 3 (by decide)
      have r4 : w2.cell? ⟨gl, 4, none⟩ = some (.string ⟨⟨o.name⟩⟩) := hcell 4 (by decide)
      have r6 : w2.cell? ⟨gl, 6, none⟩ = some (.int .i64 q.reg) := hcell2 1 (by decide)
      have rl := World.block_lt_of_cell? _ _ r1
      clear hcell hcell2
      go_upto_region 21 with (fail)
      refine upto_begin 9 (fun w' => w'.cell? ⟨gl, 1, none⟩ = some (.int .i64 o.reg) ∧ w'.cell? ⟨gl, 3, none⟩ = some (.int .i64 o.num) ∧ w'.cell? ⟨gl, 4, none⟩ = some (.string ⟨⟨o.name⟩⟩) ∧ w'.cell? ⟨gl, 6, none⟩ = some (.int .i64 q.reg)) (by kernel_rfl) ?_ (fun hU0 => ?_)
      · exact ⟨r1, r3, r4, r6⟩
      refine ur 0 (v := ?_) hU0 rfl (by kernel_rfl) (fun _ _ _ h => h) rfl ?_ ?_
      rotate_left
      focus intro w _; go_simp; first | done | with_reducible rfl
      try simp only [Act.put, List.setIfInBounds_toArray, List.set_cons_zero, List.set_cons_succ]
      refine ur 1 (v := ?_) hU0 rfl (by kernel_rfl) (fun _ _ _ h => h) rfl ?_ ?_
      rotate_left
      focus intro w _; go_simp; first | done | with_reducible rfl
      try simp only [Act.put, List.setIfInBounds_toArray, List.set_cons_zero, List.set_cons_succ]
      refine ur 2 (v := ?_) hU0 rfl (by kernel_rfl) (fun _ _ _ h => h) rfl ?_ ?_
      rotate_left
      focus intro w _; go_simp; first | done | with_reducible rfl
      try simp only [Act.put, List.setIfInBounds_toArray, List.set_cons_zero, List.set_cons_succ]
      refine urd 3 (v := ?_) hU0 rfl (by kernel_rfl) (fun _ _ _ h => h) rfl ?_ ?_
      rotate_left
      focus intro w hSw; (try dsimp only at hSw); go_simp; first | done | with_reducible rfl
      try simp only [Act.put, List.setIfInBounds_toArray, List.set_cons_zero, List.set_cons_succ]
      refine ur 4 (v := ?_) hU0 rfl (by kernel_rfl) (fun _ _ _ h => h) rfl ?_ ?_
      rotate_left
      focus intro w _; go_simp; first | done | with_reducible rfl
      try simp only [Act.put, List.setIfInBounds_toArray, List.set_cons_zero, List.set_cons_succ]
      refine ur 5 (v := ?_) hU0 rfl (by kernel_rfl) (fun _ _ _ h => h) rfl ?_ ?_
      rotate_left
      focus intro w _; go_simp; first | done | with_reducible rfl
      try simp only [Act.put, List.setIfInBounds_toArray, List.set_cons_zero, List.set_cons_succ]
      refine ur 6 (v := ?_) hU0 rfl (by kernel_rfl) (fun _ _ _ h => h) rfl ?_ ?_
      rotate_left
      focus intro w _; go_simp; first | done | with_reducible rfl
      try simp only [Act.put, List.setIfInBounds_toArray, List.set_cons_zero, List.set_cons_succ]
      refine urd 7 (v := ?_) hU0 rfl (by kernel_rfl) (fun _ _ _ h => h) rfl ?_ ?_
      rotate_left
      focus intro w hSw; (try dsimp only at hSw); go_simp; first | done | with_reducible rfl
      try simp only [Act.put, List.setIfInBounds_toArray, List.set_cons_zero, List.set_cons_succ]
      refine ur 8 (v := ?_) hU0 rfl (by kernel_rfl) (fun _ _ _ h => h) rfl ?_ ?_
      rotate_left
      focus intro w _; go_simp; first | done | with_reducible rfl
      try simp only [Act.put, List.setIfInBounds_toArray, List.set_cons_zero, List.set_cons_succ]
      refine upto_next 9 rfl (by kernel_rfl) (fun K hK => ?_)
      refine step_store_blk rfl 23 _ _ rfl g rfl rfl HX2.out rfl (by kernel_rfl) (by kernel_rfl) ?_
      intro x7 k7 hb7 hz7 ho7
      obtain ⟨q0, q1, q2, q3, q4, q5, q6, q7⟩ := cq k7
      try go_simp
      first | refine hK.out _ _ ?_ fun hU1 => ?_ | (go_wp2_with fail; refine hK.out _ _ ?_ fun hU1 => ?_)
      · exact Or.inl (by kernel_rfl)
      clear hK K
      clear hU0
      try simp only [Act.put, List.setIfInBounds_toArray, List.set_cons_zero, List.set_cons_succ]
      refine ur 10 (v := ?_) hU1 rfl (by kernel_rfl) (fun _ _ _ h => h) rfl ?_ ?_
      rotate_left
      focus intro w _; go_simp; first | done | with_reducible rfl
      try simp only [Act.put, List.setIfInBounds_toArray, List.set_cons_zero, List.set_cons_succ]
      refine upto_done (by kernel_rfl) ?_ _
      clear r1 r3 r4 r6 rl
      go_wp2_with fail
      refine bodyPost_ret (by simp [results, Tryz.results26, go_sem, q0, q1, q2, q3, q4, q5, q6, q7]; try rfl) rfl ?_
      have hf : buildF [109, 111, 118, 97, 98, 115, 113] [o, q] = some { insZ with op := 2, imm := o.num, dst := q.reg } := (bf_movabsq [o, q]).trans (show (if _ then _ else _) = _ from (if_pos ⟨HOK.out, HQK.out⟩).trans rfl)
      exact ⟨_, true, rfl, (fun y hy => by rw [hf] at hy; cases hy; exact ⟨rfl, rfl⟩), (fun h => by rw [hf] at h; cases h), hb7 _ _ HGE.out (by first | exact HB2.out | exact Below.drew HB2.out)⟩
    | false =>
      go_wp2_with (refine wsx g rfl rfl rfl rfl HX2 (by kernel_rfl) ?_; intro x7 k7 hb7 hz7 ho7; obtain ⟨q0, q1, q2, q3, q4, q5, q6, q7⟩ := cq k7)
      refine bodyPost_ret (by simp [results, Tryz.results26, go_sem, q0, q1, q2, q3, q4, q5, q6, q7]; try rfl) rfl ?_
      have hf : buildF [109, 111, 118, 97, 98, 115, 113] l = none := (bf_movabsq l).trans (bdI_none hk)
      exact ⟨insZ, false, rfl, (fun y hy => by rw [hf] at hy; cases hy), fun _ => rfl, hb7 _ _ HGE.out (by first | exact HB2.out | exact Below.drew HB2.out)⟩
  by_cases h10 : name.data.toList = [108, 101, 97, 113]
  · obtain rfl := nm_eq h10
    clear h0 h1 h2 h3 h4 h5 h6 h7 h8 h9 h10
    have hb1 := below_alloc (.cells #[.int .i64 3, .int .i64 1] 3) (Below.refl w1.heap.size w1)
    have HBa := Lib.hid (HB0.out.trans (hb1.mono HB0.out.size))
    have HXa := Lib.hid (blk_below HX0.out hb1)
    clear hb1
    go_wp2_with fail
    refine (kinds_any _ B (.slice Av nv cv) l (own_below HROW.out HBa.out) HLEN.out [3, 1] (by decide) w1.heap.size 2 #[.int .i64 3, .int .i64 1] rfl rfl (blk_new w1 _)).mono ?_
    rintro e w2 ⟨rfl, hb2⟩
    have HB2 := Lib.hid (HBa.out.trans (hb2.mono HBa.out.size))
    have HX2 := Lib.hid (blk_below HXa.out hb2)
    clear hb2
    cases hk : kindsB l [3, 1] with
    | true =>
      obtain ⟨o, q, rfl, hok, hqk⟩ := kinds_two hk
      have HOK := Lib.hid hok
      have HQK := Lib.hid hqk
      clear hok hqk hk
      obtain rfl : nv = 2 := HNV.out
      obtain ⟨gl, rfl, hcell⟩ := RowO.cells (own_below HROW.out HB2.out) rfl (i := 0) rfl
      obtain ⟨gl2, e2, hcell2⟩ := RowO.cells (own_below HROW.out HB2.out) rfl (i := 1) rfl
      cases e2
      have r1 : w2.cell? ⟨gl, 1, none⟩ = some (.int .i64 o.reg) := hcell 1 (by decide)
      have r3 : w2.cell? ⟨gl, 3, none⟩ = some (.int .i64 o.num) := hcell 3 (by decide)
      have r4 : w2.cell? ⟨gl, 4, none⟩ = some (.string ⟨⟨o.name⟩⟩) := hcell 4 (by decide)
      have r6 : w2.cell? ⟨gl, 6, none⟩ = some (.int .i64 q.reg) := hcell2 1 (by decide)
      have rl := World.block_lt_of_cell? _ _ r1
      clear hcell hcell2
      go_upto_region 24 with (fail)
      refine upto_begin 13 (fun w' => w'.cell? ⟨gl, 1, none⟩ = some (.int .i64 o.reg) ∧ w'.cell? ⟨gl, 3, none⟩ = some (.int .i64 o.num) ∧ w'.cell? ⟨gl, 4, none⟩ = some (.string ⟨⟨o.name⟩⟩) ∧ w'.cell? ⟨gl, 6, none⟩ = some (.int .i64 q.reg)) (by kernel_rfl) ?_ (fun hU0 => ?_)
      · exact ⟨r1, r3, r4, r6⟩
      refine ur 0 (v := ?_) hU0 rfl (by kernel_rfl) (fun _ _ _ h => h) rfl ?_ ?_
      rotate_left
      focus intro w _; go_simp; first | done | with_reducible rfl
      try simp only [Act.put, List.setIfInBounds_toArray, List.set_cons_zero, List.set_cons_succ]
      refine ur 1 (v := ?_) hU0 rfl (by kernel_rfl) (fun _ _ _ h => h) rfl ?_ ?_
      rotate_left
      focus intro w _; go_simp; first | done | with_reducible rfl
      try simp only [Act.put, List.setIfInBounds_toArray, List.set_cons_zero, List.set_cons_succ]
      refine ur 2 (v := ?_) hU0 rfl (by kernel_rfl) (fun _ _ _ h => h) rfl ?_ ?_
      rotate_left
      focus intro w _; go_simp; first | done | with_reducible rfl
      try simp only [Act.put, List.setIfInBounds_toArray, List.set_cons_zero, List.set_cons_succ]
      refine urd 3 (v := ?_) hU0 rfl (by kernel_rfl) (fun _ _ _ h => h) rfl ?_ ?_
      rotate_left
      focus intro w hSw; (try dsimp only at hSw); go_simp; first | done | with_reducible rfl
      try simp only [Act.put, List.setIfInBounds_toArray, List.set_cons_zero, List.set_cons_succ]
      refine ur 4 (v := ?_) hU0 rfl (by kernel_rfl) (fun _ _ _ h => h) rfl ?_ ?_
      rotate_left
      focus intro w _; go_simp; first | done | with_reducible rfl
      try simp only [Act.put, List.setIfInBounds_toArray, List.set_cons_zero, List.set_cons_succ]
      refine ur 5 (v := ?_) hU0 rfl (by kernel_rfl) (fun _ _ _ h => h) rfl ?_ ?_
      rotate_left
      focus intro w _; go_simp; first | done | with_reducible rfl
      try simp only [Act.put, List.setIfInBounds_toArray, List.set_cons_zero, List.set_cons_succ]
      refine ur 6 (v := ?_) hU0 rfl (by kernel_rfl) (fun _ _ _ h => h) rfl ?_ ?_
      rotate_left
      focus intro w _; go_simp; first | done | with_reducible rfl
      try simp only [Act.put, List.setIfInBounds_toArray, List.set_cons_zero, List.set_cons_succ]
      refine urd 7 (v := ?_) hU0 rfl (by kernel_rfl) (fun _ _ _ h => h) rfl ?_ ?_
      rotate_left
      focus intro w hSw; (try dsimp only at hSw); go_simp; first | done | with_reducible rfl
      try simp only [Act.put, List.setIfInBounds_toArray, List.set_cons_zero, List.set_cons_succ]
      refine ur 8 (v := ?_) hU0 rfl (by kernel_rfl) (fun _ _ _ h => h) rfl ?_ ?_
      rotate_left
      focus intro w _; go_simp; first | done | with_reducible rfl
      try simp only [Act.put, List.setIfInBounds_toArray, List.set_cons_zero, List.set_cons_succ]
      refine ur 9 (v := ?_) hU0 rfl (by kernel_rfl) (fun _ _ _ h => h) rfl ?_ ?_
      rotate_left
      focus intro w _; go_simp; first | done | with_reducible rfl
      try simp only [Act.put, List.setIfInBounds_toArray, List.set_cons_zero, List.set_cons_succ]
      refine ur 10 (v := ?_) hU0 rfl (by kernel_rfl) (fun _ _ _ h => h) rfl ?_ ?_
      rotate_left
      focus intro w _; go_simp; first | done | with_reducible rfl
      try simp only [Act.put, List.setIfInBounds_toArray, List.set_cons_zero, List.set_cons_succ]
      refine urd 11 (v := ?_) hU0 rfl (by kernel_rfl) (fun _ _ _ h => h) rfl ?_ ?_
      rotate_left
      focus intro w hSw; (try dsimp only at hSw); go_simp; first | done | with_reducible rfl
      try simp only [Act.put, List.setIfInBounds_toArray, List.set_cons_zero, List.set_cons_succ]
      refine ur 12 (v := ?_) hU0 rfl (by kernel_rfl) (fun _ _ _ h => h) rfl ?_ ?_
      rotate_left
      focus intro w _; go_simp; first | done | with_reducible rfl
      try simp only [Act.put, List.setIfInBounds_toArray, List.set_cons_zero, List.set_cons_succ]
      refine upto_next 13 rfl (by kernel_rfl) (fun K hK => ?_)
      refine step_store_blk rfl 23 _ _ rfl g rfl rfl HX2.out rfl (by kernel_rfl) (by kernel_rfl) ?_
      intro x7 k7 hb7 hz7 ho7
      obtain ⟨q0, q1, q2, q3, q4, q5, q6, q7⟩ := cq k7
      try go_simp
      first | refine hK.out _ _ ?_ fun hU1 => ?_ | (go_wp2_with fail; refine hK.out _ _ ?_ fun hU1 => ?_)
      · exact Or.inl (by kernel_rfl)
      clear hK K
      clear hU0
      try simp only [Act.put, List.setIfInBounds_toArray, List.set_cons_zero, List.set_cons_succ]
      refine ur 14 (v := ?_) hU1 rfl (by kernel_rfl) (fun _ _ _ h => h) rfl ?_ ?_
      rotate_left
      focus intro w _; go_simp; first | done | with_reducible rfl
      try simp only [Act.put, List.setIfInBounds_toArray, List.set_cons_zero, List.set_cons_succ]
      refine upto_done (by kernel_rfl) ?_ _
      clear r1 r3 r4 r6 rl
      go_wp2_with fail
      refine bodyPost_ret (by simp [results, Tryz.results26, go_sem, q0, q1, q2, q3, q4, q5, q6, q7]; try rfl) rfl ?_
      have hf : buildF [108, 101, 97, 113] [o, q] = some { insZ with op := 5, src := o.reg, imm := o.num, dst := q.reg } := (bf_leaq [o, q]).trans (show (if _ then _ else _) = _ from (if_pos ⟨HOK.out, HQK.out⟩).trans rfl)
      exact ⟨_, true, rfl, (fun y hy => by rw [hf] at hy; cases hy; exact ⟨rfl, rfl⟩), (fun h => by rw [hf] at h; cases h), hb7 _ _ HGE.out (by first | exact HB2.out | exact Below.drew HB2.out)⟩
    | false =>
      have HK31 := Lib.hid hk
      clear hk
      have hb1 := below_alloc (.cells #[.int .i64 4, .int .i64 1] 3) (Below.refl w2.heap.size w2)
      have HBa := Lib.hid (HB2.out.trans (hb1.mono HB2.out.size))
      have HXa := Lib.hid (blk_below HX2.out hb1)
      clear hb1
      go_wp2_with fail
      refine (kinds_any _ B (.slice Av nv cv) l (own_below HROW.out HBa.out) HLEN.out [4, 1] (by decide) w2.heap.size 2 #[.int .i64 4, .int .i64 1] rfl rfl (blk_new w2 _)).mono ?_
      rintro e w3 ⟨rfl, hb2⟩
      have HB3 := Lib.hid (HBa.out.trans (hb2.mono HBa.out.size))
      have HX3 := Lib.hid (blk_below HXa.out hb2)
      clear hb2
      cases hk : kindsB l [4, 1] with
      | true =>
        obtain ⟨o, q, rfl, hok, hqk⟩ := kinds_two hk
        have HOK := Lib.hid hok
        have HQK := Lib.hid hqk
        clear hok hqk hk
        obtain rfl : nv = 2 := HNV.out
        obtain ⟨gl, rfl, hcell⟩ := RowO.cells (own_below HROW.out HB3.out) rfl (i := 0) rfl
        obtain ⟨gl2, e2, hcell2⟩ := RowO.cells (own_below HROW.out HB3.out) rfl (i := 1) rfl
        cases e2
        have r1 : w3.cell? ⟨gl, 1, none⟩ = some (.int .i64 o.reg) := hcell 1 (by decide)
        have r3 : w3.cell? ⟨gl, 3, none⟩ = some (.int .i64 o.num) := hcell 3 (by decide)
        have r4 : w3.cell? ⟨gl, 4, none⟩ = some (.string ⟨⟨o.name⟩⟩) := hcell 4 (by decide)
        have r6 : w3.cell? ⟨gl, 6, none⟩ = some (.int .i64 q.reg) := hcell2 1 (by decide)
        have rl := World.block_lt_of_cell? _ _ r1
        clear hcell hcell2
        go_upto_region 26 with (fail)
        refine upto_begin 9 (fun w' => w'.cell? ⟨gl, 1, none⟩ = some (.int .i64 o.reg) ∧ w'.cell? ⟨gl, 3, none⟩ = some (.int .i64 o.num) ∧ w'.cell? ⟨gl, 4, none⟩ = some (.string ⟨⟨o.name⟩⟩) ∧ w'.cell? ⟨gl, 6, none⟩ = some (.int .i64 q.reg)) (by kernel_rfl) ?_ (fun hU0 => ?_)
        · exact ⟨r1, r3, r4, r6⟩
        refine ur 0 (v := ?_) hU0 rfl (by kernel_rfl) (fun _ _ _ h => h) rfl ?_ ?_
        rotate_left
        focus intro w _; go_simp; first | done | with_reducible rfl
        try simp only [Act.put, List.setIfInBounds_toArray, List.set_cons_zero, List.set_cons_succ]
        refine ur 1 (v := ?_) hU0 rfl (by kernel_rfl) (fun _ _ _ h => h) rfl ?_ ?_
        rotate_left
        focus intro w _; go_simp; first | done | with_reducible rfl
        try simp only [Act.put, List.setIfInBounds_toArray, List.set_cons_zero, List.set_cons_succ]
        refine ur 2 (v := ?_) hU0 rfl (by kernel_rfl) (fun _ _ _ h => h) rfl ?_ ?_
        rotate_left
        focus intro w _; go_simp; first | done | with_reducible rfl
        try simp only [Act.put, List.setIfInBounds_toArray, List.set_cons_zero, List.set_cons_succ]
        refine urd 3 (v := ?_) hU0 rfl (by kernel_rfl) (fun _ _ _ h => h) rfl ?_ ?_
        rotate_left
        focus intro w hSw; (try dsimp only at hSw); go_simp; first | done | with_reducible rfl
        try simp only [Act.put, List.setIfInBounds_toArray, List.set_cons_zero, List.set_cons_succ]
        refine ur 4 (v := ?_) hU0 rfl (by kernel_rfl) (fun _ _ _ h => h) rfl ?_ ?_
        rotate_left
        focus intro w _; go_simp; first | done | with_reducible rfl
        try simp only [Act.put, List.setIfInBounds_toArray, List.set_cons_zero, List.set_cons_succ]
        refine ur 5 (v := ?_) hU0 rfl (by kernel_rfl) (fun _ _ _ h => h) rfl ?_ ?_
        rotate_left
        focus intro w _; go_simp; first | done | with_reducible rfl
        try simp only [Act.put, List.setIfInBounds_toArray, List.set_cons_zero, List.set_cons_succ]
        refine ur 6 (v := ?_) hU0 rfl (by kernel_rfl) (fun _ _ _ h => h) rfl ?_ ?_
        rotate_left
        focus intro w _; go_simp; first | done | with_reducible rfl
        try simp only [Act.put, List.setIfInBounds_toArray, List.set_cons_zero, List.set_cons_succ]
        refine urd 7 (v := ?_) hU0 rfl (by kernel_rfl) (fun _ _ _ h => h) rfl ?_ ?_
        rotate_left
        focus intro w hSw; (try dsimp only at hSw); go_simp; first | done | with_reducible rfl
        try simp only [Act.put, List.setIfInBounds_toArray, List.set_cons_zero, List.set_cons_succ]
        refine ur 8 (v := ?_) hU0 rfl (by kernel_rfl) (fun _ _ _ h => h) rfl ?_ ?_
        rotate_left
        focus intro w _; go_simp; first | done | with_reducible rfl
        try simp only [Act.put, List.setIfInBounds_toArray, List.set_cons_zero, List.set_cons_succ]
        refine upto_next 9 rfl (by kernel_rfl) (fun K hK => ?_)
        refine step_store_blk rfl 23 _ _ rfl g rfl rfl HX3.out rfl (by kernel_rfl) (by kernel_rfl) ?_
        intro x7 k7 hb7 hz7 ho7
        obtain ⟨q0, q1, q2, q3, q4, q5, q6, q7⟩ := cq k7
        try go_simp
        first | refine hK.out _ _ ?_ fun hU1 => ?_ | (go_wp2_with fail; refine hK.out _ _ ?_ fun hU1 => ?_)
        · exact Or.inl (by kernel_rfl)
        clear hK K
        clear hU0
        try simp only [Act.put, List.setIfInBounds_toArray, List.set_cons_zero, List.set_cons_succ]
        refine ur 10 (v := ?_) hU1 rfl (by kernel_rfl) (fun _ _ _ h => h) rfl ?_ ?_
        rotate_left
        focus intro w _; go_simp; first | done | with_reducible rfl
        try simp only [Act.put, List.setIfInBounds_toArray, List.set_cons_zero, List.set_cons_succ]
        refine upto_done (by kernel_rfl) ?_ _
        clear r1 r3 r4 r6 rl
        go_wp2_with fail
        refine bodyPost_ret (by simp [results, Tryz.results26, go_sem, q0, q1, q2, q3, q4, q5, q6, q7]; try rfl) rfl ?_
        have hf : buildF [108, 101, 97, 113] [o, q] = some { insZ with op := 6, to_ := ⟨⟨o.name⟩⟩, dst := q.reg } := (bf_leaq [o, q]).trans (show (if _ then _ else _) = _ from (if_neg (by rw [HOK.out]; simp)).trans ((if_pos ⟨HOK.out, HQK.out⟩).trans rfl))
        exact ⟨_, true, rfl, (fun y hy => by rw [hf] at hy; cases hy; exact ⟨rfl, rfl⟩), (fun h => by rw [hf] at h; cases h), hb7 _ _ HGE.out (by first | exact HB3.out | exact Below.drew HB3.out)⟩
      | false =>
        go_wp2_with (refine wsx g rfl rfl rfl rfl HX3 (by kernel_rfl) ?_; intro x7 k7 hb7 hz7 ho7; obtain ⟨q0, q1, q2, q3, q4, q5, q6, q7⟩ := cq k7)
        refine bodyPost_ret (by simp [results, Tryz.results26, go_sem, q0, q1, q2, q3, q4, q5, q6, q7]; try rfl) rfl ?_
        have hf : buildF [108, 101, 97, 113] l = none := (bf_leaq l).trans (bdL_none HK31.out hk)
        exact ⟨insZ, false, rfl, (fun y hy => by rw [hf] at hy; cases hy), fun _ => rfl, hb7 _ _ HGE.out (by first | exact HB3.out | exact Below.drew HB3.out)⟩
  have d0 : (name.toList == [99, 113, 116, 111]) = false := by rw [Lib.toList_data]; exact beq_eq_false_iff_ne.2 h0
  have d1 : (name.toList == [114, 101, 116]) = false := by rw [Lib.toList_data]; exact beq_eq_false_iff_ne.2 h1
  have d2 : (name.toList == [108, 102, 101, 110, 99, 101]) = false := by rw [Lib.toList_data]; exact beq_eq_false_iff_ne.2 h2
  have d3 : (name.toList == [104, 108, 116]) = false := by rw [Lib.toList_data]; exact beq_eq_false_iff_ne.2 h3
  have d4 : (name.toList == [105, 100, 105, 118, 113]) = false := by rw [Lib.toList_data]; exact beq_eq_false_iff_ne.2 h4
  have d5 : (name.toList == [100, 105, 118, 113]) = false := by rw [Lib.toList_data]; exact beq_eq_false_iff_ne.2 h5
  have d6 : (name.toList == [111, 117, 116, 113]) = false := by rw [Lib.toList_data]; exact beq_eq_false_iff_ne.2 h6
  have d7 : (name.toList == [106, 109, 112]) = false := by rw [Lib.toList_data]; exact beq_eq_false_iff_ne.2 h7
  have d8 : (name.toList == [99, 97, 108, 108]) = false := by rw [Lib.toList_data]; exact beq_eq_false_iff_ne.2 h8
  have d9 : (name.toList == [109, 111, 118, 97, 98, 115, 113]) = false := by rw [Lib.toList_data]; exact beq_eq_false_iff_ne.2 h9
  have d10 : (name.toList == [108, 101, 97, 113]) = false := by rw [Lib.toList_data]; exact beq_eq_false_iff_ne.2 h10
  have HBF := Lib.hid (show ∀ l, buildF name.data.toList l = if Lib.hasPrefix name.data.toList [109, 111, 118] = true then rmoveF (mvS name.data.toList).1 (mvS name.data.toList).2 l else match reckonF name.data.toList l with | some x => some x | none => condiF name.data.toList l from fun l => by
    unfold buildF
    rw [if_neg h0, if_neg h1, if_neg h2, if_neg h3, if_neg h4, if_neg h5, if_neg h6, if_neg h7, if_neg h8, if_neg h9, if_neg h10])
  clear h0 h1 h2 h3 h4 h5 h6 h7 h8 h9 h10
  obtain ⟨pf, hpf⟩ : ∃ z, z = Lib.hasPrefix name.data.toList [109, 111, 118] := ⟨_, rfl⟩
  have HPC := Lib.hid (fun W => Tryz.strings_HasPrefix name ⟨#[109, 111, 118]⟩ W)
  rw [show (⟨#[109, 111, 118]⟩ : ByteArray).data.toList = [109, 111, 118] from rfl] at HPC
  rw [← hpf] at HPC HBF
  clear hpf
  go_wp2_with fail
  refine (HPC.out _).mono ?_
  rintro e w1' ⟨rfl, hw⟩
  subst hw
  cases pf with
  | true =>
    go_wp2_with fail
    refine (move_any _ name B (.slice Av nv cv) l (own_below HROW.out HB0.out) HLEN.out).mono ?_
    rintro e w2 ⟨x, b, rfl, hy, hn, hb2⟩
    have HY := Lib.hid hy
    have HN := Lib.hid hn
    have HB2 := Lib.hid (HB0.out.trans (hb2.mono HB0.out.size))
    have HX2 := Lib.hid (blk_below HX0.out hb2)
    clear hy hn hb2
    go_wp2_with (refine wsx g rfl rfl rfl rfl HX2 (by kernel_rfl) ?_; intro x7 k7 hb7 hz7 ho7; obtain ⟨q0, q1, q2, q3, q4, q5, q6, q7⟩ := cq k7)
    refine bodyPost_ret (by simp [results, Tryz.results26, go_sem, q0, q1, q2, q3, q4, q5, q6, q7]; try rfl) rfl ?_
    exact ⟨x, b, rfl, (fun y h => HY.out y (((HBF.out l).trans (if_pos trivial)).symm.trans h)), (fun h => HN.out (((HBF.out l).trans (if_pos trivial)).symm.trans h)), hb7 _ _ HGE.out HB2.out⟩
  | false =>
    go_wp2_with fail
    refine (reckon_any _ (HG.out.below HB0.out) name B (.slice Av nv cv) l (own_below HROW.out HB0.out) HLEN.out).mono ?_
    rintro e w2 ⟨x, b, rfl, hy, hn, hb2⟩
    have HY := Lib.hid hy
    have HN := Lib.hid hn
    have HB2 := Lib.hid (HB0.out.trans (hb2.mono HB0.out.size))
    have HX2 := Lib.hid (blk_below HX0.out hb2)
    clear hy hn hb2
    have HG8 := Lib.hid (show g < w2.heap.size from blk_lt HX2.out)
    go_upto_region 31 with (refine wpList_store_blk (by rfl) 23 _ _ (by rfl) w2.heap.size (by rfl) (by rfl) (blk_new w2 (.cells (insV insZ).toArray 23)) (by rfl) (by kernel_rfl) (by kernel_rfl) ?_; intro x8 k8 hb8 hz8 ho8)
    have HB5 := Lib.hid (hb8 w.heap.size w (Nat.le_of_lt (Nat.lt_of_le_of_lt HGE.out HG8.out)) (HB2.out.trans ((below_alloc (.cells (insV insZ).toArray 23) (Below.refl w2.heap.size w2)).mono HB2.out.size)))
    have HX5 := Lib.hid ((ho8 g (Nat.ne_of_lt HG8.out)).trans (blk_alloc HX2.out _))
    have HZ := Lib.hid k8
    obtain ⟨gx, hgx⟩ : ∃ z, z = w2.heap.size := ⟨_, rfl⟩
    rw [← hgx] at HZ ⊢
    clear hgx HX2 HB2 k8 hb8 hz8 ho8 HG8
    cases b with
    | true =>
      obtain ⟨p0, p1, p2, p3, p4, p5, p6, p7⟩ := cq HZ.out
      have pl := blk_lt HZ.out
      go_wp2_with (refine wsx g rfl rfl rfl rfl HX5 (by kernel_rfl) ?_; intro x7 k7 hb7 hz7 ho7; obtain ⟨q0, q1, q2, q3, q4, q5, q6, q7⟩ := cq k7)
      refine bodyPost_ret (by simp [results, Tryz.results26, go_sem, q0, q1, q2, q3, q4, q5, q6, q7]; try rfl) rfl ?_
      have hx : ∃ y, reckonF name.data.toList l = some y := by
        cases hB : reckonF name.data.toList l with
        | none => exact absurd (HN.out hB) (by decide)
        | some y => exact ⟨y, rfl⟩
      obtain ⟨y, hy⟩ := hx
      obtain rfl := (HY.out y hy).1
      have hf : buildF name.data.toList l = some x := (HBF.out l).trans ((if_neg (by decide)).trans (by rw [hy]))
      exact ⟨x, true, rfl, (fun y hy => by rw [hf] at hy; cases hy; exact ⟨rfl, rfl⟩), (fun h => by rw [hf] at h; cases h), hb7 _ _ HGE.out HB5.out⟩
    | false =>
      have HNO := Lib.hid (show reckonF name.data.toList l = none by
        cases hB : reckonF name.data.toList l with
        | none => rfl
        | some y => exact absurd (HY.out y hB).2 (by decide))
      clear HY HN
      go_wp2_with fail
      refine (condi_any _ (HG.out.below HB5.out) name B (.slice Av nv cv) l (own_below HROW.out HB5.out) HLEN.out).mono ?_
      rintro e w6 ⟨x, b, rfl, hy, hn, hb2⟩
      have HY := Lib.hid hy
      have HN := Lib.hid hn
      have HB6 := Lib.hid (HB5.out.trans (hb2.mono HB5.out.size))
      have HX6 := Lib.hid (blk_below HX5.out hb2)
      clear hy hn hb2
      go_wp2_with (refine wsx g rfl rfl rfl rfl HX6 (by kernel_rfl) ?_; intro x7 k7 hb7 hz7 ho7; obtain ⟨q0, q1, q2, q3, q4, q5, q6, q7⟩ := cq k7)
      refine bodyPost_ret (by simp [results, Tryz.results26, go_sem, q0, q1, q2, q3, q4, q5, q6, q7]; try rfl) rfl ?_
      have hf : buildF name.data.toList l = condiF name.data.toList l := (HBF.out l).trans ((if_neg (by decide)).trans (by rw [HNO.out]))
      exact ⟨x, b, rfl, (fun y h => HY.out y (hf.symm.trans h)), (fun h => HN.out (hf.symm.trans h)), hb7 _ _ HGE.out HB6.out⟩
end Go.Proofs.YtmmpkkpmlaiapaaGreatDoor
