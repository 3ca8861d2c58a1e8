/- Walks: the blocks ahead of each block. No condition. -/
import Derived.Test.YtcljdhpdknecjaaFl1
namespace Go.Proofs.Ytcljdhpdknecjaa
open Go.RowKit
set_option linter.unusedVariables false
set_option maxHeartbeats 1000000
/-! ### plain -/
/-- of the first m those that lead to i -/
def befL (nx : Nat → List Int) (m i : Nat) : List Int := ((List.range m).filter fun (k : Nat) => decide ((i : Int) ∈ nx k)).map fun (k : Nat) => (k : Int)
/-- .. and m itself, if i is among the first j that it leads to -/
def befJ (nx : Nat → List Int) (m j i : Nat) : List Int := befL nx m i ++ (if (i : Int) ∈ (nx m).take j then [(m : Int)] else [])
theorem befJ_zero (nx : Nat → List Int) (m i : Nat) : befJ nx m 0 i = befL nx m i := by simp [befJ]
theorem befJ_end (nx : Nat → List Int) (m i j : Nat) (hj : (nx m).length ≤ j) : befJ nx m j i = befL nx (m + 1) i := by
  unfold befJ befL
  rw [List.take_of_length_le hj, List.range_succ, List.filter_append, List.map_append]
  congr 1
  by_cases h : (i : Int) ∈ nx m
  · simp [h]
  · simp [h]
theorem befL_lt (nx : Nat → List Int) (m i : Nat) : ∀ x ∈ befL nx m i, 0 ≤ x ∧ x < m := by
  intro x hx
  unfold befL at hx
  obtain ⟨k, hk, rfl⟩ := List.mem_map.1 hx
  have := List.mem_range.1 (List.mem_filter.1 hk).1
  omega
theorem befL_len (nx : Nat → List Int) (m i : Nat) : (befL nx m i).length ≤ m := by
  unfold befL
  rw [List.length_map]
  have := List.length_filter_le (fun k => decide ((i : Int) ∈ nx k)) (List.range m)
  simpa using this
theorem befJ_len (nx : Nat → List Int) (m j i : Nat) : (befJ nx m j i).length ≤ m + 1 := by
  have := befL_len nx m i
  unfold befJ
  rw [List.length_append]
  split <;> simp <;> omega
theorem befJ_other {nx : Nat → List Int} {m j i : Nat} {k : Nat} (h : (nx m)[j]? = some (k : Int)) (hne : i ≠ k) : befJ nx m (j + 1) i = befJ nx m j i := by
  unfold befJ
  congr 1
  have : ((i : Int) ∈ (nx m).take (j + 1)) ↔ ((i : Int) ∈ (nx m).take j) := by
    rw [List.take_add_one, h]
    simp only [Option.toList_some, List.mem_append, List.mem_singleton]
    constructor
    · rintro (h | h)
      · exact h
      · omega
    · exact Or.inl
  simp only [this]
theorem befJ_same {nx : Nat → List Int} {m j k : Nat} (h : (nx m)[j]? = some (k : Int)) : befJ nx m (j + 1) k = if (k : Int) ∈ (nx m).take j then befJ nx m j k else befJ nx m j k ++ [(m : Int)] := by
  have h1 : (k : Int) ∈ (nx m).take (j + 1) := by rw [List.take_add_one, h]; simp
  unfold befJ
  rw [if_pos h1]
  split <;> simp
theorem befJ_last {nx : Nat → List Int} {m j k : Nat} : (befJ nx m j k).getLast? = some (m : Int) ↔ (k : Int) ∈ (nx m).take j := by
  unfold befJ
  split
  · rename_i h; simp [h]
  · rename_i h
    simp only [List.append_nil, h, iff_false]
    intro e
    have := befL_lt nx m k _ (List.mem_of_getLast? e)
    omega
/-! ### in memory -/
structure BS (W0 w : World) (B n : Nat) (ov : Value) (vs : List Value) (Ls : Nat → List Int) : Prop where
  outer : w.ownsRow B 22 1 ov n vs
  rows : ∀ i, i < n → ∃ v : Value, vs[i]? = some v ∧ OwnI w B v (Ls i)
  apart : ∀ (i j : Nat) (v u : Value), i ≠ j → vs[i]? = some v → vs[j]? = some u → v.ownBlock = none ∨ v.ownBlock ≠ u.ownBlock
  below : Below B W0 w
theorem BS.more {W0 w w' : World} {B n : Nat} {ov : Value} {vs : List Value} {Ls : Nat → List Int} (h : BS W0 w B n ov vs Ls) (hB : B ≤ W0.heap.size) (hb : Below w.heap.size w w') : BS W0 w' B n ov vs Ls :=
  ⟨own_below h.outer hb, fun i hi => let ⟨v, h1, h2⟩ := h.rows i hi; ⟨v, h1, own_below h2 hb⟩, h.apart, h.below.trans (hb.mono (Nat.le_trans hB h.below.size))⟩
theorem BS.congr {W0 w : World} {B n : Nat} {ov : Value} {vs : List Value} {Ls Ls' : Nat → List Int} (h : BS W0 w B n ov vs Ls) (e : ∀ i, i < n → Ls' i = Ls i) : BS W0 w B n ov vs Ls' :=
  ⟨h.outer, fun i hi => let ⟨v, h1, h2⟩ := h.rows i hi; ⟨v, h1, by rw [e i hi]; exact h2⟩, h.apart, h.below⟩
theorem BS.cell {W0 w : World} {B n g cap k : Nat} {vs : List Value} {Ls : Nat → List Int} (h : BS W0 w B n (.slice (some ⟨g, 0, none⟩) n cap) vs Ls) (hk : k < n) :
    ∃ v, vs[k]? = some v ∧ OwnI w B v (Ls k) ∧ w.cell? ⟨g, k, none⟩ = some v ∧ w.frozen? ⟨g, k, none⟩ = false := by
  obtain ⟨v, h1, h2⟩ := h.rows k hk
  exact ⟨v, h1, h2, (h.outer.cellAt k (by omega)).trans h1, h.outer.frozenAt k⟩
theorem BS.append {W0 w : World} {B n g cap k : Nat} {v : Value} {vs : List Value} {Ls : Nat → List Int} (h : BS W0 w B n (.slice (some ⟨g, 0, none⟩) n cap) vs Ls) (hB : B ≤ W0.heap.size) (hk : k < n) (hv : vs[k]? = some v) (hl : (Ls k).length ≤ 1000000) (m : Nat) :
    ∃ v' w', (Builtin.append_ #[22, 22] 22 #[v, .slice (some ⟨w.heap.size, 0, none⟩) 1 1]).run Try.prog (w.alloc (.cells #[.int .i64 (m : Nat)] 3)) = .ok v' w' ∧ w'.cell? ⟨g, k, none⟩ = some v ∧ w'.frozen? ⟨g, k, none⟩ = false ∧
      (∃ A c, v' = .slice A ((Ls k).length + 1) c) ∧
      BS W0 (w'.setCell ⟨g, k, none⟩ v') B n (.slice (some ⟨g, 0, none⟩) n cap) (vs.set k v') (fun i => if i = k then Ls k ++ [(m : Int)] else Ls i) ∧
        ∀ B2 u l2, OwnI w B2 u l2 → (∀ (i : Nat) (x : Value), vs[i]? = some x → u.ownBlock = none ∨ u.ownBlock ≠ x.ownBlock) → OwnI (w'.setCell ⟨g, k, none⟩ v') B2 u l2 ∧ (∀ (i : Nat) (x : Value), (vs.set k v')[i]? = some x → u.ownBlock = none ∨ u.ownBlock ≠ x.ownBlock) := by
  obtain ⟨v0, hv0, ho⟩ := h.rows k hk
  rw [hv] at hv0
  obtain rfl := Option.some.inj hv0
  obtain ⟨i0, hi, hz0, hz1, hz2⟩ := info_parts Try.infoInt
  obtain ⟨v', w', r1, r2, r3, r4⟩ := append_one (P := Try.prog) (w := w) B 22 3 i0 _ 8 Try.underlying22 hi hz0 hz1 hz2 rfl v (Ls k).length (iv (Ls k)) ho (.int .i64 (m : Nat)) _ rfl rfl (by unfold maxLen; omega) (by omega) (Nat.le_trans hB h.below.size)
  have ho' : OwnI w' B v' (Ls k ++ [(m : Int)]) := by unfold OwnI; rw [List.length_append, show iv (Ls k ++ [(m : Int)]) = iv (Ls k) ++ [.int .i64 (m : Nat)] by simp [iv]]; exact r2
  have hout : w'.ownsRow B 22 1 (.slice (some ⟨g, 0, none⟩) n cap) n vs := h.outer.kept r3 (own_ne h.outer ho (by decide))
  obtain ⟨o1, o2⟩ := hout.stored k v'
  have hvl : vs.length = n := by have := h.outer.1; omega
  have apart' : ∀ u : Value, u.ownBlock = none ∨ u.ownBlock ≠ v.ownBlock → (∀ g, u.ownBlock = some g → g < w.heap.size) → u.ownBlock = none ∨ u.ownBlock ≠ v'.ownBlock := by
    intro u hd hlt
    cases hub : u.ownBlock with
    | none => exact Or.inl rfl
    | some g =>
      refine Or.inr (fun e => ?_)
      rcases r4 g e.symm with h1 | h1
      · rcases hd with h2 | h2
        · rw [h2] at hub; cases hub
        · exact h2 (hub.trans h1.symm)
      · have := hlt g hub; omega
  refine ⟨v', w', r1, (hout.cellAt k (by omega)).trans hv, hout.frozenAt k, ?_, ⟨o1, ?_, ?_, ?_⟩, ?_⟩
  · obtain ⟨A, c, e, _⟩ := own_slice ho'
    exact ⟨A, c, by rw [e]; simp⟩
  · intro i hi
    by_cases e : i = k
    · subst e
      rw [List.getElem?_set_self (by omega), if_pos rfl]
      exact ⟨v', rfl, World.ownsRow.kept ho' o2 (own_ne ho' hout (by decide))⟩
    · rw [List.getElem?_set_ne (Ne.symm e), if_neg e]
      obtain ⟨u, hu, hou⟩ := h.rows i hi
      have h2 : OwnI w' B u (Ls i) := World.ownsRow.kept hou r3 (h.apart i k u v e hu hv)
      exact ⟨u, hu, World.ownsRow.kept h2 o2 (own_ne h2 hout (by decide))⟩
  · intro i j x y hne hx hy
    have hlt : ∀ (i : Nat) (u : Value), vs[i]? = some u → ∀ g, u.ownBlock = some g → g < w.heap.size := by
      intro i u hu g hg
      obtain ⟨u', hu', hou⟩ := h.rows i (by have := (List.getElem?_eq_some_iff.1 hu).1; omega)
      rw [hu] at hu'
      obtain rfl := Option.some.inj hu'
      exact (hou.lt g hg).2
    by_cases e : i = k
    · subst e
      rw [List.getElem?_set_self (by omega)] at hx
      obtain rfl := Option.some.inj hx
      rw [List.getElem?_set_ne hne] at hy
      exact ne_symm (apart' y (h.apart j i y v (Ne.symm hne) hy hv) (hlt j y hy))
    · rw [List.getElem?_set_ne (Ne.symm e)] at hx
      by_cases e2 : j = k
      · subst e2
        rw [List.getElem?_set_self (by omega)] at hy
        obtain rfl := Option.some.inj hy
        exact apart' x (h.apart i j x v e hx hv) (hlt i x hx)
      · rw [List.getElem?_set_ne (Ne.symm e2)] at hy
        exact h.apart i j x y hne hx hy
  · exact below_of_grown (below_of_grown h.below hB r3 (fun k hk => (ho.lt k hk).1)) hB o2 (fun k hk => (hout.lt k hk).1)
  · intro B2 u l2 hu hd
    have hu2 : OwnI w' B2 u l2 := World.ownsRow.kept hu r3 (hd k v hv)
    refine ⟨World.ownsRow.kept hu2 o2 (own_ne hu2 hout (by decide)), fun i x hx => ?_⟩
    by_cases e : i = k
    · subst e
      rw [List.getElem?_set_self (by omega)] at hx
      obtain rfl := Option.some.inj hx
      exact apart' u (hd i v hv) (fun g hg => (hu.lt g hg).2)
    · rw [List.getElem?_set_ne (Ne.symm e)] at hx
      exact hd i x hx
theorem Try.infoSl : (Try.prog.info? 22).map (fun i => (i.zero, i.size, i.bytes)) = some (some (.slice none 0 0), 1, 24) := by kernel_rfl
theorem bs_made (w w2 : World) (n : Nat) (ov : Value) (ho : w2.ownsRow w.heap.size 22 1 ov n (List.replicate n (.slice none 0 0))) (hb : Below w.heap.size w w2) : BS w w2 w.heap.size n ov (List.replicate n (.slice none 0 0)) (fun _ => []) :=
  ⟨ho, fun i hi => ⟨.slice none 0 0, by simp [hi], World.ownsRow_nil _ _ _ _⟩, fun i j v u _ hv _ => by
    have := List.eq_of_mem_replicate (List.mem_of_getElem? hv)
    subst this
    exact Or.inl rfl, hb⟩
set_option maxRecDepth 100000 in
theorem before_any (W0 w : World) (h0 : Below W0.heap.size W0 w) (fb fo : Nat) (f : FuncD) (vb : Value) (c5 : w.cell? ⟨fb, fo + 5, none⟩ = some vb) (hb : SlR W0 9 (BlockR W0) vb f.blocks)
    (n : Nat) (hn : n = f.blocks.length) (h0n : 0 < n) (hn6 : n ≤ 100000) (hnx : ∀ i k, i < n → k ∈ nxF f i → 0 ≤ k ∧ k < n) :
    Calls Try.prog 21 #[.pointer (some ⟨fb, fo, none⟩)] w fun e w' => ∃ v vs, e = .returned v ∧ BS w w' w.heap.size n v vs (befL (nxF f) n) := by
  obtain ⟨A, cap, rfl, _, m3, hi⟩ := hb
  have HI := Lib.hid hi
  have HX := Lib.hid hnx
  have H0 := Lib.hid h0
  have HN := Lib.hid hn
  rw [← hn] at c5
  obtain ⟨i0, hi, hz0, hz1, hz2⟩ := info_parts Try.infoSl
  obtain ⟨w2, hr, hown, hg⟩ := run_make_full (P := Try.prog) w w.heap.size 61 22 i0 (.slice none 0 0) 1 Try.underlying61 hi hz0 hz1 .i64 .i64 n (by rw [hz2]; omega) (by unfold maxLen; omega) (Nat.le_refl _)
  rw [show (Value.slice none 0 0).cells = #[.slice none 0 0] from rfl, Nat.mul_one, toList_madeCells_one] at hown
  obtain ⟨g, cp, hov, hg1, hg2, hg3, hg4⟩ := own_form hown h0n
  rw [hov] at hown hr
  have B0 := Lib.hid (bs_made w w2 n _ hown (below_grown hg))
  have BB := Lib.hid (Nat.le_refl w.heap.size)
  have c5' := later c5 (below_grown hg)
  clear hown hg hov hi hz0 hz1 hz2 hnx h0 hn m3
  go_enter Try.func21, Try.ntmps21
  go_wp2_with fail
  go_loopw [20] (fun i wr => ∃ (m : Nat) (vs : List Value), m ≤ n ∧ i = .int .i64 m ∧ BS w wr w.heap.size n (.slice (some ⟨g, 0, none⟩) n cp) vs (befL (nxF f) m)) (fun i _ => n - (intOf i).toNat)
  case atStart => exact ⟨0, _, by omega, rfl, B0.out.congr (fun i _ => rfl)⟩
  case round =>
    obtain ⟨m, vs, hm, rfl, hR⟩ := hrel
    have HR := Lib.hid hR
    clear hR
    by_cases hlt : m < n
    · obtain ⟨blk, hblk⟩ : ∃ b, f.blocks[m]? = some b := ⟨_, List.getElem?_eq_getElem (by rw [← HN.out]; exact hlt)⟩
      obtain ⟨bb, bo, cs, rfl, e1, e2, vi, e3, y1, y2, t1, t2, t3, t4, t5, t6, t7, t8⟩ := HI.out m blk hblk
      subst e3
      have H03 := H0.out.trans (HR.out.below.mono H0.out.size)
      obtain ⟨A9, cap9, rfl, _⟩ := y1
      have r0 := later (e2 0 (by omega)) H03
      have r1 := later (e2 1 (by omega)) H03
      have r2 := later (e2 2 (by omega)) H03
      have r3 := later (e2 3 (by omega)) H03
      have r4 := later (e2 4 (by omega)) H03
      have r5 := later (e2 5 (by omega)) H03
      have r6 := later (e2 6 (by omega)) H03
      have r7 := later (e2 7 (by omega)) H03
      have r8 := later (e2 8 (by omega)) H03
      rw [Nat.add_zero] at r0
      have HNx := Lib.hid (nxF_of hblk)
      clear e1 e2 y2 t1 t2 t3 t4 t5 t6 t7 t8 hblk H03
      go_wp2_with fail
      refine (next_own _ blk.term).mono ?_
      rintro e w4 ⟨v4, rfl, ho4, hb4⟩
      have R4 := Lib.hid (HR.out.more BB.out (below_new hb4))
      have O4 := Lib.hid (own_base ho4 (Nat.le_trans HR.out.below.size (by simp)))
      have D4 := Lib.hid (show ∀ (i : Nat) (x : Value), vs[i]? = some x → v4.ownBlock = none ∨ v4.ownBlock ≠ x.ownBlock by
        intro i x hx
        cases h4 : v4.ownBlock with
        | none => exact Or.inl rfl
        | some g =>
          obtain ⟨u, hu, hou⟩ := HR.out.rows i (by have := (List.getElem?_eq_some_iff.1 hx).1; have := HR.out.outer.1; omega)
          rw [hx] at hu
          obtain rfl := Option.some.inj hu
          exact Or.inr (fun e => by have := hou.lt g e.symm; have := ho4.lt g h4; simp at this; omega))
      clear r0 r1 r2 r3 r4 r5 r6 r7 r8 hb4 ho4
      obtain ⟨A4, cap4, hv4, hm4⟩ := own_slice O4.out
      subst hv4
      have hT2 := nextT_len blk.term
      generalize nextT blk.term = nt at *
      have HT2 := Lib.hid hT2
      clear hm4 hT2
      go_wp2_with fail
      go_loopw [29] (fun i wr => ∃ (j : Nat) (vs : List Value), j ≤ nt.length ∧ i = .int .i64 j ∧ BS w wr w.heap.size n (.slice (some ⟨g, 0, none⟩) n cp) vs (befJ (nxF f) m j) ∧
        OwnI wr w.heap.size (.slice A4 nt.length cap4) nt ∧ (∀ (i : Nat) (x : Value), vs[i]? = some x → (Value.slice A4 nt.length cap4).ownBlock = none ∨ (Value.slice A4 nt.length cap4).ownBlock ≠ x.ownBlock)) (fun i _ => nt.length - (intOf i).toNat)
      case atStart => exact ⟨0, vs, by omega, rfl, R4.out.congr (fun i _ => befJ_zero _ _ _), O4.out, D4.out⟩
      case round =>
        obtain ⟨j, vs5, hj, rfl, hR, hO, hD⟩ := hrel
        have HR5 := Lib.hid hR
        have HO5 := Lib.hid hO
        have HD5 := Lib.hid hD
        have hnl := HT2.out
        clear hR hD R4 O4 D4
        by_cases hltj : j < nt.length
        · obtain ⟨k, hk⟩ : ∃ k, nt[j]? = some k := ⟨_, List.getElem?_eq_getElem hltj⟩
          have hkn := HX.out m k hlt (by rw [HNx.out]; exact List.mem_of_getElem? hk)
          obtain ⟨k, rfl⟩ : ∃ k' : Nat, k = k' := ⟨k.toNat, by omega⟩
          obtain ⟨g4, c4, e4, _⟩ := own_form hO (by omega)
          cases e4
          have cc := hO.cell hltj _ hk
          have HKj := Lib.hid (show (nxF f m)[j]? = some (k : Int) by rw [HNx.out]; exact hk)
          have hkn' : k < n := by omega
          have HKN := Lib.hid hkn'
          obtain ⟨v, hv, hov, hcv, hfv⟩ := HR5.out.cell hkn'
          have hdl := befJ_len (nxF f) m j k
          obtain ⟨v7, w7, hr7, hc7, hf7, ⟨A7, c7, hv7⟩, h7, h7b⟩ := HR5.out.append BB.out hkn' hv (by omega) m
          subst hv7
          have HL := Lib.hid (befJ_last (nx := nxF f) (m := m) (j := j) (k := k))
          have HN1 := Lib.hid (fun (hno : (k : Int) ∉ (nxF f m).take j) i => show befJ (nxF f) m (j + 1) i = if i = k then befJ (nxF f) m j k ++ [(m : Int)] else befJ (nxF f) m j i by
            by_cases e : i = k
            · subst e; rw [if_pos rfl, befJ_same HKj.out, if_neg hno]
            · rw [if_neg e, befJ_other HKj.out e])
          have HN2 := Lib.hid (fun (hno : (k : Int) ∈ (nxF f m).take j) i => show befJ (nxF f) m (j + 1) i = befJ (nxF f) m j i by
            by_cases e : i = k
            · subst e; rw [befJ_same HKj.out, if_pos hno]
            · rw [befJ_other HKj.out e])
          have H7 := Lib.hid h7
          have H7b := Lib.hid (h7b _ _ _ HO5.out HD5.out)
          obtain ⟨A8, c8, hv8, hm8⟩ := own_slice hov
          subst hv8
          have HOV := Lib.hid hov
          generalize hbl : befJ (nxF f) m j k = bl at *
          have hl4 : g4 < wr.heap.size := (hO.lt g4 rfl).2
          clear hO hk hkn hov hv h7 h7b hm8
          rcases List.eq_nil_or_concat bl with hnil | ⟨bl', x, hcc⟩
          · subst hnil
            simp only [List.length_nil, Nat.zero_add] at hcv hr7 hc7 H7 H7b
            have HNo := Lib.hid (HN1.out (fun h => by have := HL.out.2 h; simp at this))
            clear HN1 HN2 HL
            go_wp2_with (at_builtin; refine wpList_append_run' _ rfl _ _ _ rfl _ _ _ _ rfl rfl hr7 ?_)
            go_roundw
            case rel => exact ⟨j + 1, _, by omega, by go_num, H7.out.congr (fun i _ => HNo.out i), H7b.out.1, H7b.out.2⟩
            case measure => simp [intOf]; omega
          · rw [List.concat_eq_append] at hcc
            subst hcc
            obtain ⟨g8, c9, e8, _, _, hl8, c8x, _⟩ := own_snoc HOV.out
            have hlb : (bl' ++ [x]).length = bl'.length + 1 := by simp
            rw [hlb] at e8
            simp only [hlb] at hcv hr7 hc7 H7 H7b hdl
            cases e8
            clear HOV hlb
            by_cases hxm : x = m
            · subst hxm
              have HNo := Lib.hid (HN2.out (HL.out.1 (by simp)))
              clear HN1 HN2 HL hr7 hc7 hf7 H7 H7b
              go_wp2_with fail
              go_roundw
              case rel => exact ⟨j + 1, vs5, by omega, by go_num, HR5.out.congr (fun i _ => by rw [HNo.out i]), HO5.out, HD5.out⟩
              case measure => simp [intOf]; omega
            · have hxm' : (x != (m : Int)) = true := by simpa using hxm
              have HNo := Lib.hid (HN1.out (fun h => by have := HL.out.2 h; simp at this; exact hxm this))
              clear HN1 HN2 HL hxm
              go_wp2_with (at_builtin; refine wpList_append_run' _ rfl _ _ _ rfl _ _ _ _ rfl rfl hr7 ?_)
              go_roundw
              case rel => exact ⟨j + 1, _, by omega, by go_num, H7.out.congr (fun i _ => HNo.out i), H7b.out.1, H7b.out.2⟩
              case measure => simp [intOf]; omega
        · have e : j = nt.length := by omega
          subst e
          go_wp2_with fail
          go_roundw
          case rel => exact ⟨m + 1, vs5, by omega, by go_num, HR5.out.congr (fun i _ => (befJ_end _ _ _ _ (by rw [HNx.out]; omega)).symm)⟩
          case measure => simp [intOf]; omega
    · have e : m = n := by omega
      subst e
      go_wp2_with fail
      go_returns
      exact ⟨_, vs, rfl, HR.out⟩
end Go.Proofs.Ytcljdhpdknecjaa
