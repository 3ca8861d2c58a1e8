/- Walks: graph.Of. No condition. -/
import Derived.Test.YtbogcompeefoaaaDoorGr3
import Derived.Test.YtbogcompeefoaaaDoorQh
namespace Go.Proofs.YtbogcompeefoaaaDoor
open Go.RowKit
set_option linter.unusedVariables false
set_option maxHeartbeats 4000000
theorem un_drew {w w' : World} (h : Below w.drew.heap.size w.drew w') : Below w.heap.size w w' := ⟨h.os, h.tape, h.output, h.size, h.block⟩
/-- a Go function's call by its contract, as one step of a region that draws -/
theorem step_call {P : Program} {ops : Array Oper} {o : Oper} {a : Act} {w : World} {K : Act → World → Prop} {Q : Exit → Act → World → Prop} {E : Prop}
    (hg : o.guard = none) (n : FuncId) (hf : ∀ v w, (callFunc n #[v]).run P w = .ok (.enter n #[v]) w) (x : Operand) (t : TypeId) (hop : o.op = Op.call { callee := Callee.value (.func n), args := #[x], argTypes := #[t] }) (v : Value) (hs : a.eval x = v)
    (post : Ending → World → Prop) (hc : Calls P n #[v] w post) (hK : ∀ e w', post e w' → ∃ u, e = .returned u ∧ K (a.put o.dst u) w') : if Region.wanted o (yielded ops a.tmps) = true then Oper.wp P o a w K Q else E := by
  have hw : Region.wanted o (yielded ops a.tmps) = true := by simp [Region.wanted, hg]
  rw [if_pos hw]
  have hrun : (execOp a.eval o).run P w = .ok (.enter n #[v]) w := by
    have e : execOp a.eval o = callFunc n (#[] ++ #[x].map a.eval ++ #[]) := by
      obtain ⟨dst, op, ty, pos, aft, guard⟩ := o
      simp only at hop
      subst hop
      rfl
    rw [e, show (#[] ++ #[x].map a.eval ++ #[] : Array Value) = #[v] by simp [hs]]
    exact hf v w
  unfold Oper.wp
  rw [hrun, Oper.upon_enter]
  refine hc.mono fun e w'' hh => ?_
  obtain ⟨u, rfl, hk⟩ := hK e w'' hh
  exact hk
theorem Tryd.callEmpty (v : Value) (w : World) : (callFunc 51 #[v]).run Tryd.prog w = .ok (.enter 51 #[v]) w := by kernel_rfl
theorem make_ints (w : World) (n : Nat) (hn : n ≤ 1000000) : ∃ w2, (Instr.makeSlice 37 (.int .i64 (n : Nat)) (.int .i64 (n : Nat))).run Tryd.prog w = .ok (.slice (some ⟨w.heap.size, 0, none⟩) n n) w2 ∧ OwnI w2 w.heap.size (.slice (some ⟨w.heap.size, 0, none⟩) n n) (List.replicate n 0) ∧ Below w.heap.size w w2 := by
  obtain ⟨i0, hi, hz0, hz1, hz2⟩ := info_parts Tryd.infoInt
  obtain ⟨w2, hr, hown, hg⟩ := run_make_full (P := Tryd.prog) w w.heap.size 37 3 i0 (.int .i64 0) 1 Tryd.underlying37 hi hz0 hz1 .i64 .i64 n (by rw [hz2]; omega) (by unfold maxLen; omega) (Nat.le_refl _)
  rw [show (Value.int .i64 0).cells = #[.int .i64 0] from rfl, Nat.mul_one, toList_madeCells_one] at hown
  refine ⟨w2, hr, ?_, below_grown hg⟩
  unfold OwnI
  rw [List.length_replicate, show iv (List.replicate n 0) = List.replicate n (.int .i64 0) by simp [iv]]
  exact hown
/-- the graph is being laid: j sets so far -/
structure GrS (w0 w : World) (B gb R j : Nat) (av mv uv : Value) (vs : List Value) : Prop where
  blk : w.heap[gb]? = some (.cells #[av, .slice none 0 0, mv, uv] 119 (0, 0))
  gB : B ≤ gb
  ra : w.ownsRow B 103 1 av j vs
  sa : ∀ i, i < j → ∃ v, vs[i]? = some v ∧ SetB w B v R (fun _ => false)
  ap : ∀ (i k : Nat) u v, i ≠ k → vs[i]? = some u → vs[k]? = some v → u.ownBlock = none ∨ u.ownBlock ≠ v.ownBlock
  sm : SetB w B mv R (fun _ => false)
  am : ∀ (i : Nat) v, vs[i]? = some v → mv.ownBlock = none ∨ mv.ownBlock ≠ v.ownBlock
  ui : OwnI w B uv (List.replicate R 0)
  bel : Below B w0 w
section
variable {w0 w w' : World} {B gb R j : Nat} {av mv uv : Value} {vs : List Value}
theorem GrS.len (h : GrS w0 w B gb R j av mv uv vs) : vs.length = j := by have := h.ra.1; omega
theorem GrS.lt (h : GrS w0 w B gb R j av mv uv vs) {i g : Nat} {v : Value} (hv : vs[i]? = some v) (hg : v.ownBlock = some g) : g < w.heap.size := by
  obtain ⟨u, e1, e2⟩ := h.sa i (by have := (List.getElem?_eq_some_iff.1 hv).1; have := h.len; omega)
  rw [hv] at e1
  cases e1
  exact (e2.lt_ hg).2
theorem GrS.more (h : GrS w0 w B gb R j av mv uv vs) (hB : B ≤ w0.heap.size) (hb : Below w.heap.size w w') : GrS w0 w' B gb R j av mv uv vs :=
  ⟨(hb.block gb (blk_lt h.blk)).trans h.blk, h.gB, own_below h.ra hb, fun i hi => let ⟨v, e1, e2⟩ := h.sa i hi; ⟨v, e1, e2.more hb⟩, h.ap, h.sm.more hb, h.am, own_below h.ui hb, h.bel.trans (hb.mono (Nat.le_trans hB h.bel.size))⟩
theorem GrS.start {m1 m2 : Value} (h1 : SetB w' w.heap.size m1 R (fun _ => false)) (h2 : OwnI w' w.heap.size m2 (List.replicate R 0)) (hb : Below w.heap.size w w') : GrS w (w'.alloc (.cells #[.slice none 0 0, .slice none 0 0, m1, m2] 119)) w.heap.size w'.heap.size R 0 (.slice none 0 0) m1 m2 [] :=
  have ha : Below w'.heap.size w' (w'.alloc (.cells #[.slice none 0 0, .slice none 0 0, m1, m2] 119)) := below_alloc _ (Below.refl _ _)
  ⟨blk_new _ _, hb.size, World.ownsRow_nil _ _ _ _, fun i hi => by omega, fun i k u v _ hu _ => by simp at hu, h1.more ha, fun i v hv => by simp at hv, own_below h2 ha, hb.trans (ha.mono hb.size)⟩
/-- one set more -/
theorem GrS.app (h : GrS w0 w B gb R j av mv uv vs) (hB : B ≤ w0.heap.size) {w2 : World} {sv : Value} (hs : SetB w2 w.heap.size sv R (fun _ => false)) (hb : Below w.heap.size w w2) (hj : j ≤ 1000000) (hsv : sv.oneCell' = true) :
    ∃ av' w3, (Builtin.append_ #[100, 100] 100 #[av, .slice (some ⟨w2.heap.size, 0, none⟩) 1 1]).run Tryd.prog (w2.alloc (.cells #[sv] 103)) = .ok av' w3 ∧ (∃ A cap, av' = .slice A (j + 1) cap) ∧ w3.cell? ⟨gb, 0, none⟩ = some av ∧ w3.frozen? ⟨gb, 0, none⟩ = false ∧ gb < w3.heap.size ∧
      GrS w0 (w3.setCell ⟨gb, 0, none⟩ av') B gb R (j + 1) av' mv uv (vs ++ [sv]) ∧ Below B w (w3.setCell ⟨gb, 0, none⟩ av') := by
  have h2 := h.more hB hb
  have hBw : B ≤ w.heap.size := Nat.le_trans hB h.bel.size
  obtain ⟨i0, hi, hz0, hz1, hz2⟩ := info_parts Tryd.infoSet
  obtain ⟨av', w3, hr, ho, hg, _⟩ := append_one (P := Tryd.prog) (w := w2) B 100 103 i0 _ 24 Tryd.underlying100 hi hz0 hz1 hz2 rfl av j vs h2.ra sv _ rfl hsv (by unfold maxLen; omega) (by omega) (Nat.le_trans hBw hb.size)
  obtain ⟨A, cap, e, _⟩ := own_slice ho
  have hk := blk_kept h2.blk hg (own_blk h2.ra h2.blk (by decide))
  have k2 : (w3.setCell ⟨gb, 0, none⟩ av').heap[gb]? = some (.cells #[av', .slice none 0 0, mv, uv] 119 (0, 0)) ∧ w3.grownBy (w3.setCell ⟨gb, 0, none⟩ av') (some gb) := by
    refine ⟨by rw [blk_setCell hk av']; rfl, rfl, rfl, rfl, by simp [World.setCell], fun k hk hne => ?_⟩
    exact Below.heap_setCell w3 ⟨gb, 0, none⟩ av' k (fun e => hne (by rw [e]))
  obtain ⟨k1, k3⟩ := k2
  have ks : ∀ {b : Nat} {v : Value} {S : Nat → Bool}, SetB w2 b v R S → SetB (w3.setCell ⟨gb, 0, none⟩ av') b v R S := fun hs => by
    have h1 := hs.kept hg (hs.ne_ h2.ra (by decide))
    obtain ⟨n0, xs0, o0⟩ := h1.own_
    exact h1.kept k3 (own_blk o0 hk (by decide))
  have hui : OwnI (w3.setCell ⟨gb, 0, none⟩ av') B uv (List.replicate R 0) := by
    have h1 := World.ownsRow.kept h2.ui hg (own_ne h2.ui h2.ra (by decide))
    exact World.ownsRow.kept h1 k3 (own_blk h1 hk (by decide))
  have hlen := h.len
  have hnew : ∀ (i : Nat) (v : Value), (vs ++ [sv])[i]? = some v → (i < j ∧ vs[i]? = some v) ∨ (i = j ∧ v = sv) := fun i v hv => by
    by_cases hij : i < j
    · rw [List.getElem?_append_left (by omega)] at hv; exact Or.inl ⟨hij, hv⟩
    · rw [List.getElem?_append_right (by omega)] at hv
      cases e : i - vs.length with
      | zero => rw [e] at hv; simp at hv; exact Or.inr ⟨by omega, hv.symm⟩
      | succ n => rw [e] at hv; simp at hv
  have hfar : ∀ {u : Value}, (∀ g, u.ownBlock = some g → g < w.heap.size) → u.ownBlock = none ∨ u.ownBlock ≠ sv.ownBlock := fun {u} hu => by
    cases e : u.ownBlock with
    | none => exact Or.inl rfl
    | some g => exact Or.inr (fun e2 => by have := hu g e; have := (hs.lt_ e2.symm).1; omega)
  have hbel2 : Below B w (w3.setCell ⟨gb, 0, none⟩ av') := below_of_grown (below_of_grown (hb.mono hBw) hBw hg (fun k hk => (h2.ra.lt k hk).1)) hBw k3 (fun k hk => by cases hk; exact h.gB)
  refine ⟨av', w3, hr, ⟨A, cap, e⟩, blk_cell hk rfl, blk_free hk, blk_lt hk, ⟨k1, h.gB, ho.kept k3 (own_blk ho hk (by decide)), fun i hi => ?_, fun i k u v hne hu hv => ?_, ks h2.sm, fun i v hv => ?_, hui, h.bel.trans hbel2⟩, hbel2⟩
  · by_cases hij : i < j
    · obtain ⟨v, e1, e2⟩ := h2.sa i hij
      exact ⟨v, by rw [List.getElem?_append_left (by omega)]; exact e1, ks e2⟩
    · obtain rfl : i = j := by omega
      exact ⟨sv, by rw [List.getElem?_append_right (by omega), show i - vs.length = 0 by omega]; rfl, (ks hs).base_ hBw⟩
  · rcases hnew i u hu with ⟨h1, h3⟩ | ⟨h1, rfl⟩
    · rcases hnew k v hv with ⟨h4, h5⟩ | ⟨h4, rfl⟩
      · exact h.ap i k u v hne h3 h5
      · exact hfar (fun g hg => h.lt h3 hg)
    · rcases hnew k v hv with ⟨h4, h5⟩ | ⟨h4, rfl⟩
      · exact apart_symm (hfar (fun g hg => h.lt h5 hg))
      · omega
  · rcases hnew i v hv with ⟨h1, h3⟩ | ⟨h1, rfl⟩
    · exact h.am i v h3
    · exact hfar (fun g hg => (h.sm.lt_ hg).2)
/-- all sets are there; from here on the lists of copies lie behind -/
theorem GrS.done (h : GrS w0 w B gb R R av mv uv vs) (hb : Below w.heap.size w w') : GrR w' B w.heap.size w'.heap.size gb R av (.slice none 0 0) mv uv vs (fun _ _ => false) (fun _ => false) (List.replicate R 0) [] :=
  ⟨(hb.block gb (blk_lt h.blk)).trans h.blk, h.gB, blk_lt h.blk, own_below h.ra hb, fun g hg => (h.ra.lt g hg).2, fun i hi => let ⟨v, e1, e2⟩ := h.sa i hi; ⟨v, e1, e2.more hb⟩, fun i v g hv hg => h.lt hv hg, h.ap, h.sm.more hb, fun g hg => (h.sm.lt_ hg).2, h.am, own_below h.ui hb, fun g hg => (World.ownsRow.lt h.ui g hg).2, by simp, World.ownsRow_nil _ _ _ _, hb.size, Nat.le_refl _⟩
end
/-- what Of answers -/
def OfR (w : World) (f : FuncD) (R P : Nat) (e : Ending) (w' : World) : Prop :=
  ∃ (L0 L1 gb : Nat) (av cv mv uv : Value) (vs : List Value), e = .returned (.pointer (some ⟨gb, 0, none⟩)) ∧ GrR w' w.heap.size L0 L1 gb R av cv mv uv vs (parE (iB f 0) (blE R (blkF f) (oB f) f.blocks.length) P 0) (blM (blkF f) (oB f) f.blocks.length) (blU R (blkF f) f.blocks.length) (blC (blkF f) f.blocks.length) ∧ Below w.heap.size w w'
set_option maxRecDepth 100000 in
theorem of_any (W0 w : World) (h0 : Below W0.heap.size W0 w) (fb fo : Nat) (f : FuncD) (vb : Value) (c5 : w.cell? ⟨fb, fo + 5, none⟩ = some vb) (R P : Nat) (c3 : w.cell? ⟨fb, fo + 3, none⟩ = some (.int .i64 (R : Nat))) (c1 : w.cell? ⟨fb, fo + 1, none⟩ = some (.int .i64 (P : Nat))) (hPR : P ≤ R) (hb : SlR W0 9 (BlockR W0) vb f.blocks)
    (h0n : 0 < f.blocks.length) (hn6 : f.blocks.length ≤ 1000000) (hR6 : R ≤ 1000000) (hnx : ∀ i k, i < f.blocks.length → k ∈ nxF f i → 0 ≤ k ∧ k < f.blocks.length) (hslim : ∀ b ∈ f.blocks, ∀ x ∈ b.ins, x.args.length ≤ 1000000) (hil : ∀ b ∈ f.blocks, b.ins.length ≤ 1000000)
    (hdst : ∀ b ∈ f.blocks, ∀ x ∈ b.ins, (-1 ≤ x.dst ∧ x.dst < (R : Int)) ∧ ∀ a ∈ readsD x, -1 ≤ a.reg ∧ a.reg < (R : Int)) (htr : ∀ b ∈ f.blocks, ∀ a ∈ readsT b.term, -1 ≤ a.reg ∧ a.reg < (R : Int)) :
    Calls Tryd.prog 27 #[.pointer (some ⟨fb, fo, none⟩)] w (OfR w f R P) := by
  obtain ⟨A, cap, rfl, m2, m3, hi⟩ := hb
  have HM3 := Lib.hid (And.intro m2 m3)
  have HI := Lib.hid hi
  have HX := Lib.hid hnx
  have H0 := Lib.hid h0
  have HSl := Lib.hid (And.intro hslim (And.intro hil (And.intro hdst htr)))
  have C := Lib.hid (And.intro c1 (And.intro c3 c5))
  have HLV := Lib.hid (live_sets W0)
  have HB0 := Lib.hid (Nat.le_refl w.heap.size)
  obtain ⟨wm, hrm, hom, hbm⟩ := make_ints w.drew R hR6
  have HOM := Lib.hid (And.intro hom hbm)
  have HC3m := Lib.hid (later (w := w.drew) (show w.drew.cell? ⟨fb, fo + 3, none⟩ = some (.int .i64 (R : Nat)) from c3) hbm)
  clear hi hnx h0 m2 m3 hslim hil hdst htr c1 hom hbm
  go_enter Tryd.func27, Tryd.ntmps27
  go_wp2_with fail
  go_cut [3] (fun z wx => ∃ (gb : Nat) (mv uv : Value), z = .pointer (some ⟨gb, 0, none⟩) ∧ GrS w wx w.heap.size gb R 0 (.slice none 0 0) mv uv [])
  case first =>
    go_region_held3 (fun w' => w'.cell? ⟨fb, fo + 3, none⟩ = some (.int .i64 (R : Nat)))
      (first | exact C.out.2.1 | exact later (by assumption) hb5 | exact later (by assumption) hb2 | exact HC3m.out | exact later (by assumption) (below_alloc _ (Below.refl _ _)))
      ((go_at_call 51; refine (empty_b _ R hR6).mono ?_; rintro e w4 ⟨v2, rfl, hs2, hb2⟩; obtain ⟨A4, k4, rfl⟩ := hs2.slice_; obtain ⟨w5, hr5, ho5, hb5⟩ := make_ints w4 R hR6))
    all_goals go_wp2_with fail
    all_goals go_meet
    · exact ⟨_, _, _, rfl, GrS.start (w := w) (hs2.more hb5) (own_base ho5 hb2.size) (un_drew (hb2.bt hb5))⟩
    · exact ⟨_, _, _, rfl, GrS.start (w := w) (hs2.base_ HOM.out.2.size) (own_below HOM.out.1 hb2) (un_drew (HOM.out.2.bt hb2))⟩
  case rest =>
    obtain ⟨gb, mv, uv, rfl, hS⟩ := hcut
    have HS := Lib.hid hS
    have HC1 := Lib.hid (later C.out.2.1 hS.bel)
    clear hS HC3m HOM hrm
    have c31 := HC1.out
    go_wp2_with fail
    go_loopw [30] (fun i wr => ∃ (j : Nat) (av : Value) (vs : List Value), j ≤ R ∧ i = .int .i64 j ∧ GrS w wr w.heap.size gb R j av mv uv vs) (fun i _ => R - (intOf i).toNat)
    case atStart => exact ⟨0, _, _, by omega, rfl, HS.out⟩
    case round =>
      obtain ⟨j, av, vs, hj, rfl, h⟩ := hrel
      have H := Lib.hid h
      have c32 := later C.out.2.1 h.bel
      have HC2 := Lib.hid c32
      clear h HS HC1 c31
      by_cases hlt : j < R
      · have ka : wr.cell? ⟨gb, 0, none⟩ = some av := blk_cell H.out.blk rfl
        have la := blk_lt H.out.blk
        go_wp2_with fail
        go_region_law (first
          | (refine step_append_eq rfl (.tmp 36) (.tmp 42) 100 rfl _ _ _ _ (by simp [Act.eval, Act.put]) (by simp [Act.eval, Act.put]) hr3 ?_)
          | (refine step_call rfl 51 Tryd.callEmpty (.tmp 40) 3 rfl (.int .i64 (R : Nat)) (by simp [Act.eval, Act.put]) _ (empty_b _ R hR6) ?_
             rintro e w4 ⟨v2, rfl, hs2, hb2⟩
             obtain ⟨A4, k4, rfl⟩ := hs2.slice_
             obtain ⟨av', w3, hr3, ⟨A9, c9, rfl⟩, kc3, kf3, kl3, hS3, hb3⟩ := H.out.app HB0.out (w2 := w4) hs2 ⟨hb2.os, hb2.tape, hb2.output, hb2.size, hb2.block⟩ (by omega) rfl
             have ka4 : w4.cell? ⟨gb, 0, none⟩ = some av := later (w := wr.drew) ka hb2
             have la4 := World.block_lt_of_cell? _ _ ka4
             refine ⟨_, rfl, ?_⟩))
        all_goals go_wp2_with fail
        all_goals go_roundw
        all_goals first | exact ⟨j + 1, _, _, by omega, by go_num, hS3⟩ | (simp [intOf]; omega)
      · have e : R = j := by omega
        subst e
        have HLc := Lib.hid (HLV.out wr (H0.out.trans (H.out.bel.mono H0.out.size)) fb fo f _ (later C.out.2.2 H.out.bel) R HC2.out ⟨A, cap, rfl, HM3.out.1, HM3.out.2, HI.out⟩ _ rfl h0n hn6 hR6 HX.out HSl.out.1)
        have c52 := later C.out.2.2 H.out.bel
        have HC5 := Lib.hid c52
        clear c5
        go_wp2_with fail
        refine HLc.out.mono ?_
        rintro e w4 ⟨iv, ov, vs2, I, O, rfl, hLS, hLI, hLD⟩
        have HG := Lib.hid (H.out.done hLS.below)
        have HLI := Lib.hid (fun i hi => live_i hLS hLI hLD (i := i) hi)
        have HLO := Lib.hid (fun i hi => live_o hLS hLI hLD HX.out (i := i) hi)
        have HRO := Lib.hid (And.intro hLS.ri hLS.ro)
        have HB4 := Lib.hid (H.out.bel.trans (hLS.below.mono H.out.bel.size))
        obtain ⟨gi, ci, hiv, _⟩ := own_form hLS.ri h0n
        obtain ⟨go, co, hov, _⟩ := own_form hLS.ro h0n
        subst hiv hov
        obtain ⟨L0, hL0⟩ : ∃ z, z = wr.heap.size := ⟨_, rfl⟩
        obtain ⟨L1, hL1⟩ : ∃ z, z = w4.heap.size := ⟨_, rfl⟩
        rw [← hL0] at HG HLI HLO HRO
        rw [← hL1] at HG
        have HL := Lib.hid (And.intro hL1 (show w.heap.size ≤ L0 by rw [hL0]; exact H.out.bel.size))
        have c53 := later C.out.2.2 HB4.out
        clear hLS hLI hLD HLc HLV hL0 hL1 H HC2 HC5 c52
        obtain ⟨n, hn⟩ : ∃ n, n = f.blocks.length := ⟨_, rfl⟩
        rw [← hn] at HX HLI HLO HRO c53 C h0n hn6 ⊢
        have HN := Lib.hid hn
        clear hn
        have HG0 := Lib.hid (show GrR w4 w.heap.size L0 L1 gb R av (.slice none 0 0) mv uv vs (blE R (blkF f) (oB f) 0) (blM (blkF f) (oB f) 0) (blU R (blkF f) 0) (blC (blkF f) 0) from HG.out)
        go_wp2_with fail
        go_loopw [57] (fun i wr => ∃ (m : Nat) (cv : Value), m ≤ n ∧ i = .int .i64 m ∧ GrR wr w.heap.size L0 L1 gb R av cv mv uv vs (blE R (blkF f) (oB f) m) (blM (blkF f) (oB f) m) (blU R (blkF f) m) (blC (blkF f) m) ∧ Mid w.heap.size L0 L1 w4 wr ∧ Ub (blU R (blkF f) m) (m * 1000004000010) ∧ (blC (blkF f) m).length ≤ m * 1000000) (fun i _ => n - (intOf i).toNat)
        case atStart => exact ⟨0, _, by omega, rfl, HG0.out, Mid.refl _ _ _ _, Ub.zero R, Nat.le_refl _⟩
        case round =>
          obtain ⟨m, cv, hm, rfl, hg, hmid, hub, hcl⟩ := hrel
          have HG1 := Lib.hid hg
          have HM1 := Lib.hid hmid
          have HU1 := Lib.hid hub
          have HC1 := Lib.hid hcl
          clear hg hmid hub hcl HG HG0
          by_cases hlt2 : m < n
          · obtain ⟨blk, hblk⟩ : ∃ b', f.blocks[m]? = some b' := ⟨_, List.getElem?_eq_getElem (by rw [← HN.out]; exact hlt2)⟩
            obtain ⟨bb, bo, cs, rfl, e1, e2, vi, e3, y1, y2, t1, t2, t3, t4, t5, t6, t7, t8⟩ := HI.out m blk hblk
            subst e3
            have H03 := H0.out.trans ((HB4.out.trans (HM1.out.below (Nat.le_trans HB4.out.size (Nat.le_refl _)))).mono H0.out.size)
            obtain ⟨A9, cap9, rfl, _, _, h9⟩ := y1
            have H9 := Lib.hid h9
            have HT4 := Lib.hid (And.intro t3 t4)
            have HT5 := Lib.hid (And.intro t5 t6)
            have r0 := later (e2 0 (by omega)) H03
            have r1 := later (e2 1 (by omega)) H03
            have r2 := later (e2 2 (by omega)) H03
            have r3 := later (e2 3 (by omega)) H03
            have r4 := later (e2 4 (by omega)) H03
            have r5 := later (e2 5 (by omega)) H03
            have r6 := later (e2 6 (by omega)) H03
            have r7 := later (e2 7 (by omega)) H03
            have r8 := later (e2 8 (by omega)) H03
            rw [Nat.add_zero] at r0
            have HBk := Lib.hid (blkF_of hblk)
            have hmem := List.mem_of_getElem? hblk
            have HSb := Lib.hid (And.intro (HSl.out.1 blk hmem) (And.intro (HSl.out.2.1 blk hmem) (And.intro (HSl.out.2.2.1 blk hmem) (HSl.out.2.2.2 blk hmem))))
            have hil := HSb.out.2.1
            obtain ⟨ovv, hov, hos⟩ := HLO.out m hlt2
            have HOS := Lib.hid (HM1.out.set_ hos (Nat.le_refl _) (fun g hg => by rw [HL.out.1]; exact (hos.lt_ hg).2))
            have hro := HM1.out.row HRO.out.2 (Nat.le_refl _) (fun g hg => by rw [HL.out.1]; exact (HRO.out.2.lt g hg).2)
            obtain ⟨co1, _, co3⟩ := row_cell hro hlt2 (v := ovv) (by rw [List.getElem?_drop]; exact hov)
            obtain ⟨A3, cap3, hv3⟩ := HOS.out.slice_
            subst hv3
            have HBX := Lib.hid (below_alloc (.cells #[.slice A9 blk.ins.length cap9, .int .i64 blk.term.kind, .int .i64 blk.term.op, .int .i64 blk.term.a.reg, .int .i64 blk.term.a.num, .int .i64 blk.term.b.reg, .int .i64 blk.term.b.num, .int .i64 blk.term.to_, .int .i64 blk.term.els] 58) (Below.refl wr.heap.size wr))
            have HBO := Lib.hid (blk_new wr (.cells #[.slice A9 blk.ins.length cap9, .int .i64 blk.term.kind, .int .i64 blk.term.op, .int .i64 blk.term.a.reg, .int .i64 blk.term.a.num, .int .i64 blk.term.b.reg, .int .i64 blk.term.b.num, .int .i64 blk.term.to_, .int .i64 blk.term.els] 58))
            clear e1 e2 y2 t1 t2 t3 t4 t5 t6 t7 t8 hblk H03 h9 hmem hov hos hro
            go_wp2_with fail
            obtain ⟨wb, hwb⟩ : ∃ z, z = wr.alloc (.cells #[.slice A9 blk.ins.length cap9, .int .i64 blk.term.kind, .int .i64 blk.term.op, .int .i64 blk.term.a.reg, .int .i64 blk.term.a.num, .int .i64 blk.term.b.reg, .int .i64 blk.term.b.num, .int .i64 blk.term.to_, .int .i64 blk.term.els] 58) := ⟨_, rfl⟩
            rw [← hwb] at HBX HBO ⊢
            obtain ⟨gk, hgk⟩ : ∃ z, z = wr.heap.size := ⟨_, rfl⟩
            rw [← hgk] at HBO ⊢
            have HGK := Lib.hid hgk
            clear hwb hgk
            refine (copy_b wb (HOS.out.more HBX.out) hR6).mono ?_
            rintro e w5 ⟨sv, rfl, hs5, hb5⟩
            have HS5 := Lib.hid (hs5.base_ (Nat.le_trans HG1.out.top HBX.out.size))
            have HG5 := Lib.hid ((HG1.out.more HBX.out).more hb5)
            have HM5 := Lib.hid ((HM1.out.trans (Mid.of_below HBX.out)).trans (Mid.of_below hb5))
            have HO5 := Lib.hid (blk_kept HBO.out (grown_of_below (r := none) hb5) (Or.inl rfl))
            have k1 : w5.cell? ⟨gk, 1, none⟩ = some (.int .i64 blk.term.kind) := blk_cell HO5.out rfl
            have k2 : w5.cell? ⟨gk, 2, none⟩ = some (.int .i64 blk.term.op) := blk_cell HO5.out rfl
            have k3 : w5.cell? ⟨gk, 3, none⟩ = some (.int .i64 blk.term.a.reg) := blk_cell HO5.out rfl
            have k4 : w5.cell? ⟨gk, 4, none⟩ = some (.int .i64 blk.term.a.num) := blk_cell HO5.out rfl
            have k5 : w5.cell? ⟨gk, 5, none⟩ = some (.int .i64 blk.term.b.reg) := blk_cell HO5.out rfl
            have k6 : w5.cell? ⟨gk, 6, none⟩ = some (.int .i64 blk.term.b.num) := blk_cell HO5.out rfl
            have k7 : w5.cell? ⟨gk, 7, none⟩ = some (.int .i64 blk.term.to_) := blk_cell HO5.out rfl
            have k8 : w5.cell? ⟨gk, 8, none⟩ = some (.int .i64 blk.term.els) := blk_cell HO5.out rfl
            have hgk5 := blk_lt HO5.out
            clear hs5 hb5 r0 r1 r2 r3 r4 r5 r6 r7 r8 co1 co3 HBO HBX
            go_wp2_with fail
            refine (treads_new _ blk.term HT4.out HT5.out).mono ?_
            rintro e w6 ⟨v6, rfl, hv6, hb6, how⟩
            have HS6 := Lib.hid (HS5.out.more hb6)
            have HG6 := Lib.hid (HG5.out.more hb6)
            have HM6 := Lib.hid (HM5.out.trans (Mid.of_below hb6))
            have HO6 := Lib.hid (blk_kept HO5.out (grown_of_below (r := none) hb6) (Or.inl rfl))
            have HV6 := Lib.hid (show KeepV w6 w.heap.size v6 (readsT blk.term) from ⟨hv6, by
              rcases how with rfl | ⟨b9, n9, xs9, ho9⟩
              · exact Or.inl (hv6.nil_of rfl)
              · refine Or.inr (fun b hb => ?_)
                rcases ho9.2 with ⟨rfl, _⟩ | ⟨g, cap, cur, rfl, _, hh, _⟩
                · cases hb
                · cases hb; exact Or.inr ⟨_, _, hh⟩⟩)
            have hlen2 : (readsT blk.term).length ≤ 2 := by
              unfold readsT
              split
              · simp
              · split <;> simp
            obtain ⟨A4, cap4, hv5, _⟩ := id hv6
            subst hv5
            clear k1 k2 k3 k4 k5 k6 k7 k8 hgk5 hv6 hb6 how HS5 HG5 HM5 HO5
            obtain ⟨al, hal2⟩ : ∃ z, z = readsT blk.term := ⟨_, rfl⟩
            have HRD := Lib.hid HSb.out.2.2.2
            rw [← hal2] at HV6 HRD hlen2 ⊢
            have HAL := Lib.hid hal2
            obtain ⟨q, hq⟩ : ∃ q, q = al.length := ⟨_, rfl⟩
            rw [← hq] at HV6 hlen2 ⊢
            have HQ := Lib.hid hq
            clear hal2 hq
            go_wp2_with fail
            have hil := HSb.out.2.1
            go_loopw [71] (fun i wr => ∃ k : Nat, k ≤ q ∧ i = .int .i64 k ∧ GrR wr w.heap.size L0 L1 gb R av cv mv uv vs (blE R (blkF f) (oB f) m) (blM (blkF f) (oB f) m) (readU (blU R (blkF f) m) (al.take k)) (blC (blkF f) m) ∧ SetB wr L1 sv R (useF (oB f m) (al.take k)) ∧ Mid w.heap.size L0 L1 w6 wr) (fun i _ => q - (intOf i).toNat)
            case atStart => exact ⟨0, by omega, rfl, HG6.out, HS6.out.congr (fun r _ => by simp [useF, useB]), Mid.refl _ _ _ _⟩
            case round =>
              obtain ⟨k, hk, rfl, h5, hs5, hm5⟩ := hrel
              have HG7 := Lib.hid h5
              have HS7 := Lib.hid hs5
              have HM7 := Lib.hid hm5
              have hv6 := (HV6.out.mid hm5).1
              clear h5 hs5 hm5
              by_cases hltk : k < q
              · have hlk : k < al.length := by rw [← HQ.out]; exact hltk
                obtain ⟨a, ha⟩ : ∃ a, al[k]? = some a := ⟨_, List.getElem?_eq_getElem hlk⟩
                obtain ⟨A6, cap6, e6, _, _, hv7⟩ := hv6
                cases e6
                obtain ⟨lb, lo, cs, rfl, e1, e2, e3, e4, e5⟩ := hv7 k a ha
                subst e3
                have q0 := e2 0 (by omega)
                have q1 := e2 1 (by omega)
                rw [Nat.add_zero] at q0
                have hb0 := World.block_lt_of_cell? _ _ q0
                have HR := Lib.hid (HRD.out a (List.mem_of_getElem? ha))
                have HT1 := Lib.hid (readU_take (blU R (blkF f) m) ha)
                have HT2 := Lib.hid (useF_take (oB f m) ha)
                have HAB := Lib.hid (below_alloc (.cells #[.int .i64 a.reg, .int .i64 a.num] 52) (Below.refl wr.heap.size wr))
                clear e1 e2 e4 e5 hlk ha hv7
                go_wp2_with fail
                refine (read_any (HG7.out.more HAB.out) hR6 HL.out.2 sv _ (HS7.out.more HAB.out) a HR.out.1 HR.out.2 (m * 1000004000010 + k) (by omega) (by omega) ((HU1.out.reads _ (by omega)).mono (by rw [List.length_take]; omega))).mono ?_
                rintro e w9 ⟨rfl, h9, hs9, hm9⟩
                have H9' := Lib.hid h9
                have HS9 := Lib.hid hs9
                have HM9 := Lib.hid (HM7.out.trans ((Mid.of_below (B := w.heap.size) (L0 := L0) (L1 := L1) HAB.out).trans hm9))
                clear h9 hs9 hm9 q0 q1 hb0
                go_wp2_with fail
                go_roundw
                case rel => exact ⟨k + 1, by omega, by go_num, by rw [HT1.out]; exact H9'.out, by rw [HT2.out]; exact HS9.out, HM9.out⟩
                case measure => first | omega | (simp [intOf]; done) | (simp [intOf]; omega)
              · have e : k = q := by omega
                subst e
                have hbx := HM7.out.blk_ HO6.out (by decide)
                have k0 : wr.cell? ⟨gk, 0, none⟩ = some (.slice A9 blk.ins.length cap9) := blk_cell hbx rfl
                have hgk7 := blk_lt hbx
                have HS0 := Lib.hid (show endS (blkF f) (oB f) m = useF (oB f m) al by unfold endS; rw [HBk.out, HAL.out])
                have HG8 := Lib.hid (show GrR wr w.heap.size L0 L1 gb R av cv mv uv vs (blE R (blkF f) (oB f) m) (blM (blkF f) (oB f) m) (readU (blU R (blkF f) m) (readsT (blkF f m).term)) (blC (blkF f) m) by
                  have := HG7.out
                  rw [HQ.out, List.take_length, HAL.out] at this
                  rw [HBk.out]; exact this)
                have HS8 := Lib.hid (show SetB wr L1 sv R (endS (blkF f) (oB f) m) by
                  have := HS7.out
                  rw [HQ.out, List.take_length] at this
                  rw [HS0.out]; exact this)
                have HU8 := Lib.hid (show Ub (readU (blU R (blkF f) m) (readsT (blkF f m).term)) (m * 1000004000010 + 2) by
                  rw [HBk.out, ← HAL.out]
                  exact (HU1.out.reads _ (by omega)).mono (by have := HQ.out; omega))
                have HO8 := Lib.hid hbx
                have HM8 := Lib.hid (HM6.out.trans HM7.out)
                clear hbx hv6 HG7 HS7 HG6 HS6 HV6 hlen2 HRD
                obtain ⟨S0, hS0⟩ : ∃ z, z = endS (blkF f) (oB f) m := ⟨_, rfl⟩
                obtain ⟨E0, hE0⟩ : ∃ z, z = blE R (blkF f) (oB f) m := ⟨_, rfl⟩
                obtain ⟨M0, hM0⟩ : ∃ z, z = blM (blkF f) (oB f) m := ⟨_, rfl⟩
                obtain ⟨U0, hU0⟩ : ∃ z, z = readU (blU R (blkF f) m) (readsT (blkF f m).term) := ⟨_, rfl⟩
                obtain ⟨C0, hC0⟩ : ∃ z, z = blC (blkF f) m := ⟨_, rfl⟩
                rw [← hS0] at HS8
                rw [← hE0, ← hM0, ← hU0, ← hC0] at HG8
                rw [← hU0] at HU8
                rw [← hC0] at HC1
                have HEQ := Lib.hid (And.intro hS0 (And.intro hE0 (And.intro hM0 (And.intro hU0 hC0))))
                clear hS0 hE0 hM0 hU0 hC0 HU1 HG1 HM1
                go_wp2_with fail
                obtain ⟨wz, rfl⟩ : ∃ wo : World, wo = wr := ⟨_, rfl⟩
                go_loopw [11] (fun s wr => ∃ (j : Nat) (cv : Value), j ≤ blk.ins.length ∧ s = .int .i64 ((j : Int) - 1) ∧ GrR wr w.heap.size L0 L1 gb R av cv mv uv vs (bsE R S0 E0 (blk.ins.drop j)) (bsM S0 M0 (blk.ins.drop j)) (bsU U0 (blk.ins.drop j)) (bsC C0 (blk.ins.drop j)) ∧ SetB wr L1 sv R (bsS S0 (blk.ins.drop j)) ∧ Mid w.heap.size L0 L1 wz wr ∧ Ub (bsU U0 (blk.ins.drop j)) (m * 1000004000010 + 2 + (blk.ins.length - j : Nat) * 1000003)) (fun s _ => (intOf s + 1).toNat)
                case atStart => exact ⟨blk.ins.length, cv, Nat.le_refl _, rfl, by rw [List.drop_length]; exact HG8.out, by rw [List.drop_length]; exact HS8.out, Mid.refl _ _ _ _, by rw [List.drop_length, Nat.sub_self]; exact HU8.out.mono (by omega)⟩
                case round =>
                  obtain ⟨j, cv1, hj, rfl, h5, hs5, hm5, hu5⟩ := hrel
                  have HG9 := Lib.hid h5
                  have HS9 := Lib.hid hs5
                  have HM9 := Lib.hid hm5
                  have HU9 := Lib.hid hu5
                  have hbx := hm5.blk_ HO8.out (by decide)
                  have k0 : wr.cell? ⟨gk, 0, none⟩ = some (.slice A9 blk.ins.length cap9) := blk_cell hbx rfl
                  have hgk9 := blk_lt hbx
                  clear h5 hs5 hm5 hu5 hbx
                  rcases Nat.eq_zero_or_pos j with e | e
                  · subst e
                    have HF1 := Lib.hid (show GrR wr w.heap.size L0 L1 gb R av cv1 mv uv vs (blE R (blkF f) (oB f) (m + 1)) (blM (blkF f) (oB f) (m + 1)) (blU R (blkF f) (m + 1)) (blC (blkF f) (m + 1)) by
                      have := HG9.out
                      rw [List.drop_zero, HEQ.out.1, HEQ.out.2.1, HEQ.out.2.2.1, HEQ.out.2.2.2.1, HEQ.out.2.2.2.2] at this
                      show GrR wr w.heap.size L0 L1 gb R av cv1 mv uv vs (bsE R (endS (blkF f) (oB f) m) (blE R (blkF f) (oB f) m) (blkF f m).ins) (bsM (endS (blkF f) (oB f) m) (blM (blkF f) (oB f) m) (blkF f m).ins) (bsU (readU (blU R (blkF f) m) (readsT (blkF f m).term)) (blkF f m).ins) (bsC (blC (blkF f) m) (blkF f m).ins)
                      rw [HBk.out] at this ⊢
                      exact this)
                    have HF2 := Lib.hid (show Ub (blU R (blkF f) (m + 1)) (((m + 1 : Nat) : Int) * 1000004000010) by
                      have := HU9.out
                      rw [List.drop_zero, HEQ.out.2.2.2.1] at this
                      show Ub (bsU (readU (blU R (blkF f) m) (readsT (blkF f m).term)) (blkF f m).ins) _
                      rw [HBk.out] at this ⊢
                      have := HSb.out.2.1
                      exact Ub.mono (by assumption) (by omega))
                    have HF3 := Lib.hid (show (blC (blkF f) (m + 1)).length ≤ (m + 1) * 1000000 by
                      show (bsC (blC (blkF f) m) (blkF f m).ins).length ≤ _
                      have h1 := bsC_len (blC (blkF f) m) (blkF f m).ins
                      have h2 := HC1.out
                      rw [HEQ.out.2.2.2.2] at h2
                      have h3 := HSb.out.2.1
                      rw [HBk.out] at h1 ⊢
                      omega)
                    go_wp2_with fail
                    go_roundw
                    case rel => exact ⟨m + 1, cv1, by omega, by go_num, HF1.out, HM8.out.trans HM9.out, HF2.out, HF3.out⟩
                    case measure => first | omega | (simp [intOf]; done) | (simp [intOf]; omega)
                  · obtain ⟨j, rfl⟩ : ∃ j', j = j' + 1 := ⟨j - 1, by omega⟩
                    clear e
                    have hjq : (((j + 1 : Nat) : Int) - 1) = (j : Nat) := by omega
                    rw [hjq]
                    clear hjq
                    have hqi : j < blk.ins.length := by omega
                    obtain ⟨x, hx⟩ : ∃ x, blk.ins[j]? = some x := ⟨_, List.getElem?_eq_getElem hqi⟩
                    obtain ⟨ib, io, cs, rfl, e1, e2, va, e3, u1, u2, u3, u4, u5, u6, u7, u8, u9, u10, u11⟩ := H9.out j x hx
                    subst e3
                    have h08 := H0.out.trans ((HB4.out.trans ((HM8.out.trans HM9.out).below HB4.out.size)).mono H0.out.size)
                    have r0 := later (e2 0 (by omega)) h08
                    have r1 := later (e2 1 (by omega)) h08
                    have r2 := later (e2 2 (by omega)) h08
                    have r3 := later (e2 3 (by omega)) h08
                    have r4 := later (e2 4 (by omega)) h08
                    have r5 := later (e2 5 (by omega)) h08
                    have r6 := later (e2 6 (by omega)) h08
                    have r7 := later (e2 7 (by omega)) h08
                    have r8 := later (e2 8 (by omega)) h08
                    have r9 := later (e2 9 (by omega)) h08
                    have r10 := later (e2 10 (by omega)) h08
                    have r11 := later (e2 11 (by omega)) h08
                    rw [Nat.add_zero] at r0
                    have HKV := Lib.hid (show KeepV wr w.heap.size va x.args from ⟨u10.later (by decide) h08, by
                      rcases u10.blk (by decide) with h | ⟨b', h1, h2⟩
                      · exact Or.inl h
                      · refine Or.inr (fun b hb => Or.inl ?_)
                        rw [h1] at hb
                        cases hb
                        have := H0.out.size
                        omega⟩)
                    have hxm := List.mem_of_getElem? hx
                    have HIA := Lib.hid (ins_any HG9.out hR6 HL.out.2 sv _ HS9.out x va u1 (HSb.out.2.2.1 x hxm).1.1 (HSb.out.2.2.1 x hxm).1.2 ⟨u3, u4⟩ ⟨u5, u6⟩ HKV.out (HSb.out.1 x hxm) (HSb.out.2.2.1 x hxm).2 _ (by omega) (by have := HSb.out.2.1; omega) HU9.out (by
                      have h1 := bsC_len C0 (blk.ins.drop (j + 1))
                      have h2 := HC1.out
                      have h3 := HSb.out.2.1
                      rw [List.length_drop] at h1
                      omega))
                    have HDr := Lib.hid (drop_cons hx)
                    have HU10 := Lib.hid (show Ub (bsU U0 (blk.ins.drop j)) ((m : Int) * 1000004000010 + 2 + ((blk.ins.length - j : Nat) : Int) * 1000003) by
                      rw [HDr.out]
                      exact (HU9.out.ins x (by omega) (HSb.out.1 x hxm)).mono (by omega))
                    obtain ⟨A5, cap5, rfl, _, _, _⟩ := u10
                    clear e1 e2 hx hxm u1 u2 u3 u4 u5 u6 u7 u8 u9 u11 h08
                    go_wp2_with fail
                    refine HIA.out.mono ?_
                    rintro e w9 ⟨cv2, rfl, h6, hs6, hm6⟩
                    have HG10 := Lib.hid (show GrR w9 w.heap.size L0 L1 gb R av cv2 mv uv vs (bsE R S0 E0 (blk.ins.drop j)) (bsM S0 M0 (blk.ins.drop j)) (bsU U0 (blk.ins.drop j)) (bsC C0 (blk.ins.drop j)) by rw [HDr.out]; exact h6)
                    have HS10 := Lib.hid (show SetB w9 L1 sv R (bsS S0 (blk.ins.drop j)) by rw [HDr.out]; exact hs6)
                    have HM10 := Lib.hid (HM9.out.trans hm6)
                    clear h6 hs6 hm6 r0 r1 r2 r3 r4 r5 r6 r7 r8 r9 r10 r11 k0 hgk9 HIA
                    go_wp2_with fail
                    go_roundw
                    case rel => exact ⟨j, cv2, by omega, by go_num, HG10.out, HS10.out, HM10.out, HU10.out⟩
                    case measure => first | omega | (simp [intOf]; done) | (simp [intOf]; omega)
          · have e : n = m := by omega
            subst e
            have HB5 := Lib.hid (HB4.out.trans (HM1.out.below HB4.out.size))
            have c11 := later C.out.1 HB5.out
            obtain ⟨v0, hv0, hs0⟩ := HLI.out 0 h0n
            have HS0 := Lib.hid (And.intro hv0 hs0)
            have HPr := Lib.hid (show GrR wr w.heap.size L0 L1 gb R av cv mv uv vs (parE (iB f 0) (blE R (blkF f) (oB f) n) 0 0) (blM (blkF f) (oB f) n) (blU R (blkF f) n) (blC (blkF f) n) from HG1.out.congr (fun x y _ _ => (parE_zero _ _ x y).symm) (fun _ _ => rfl))
            obtain ⟨En, hEn⟩ : ∃ z, z = blE R (blkF f) (oB f) n := ⟨_, rfl⟩
            obtain ⟨Mn, hMn⟩ : ∃ z, z = blM (blkF f) (oB f) n := ⟨_, rfl⟩
            obtain ⟨Un, hUn⟩ : ∃ z, z = blU R (blkF f) n := ⟨_, rfl⟩
            obtain ⟨Cn, hCn⟩ : ∃ z, z = blC (blkF f) n := ⟨_, rfl⟩
            obtain ⟨In, hIn⟩ : ∃ z, z = iB f 0 := ⟨_, rfl⟩
            rw [← hEn, ← hMn, ← hUn, ← hCn, ← hIn] at HPr
            rw [← hIn] at HS0
            have HEQ := Lib.hid (And.intro hEn (And.intro hMn (And.intro hUn (And.intro hCn hIn))))
            obtain ⟨A0, cap0, hv00⟩ := hs0.slice_
            subst hv00
            clear hv0 hs0 hEn hMn hUn hCn hIn HLI HLO HG1 HU1 HC1
            go_wp2_with fail
            obtain ⟨wz, rfl⟩ : ∃ wo : World, wo = wr := ⟨_, rfl⟩
            go_loopw [101] (fun i wr => ∃ a : Nat, a ≤ P ∧ i = .int .i64 a ∧ GrR wr w.heap.size L0 L1 gb R av cv mv uv vs (parE In En a 0) Mn Un Cn ∧ Mid w.heap.size L0 L1 w4 wr) (fun i _ => P - (intOf i).toNat)
            case atStart => exact ⟨0, by omega, rfl, HPr.out, HM1.out⟩
            case round =>
              obtain ⟨a, ha, rfl, hg, hmid⟩ := hrel
              have HG2 := Lib.hid hg
              have HM2 := Lib.hid hmid
              clear hg hmid HPr
              by_cases hlta : a < P
              · go_wp2_with fail
                obtain ⟨wy, rfl⟩ : ∃ wo : World, wo = wr := ⟨_, rfl⟩
                go_loopw [105] (fun i wr => ∃ b : Nat, b ≤ a ∧ i = .int .i64 b ∧ GrR wr w.heap.size L0 L1 gb R av cv mv uv vs (parE In En a b) Mn Un Cn ∧ Mid w.heap.size L0 L1 w4 wr) (fun i _ => a - (intOf i).toNat)
                case atStart => exact ⟨0, by omega, rfl, HG2.out, HM2.out⟩
                case round =>
                  obtain ⟨b, hb, rfl, hg, hmid⟩ := hrel
                  have HG3 := Lib.hid hg
                  have HM3 := Lib.hid hmid
                  clear hg hmid HG2 HM2
                  by_cases hltb : b < a
                  · have HS3 := Lib.hid (HM3.out.set_ HS0.out.2 (Nat.le_refl _) (fun g hg => by rw [HL.out.1]; exact (HS0.out.2.lt_ hg).2))
                    have hri := HM3.out.row HRO.out.1 (Nat.le_refl _) (fun g hg => by rw [HL.out.1]; exact (HRO.out.1.lt g hg).2)
                    obtain ⟨ci1, _, ci3⟩ := row_cell hri h0n (v := .slice A0 ((R + 63) / 64) cap0) (by rw [List.getElem?_take, if_pos h0n]; exact HS0.out.1)
                    have HA := Lib.hid (has_b wr a HS3.out hR6 (by omega))
                    have HBb := Lib.hid (has_b wr b HS3.out hR6 (by omega))
                    have HEd := Lib.hid (edge_any HG3.out hR6 a b (by omega) (by omega))
                    have HNo := Lib.hid (fun x y => parE_no In En a b x y)
                    have HYes := Lib.hid (fun x y => parE_yes In En a b x y hltb)
                    clear hri
                    obtain ⟨ia, hia⟩ : ∃ z, z = In a := ⟨_, rfl⟩
                    obtain ⟨ib, hib⟩ : ∃ z, z = In b := ⟨_, rfl⟩
                    rw [← hia] at HA
                    rw [← hib] at HBb
                    rw [← hia, ← hib] at HNo HYes
                    clear hia hib
                    cases ia <;> cases ib
                    · go_wp2_with fail
                      refine HA.out.mono ?_
                      rintro e w7 ⟨rfl, rfl⟩
                      go_wp2_with fail
                      refine HBb.out.mono ?_
                      rintro e w7 ⟨rfl, rfl⟩
                      go_wp2_with fail
                      go_roundw
                      case rel => exact ⟨b + 1, by omega, by go_num, HG3.out.congr (fun x y _ _ => HNo.out x y rfl) (fun _ _ => rfl), HM3.out⟩
                      case measure => first | omega | (simp [intOf]; done) | (simp [intOf]; omega)
                    · go_wp2_with fail
                      refine HA.out.mono ?_
                      rintro e w7 ⟨rfl, rfl⟩
                      go_wp2_with fail
                      refine HBb.out.mono ?_
                      rintro e w7 ⟨rfl, rfl⟩
                      go_wp2_with fail
                      refine HEd.out.mono ?_
                      rintro e w8 ⟨rfl, h5, hm5⟩
                      have H5 := Lib.hid (h5.congr (fun x y _ _ => HYes.out x y rfl) (fun _ _ => rfl))
                      have HM5 := Lib.hid (HM3.out.trans (hm5.mono HG3.out.top))
                      clear h5 hm5 ci1 ci3
                      go_wp2_with fail
                      go_roundw
                      case rel => exact ⟨b + 1, by omega, by go_num, H5.out, HM5.out⟩
                      case measure => first | omega | (simp [intOf]; done) | (simp [intOf]; omega)
                    all_goals
                      go_wp2_with fail
                      refine HA.out.mono ?_
                      rintro e w7 ⟨rfl, rfl⟩
                      go_wp2_with fail
                      refine HEd.out.mono ?_
                      rintro e w8 ⟨rfl, h5, hm5⟩
                      have H5 := Lib.hid (h5.congr (fun x y _ _ => HYes.out x y rfl) (fun _ _ => rfl))
                      have HM5 := Lib.hid (HM3.out.trans (hm5.mono HG3.out.top))
                      clear h5 hm5 ci1 ci3
                      go_wp2_with fail
                      go_roundw
                      case rel => exact ⟨b + 1, by omega, by go_num, H5.out, HM5.out⟩
                      case measure => first | omega | (simp [intOf]; done) | (simp [intOf]; omega)
                  · have e : a = b := by omega
                    subst e
                    go_wp2_with fail
                    go_roundw
                    case rel => exact ⟨a + 1, by omega, by go_num, HG3.out.congr (fun x y _ _ => parE_next _ _ a x y) (fun _ _ => rfl), HM3.out⟩
                    case measure => first | omega | (simp [intOf]; done) | (simp [intOf]; omega)
              · have e : P = a := by omega
                subst e
                go_wp2_with fail
                go_returns
                refine ⟨L0, L1, gb, av, cv, mv, uv, vs, rfl, ?_, HB4.out.trans (HM2.out.below HB4.out.size)⟩
                have := HG2.out
                rw [HEQ.out.1, HEQ.out.2.1, HEQ.out.2.2.1, HEQ.out.2.2.2.1, HEQ.out.2.2.2.2] at this
                rw [← HN.out]
                exact this
end Go.Proofs.YtbogcompeefoaaaDoor
