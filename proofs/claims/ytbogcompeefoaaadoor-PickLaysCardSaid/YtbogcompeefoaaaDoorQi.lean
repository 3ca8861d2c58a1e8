/- What a function that may be gives; graph.Of of it. Walks: graph's pick. Walks: graph's Degree; plain: no register is apart from itself. Plain facts: the graph of a function that may be is symmetric; its copies are of registers that there are. No condition. -/
import Derived.Test.YtbogcompeefoaaaDoorGr4
import Derived.Test.YtbogcompeefoaaaDoorRn
namespace Go.Proofs.YtbogcompeefoaaaDoor
open Go.RowKit
set_option linter.unusedVariables false
set_option maxHeartbeats 4000000
structure FnOk (f : FuncD) (R P : Nat) : Prop where
  regs : f.regs = (R : Int)
  par : f.params = (P : Int)
  hPR : P ≤ R
  h0n : 0 < f.blocks.length
  hn : f.blocks.length ≤ 2000
  hR : R ≤ 300
  hnx : ∀ i k, i < f.blocks.length → k ∈ nxF f i → 0 ≤ k ∧ k < f.blocks.length
  hslim : ∀ b ∈ f.blocks, ∀ x ∈ b.ins, x.args.length ≤ 4000
  hil : ∀ b ∈ f.blocks, b.ins.length ≤ 2000
  hdst : ∀ b ∈ f.blocks, ∀ x ∈ b.ins, (-1 ≤ x.dst ∧ x.dst < (R : Int)) ∧ ∀ a ∈ readsD x, -1 ≤ a.reg ∧ a.reg < (R : Int)
  htr : ∀ b ∈ f.blocks, ∀ a ∈ readsT b.term, -1 ≤ a.reg ∧ a.reg < (R : Int)
  hcp : ∀ b ∈ f.blocks, ∀ x ∈ b.ins, x.op = 2 → 0 ≤ x.dst
theorem argsB_all {regs : Int} {l : List ArgD} (h : argsB regs l = true) : ∀ a ∈ l, -1 ≤ a.reg ∧ a.reg < regs := fun a ha => by
  unfold argsB at h
  have := List.all_eq_true.1 h a ha
  simp only [Bool.not_eq_true', Bool.or_eq_false_iff, decide_eq_false_iff_not] at this
  omega
theorem FnOk.of {p : ProgD} {f : FuncD} (h1 : FuncOk p f) (h2 : FuncL f) : ∃ R P : Nat, FnOk f R P := by
  obtain ⟨⟨a1, a2, a3, a4, a5⟩, a6⟩ := h1
  obtain ⟨b1, b2, b3, b4, b5⟩ := h2
  have hR : f.regs = ((f.regs.toNat : Nat) : Int) := by omega
  refine ⟨f.regs.toNat, f.params.toNat, hR, by omega, by omega, Nat.pos_of_ne_zero a5, b3, by omega, fun i k hi hk => ?_, fun b hb x hx => ((b5 b hb).2 x hx).1, fun b hb => (b5 b hb).1, fun b hb x hx => ?_, fun b hb a ha => ?_, fun b hb x hx h => ?_⟩
  · rw [nxF_of (List.getElem?_eq_getElem hi)] at hk
    exact (a6 _ (List.getElem_mem hi)).2.2.2.2.2 k hk
  · have := (a6 b hb).1 x hx
    rw [← hR]
    exact ⟨⟨this.2.2.2.1, this.2.2.2.2.1⟩, argsB_all this.2.2.1⟩
  · have := (a6 b hb).2.2.2.1
    rw [← hR]
    exact argsB_all this a ha
  · have := (a6 b hb).1 x hx
    exact this.2.2.2.2.2.2.1 (by omega)
theorem of_fn (W0 w : World) (h0 : Below W0.heap.size W0 w) (gf : Nat) (f : FuncD) (R P : Nat) (hF : FnOk f R P) (vb : Value) (c5 : w.cell? ⟨gf, 5, none⟩ = some vb) (c3 : w.cell? ⟨gf, 3, none⟩ = some (.int .i64 (R : Nat))) (c1 : w.cell? ⟨gf, 1, none⟩ = some (.int .i64 (P : Nat))) (hb : SlR W0 9 (BlockR W0) vb f.blocks) :
    Calls Tryd.prog 27 #[.pointer (some ⟨gf, 0, none⟩)] w (OfR w f R P) :=
  of_any W0 w h0 gf 0 f vb (by rw [Nat.zero_add]; exact c5) R P (by rw [Nat.zero_add]; exact c3) (by rw [Nat.zero_add]; exact c1) hF.hPR hb hF.h0n (by have := hF.hn; omega) (by have := hF.hR; omega) hF.hnx (fun b hb x hx => by have := hF.hslim b hb x hx; omega) (fun b hb => by have := hF.hil b hb; omega) hF.hdst hF.htr
theorem OwnI.set {w : World} {base g n cap j : Nat} {l : List Int} (h : OwnI w base (.slice (some ⟨g, 0, none⟩) n cap) l) (hn : n = l.length) (x : Int) : OwnI (w.setCell ⟨g, j, none⟩ (.int .i64 x)) base (.slice (some ⟨g, 0, none⟩) n cap) (l.set j x) ∧ w.grownBy (w.setCell ⟨g, j, none⟩ (.int .i64 x)) (some g) := by
  subst hn
  obtain ⟨k1, hg⟩ := World.ownsRow.stored h j (.int .i64 x)
  refine ⟨?_, hg⟩
  unfold OwnI
  rw [List.length_set, show iv (l.set j x) = (iv l).set j (.int .i64 x) by simp [iv, List.map_set]]
  exact k1
/-- the graph, and numbers of one's own that are counted beside it -/
structure US (w wr : World) (Bf L0 L1 gb R : Nat) (av cv mv uv : Value) (vs : List Value) (E : Nat → Nat → Bool) (M : Nat → Bool) (us : List Int) (cp : List (Int × Int)) (ub : Nat) (U : List Int) (c : Int) : Prop where
  g : GrR wr Bf L0 L1 gb R av cv mv uv vs E M us cp
  o : OwnI wr ub (.slice (some ⟨ub, 0, none⟩) R R) U
  l0 : L0 ≤ ub
  lw : w.heap.size ≤ ub
  bel : Below w.heap.size w wr
  ub_ : Ub U c
  len : U.length = R
section
variable {w wr w2 : World} {Bf L0 L1 gb R : Nat} {av cv mv uv : Value} {vs : List Value} {E : Nat → Nat → Bool} {M : Nat → Bool} {us : List Int} {cp : List (Int × Int)} {ub : Nat} {U U' : List Int} {c c' : Int}
theorem US.congr (h : US w wr Bf L0 L1 gb R av cv mv uv vs E M us cp ub U c) (hU : U = U') (hc : c ≤ c') : US w wr Bf L0 L1 gb R av cv mv uv vs E M us cp ub U' c' := by subst hU; exact { h with ub_ := h.ub_.mono hc }
theorem US.more (h : US w wr Bf L0 L1 gb R av cv mv uv vs E M us cp ub U c) (hb : Below wr.heap.size wr w2) : US w w2 Bf L0 L1 gb R av cv mv uv vs E M us cp ub U c :=
  ⟨h.g.more hb, own_below h.o hb, h.l0, h.lw, h.bel.trans (hb.mono h.bel.size), h.ub_, h.len⟩
theorem US.at_ (h : US w wr Bf L0 L1 gb R av cv mv uv vs E M us cp ub U c) {r : Nat} {x : Int} (hx : U[r]? = some x) : wr.cell? ⟨ub, r, none⟩ = some (.int .i64 x) ∧ wr.frozen? ⟨ub, r, none⟩ = false ∧ ub < wr.heap.size := by
  have hj := (List.getElem?_eq_some_iff.1 hx).1
  have hc := OwnI.cell h.o hj x hx
  have ho := h.o
  unfold OwnI at ho
  rw [h.len] at ho
  exact ⟨hc, ho.frozenAt r, (ho.lt ub rfl).2⟩
theorem US.put (h : US w wr Bf L0 L1 gb R av cv mv uv vs E M us cp ub U c) {r : Nat} {x : Int} (hx : U[r]? = some x) (hc : 0 ≤ c) :
    US w (wr.setCell ⟨ub, r, none⟩ (.int .i64 (x + 1))) Bf L0 L1 gb R av cv mv uv vs E M us cp ub (addU U r) (c + 1) ∧ wr.grownBy (wr.setCell ⟨ub, r, none⟩ (.int .i64 (x + 1))) (some ub) := by
  obtain ⟨k1, k2⟩ := OwnI.set (j := r) h.o h.len.symm (x + 1)
  refine ⟨⟨h.g.kept k2 (fun k hk => by cases hk; exact h.l0) (own_ne h.g.ci h.o (by decide)), ?_, h.l0, h.lw, below_of_grown h.bel (Nat.le_refl _) k2 (fun k hk => by cases hk; exact h.lw), h.ub_.add r hc, by rw [addU_length, h.len]⟩, k2⟩
  rw [addU_some hx]
  exact k1
/-- what is not of numbers stays -/
theorem US.box (h : US w wr Bf L0 L1 gb R av cv mv uv vs E M us cp ub U c) {k : Nat} {cs : Array Value} {T : TypeId} {fr : Nat × Nat} (hk : wr.heap[k]? = some (.cells cs T fr)) (hT : 3 ≠ T) (hg : wr.grownBy w2 (some ub)) : w2.heap[k]? = some (.cells cs T fr) :=
  blk_kept hk hg (own_blk h.o hk hT)
end
end Go.Proofs.YtbogcompeefoaaaDoor
namespace Go.Proofs.YtbogcompeefoaaaDoor
open Go.RowKit
set_option linter.unusedVariables false
set_option maxHeartbeats 4000000
theorem own_at {w : World} {b : Nat} {v : Value} {l : List Int} (h : OwnI w b v l) (hl : 0 < l.length) : ∃ g cap, v = .slice (some ⟨g, 0, none⟩) l.length cap := by
  obtain ⟨g, cap, e, _⟩ := own_form h hl
  exact ⟨g, cap, e⟩
set_option maxRecDepth 100000 in
theorem pick_any (w : World) (base R : Nat) (lv : Value) (S : Nat → Bool) (hs : SetB w base lv R S) (hR : R ≤ 1000000) (b1 b2 : Nat) (dv uv : Value) (ds us : List Int) (hd : OwnI w b1 dv ds) (hdl : ds.length = R) (hu : OwnI w b2 uv us) (hul : us.length = R) (k : Int) (hx : ∃ i, i < R ∧ S i = true) :
    Calls Tryd.prog 58 #[lv, dv, uv, .int .i64 k] w fun e w' => ∃ r : Nat, r < R ∧ S r = true ∧ e = .returned (.int .i64 (r : Nat)) ∧ Below w.heap.size w w' := by
  have hR0 : 0 < R := by obtain ⟨i, h, _⟩ := hx; omega
  obtain ⟨gd, cd, hdv⟩ := own_at hd (by omega)
  obtain ⟨gu, cu, huv⟩ := own_at hu (by omega)
  rw [hdl] at hdv
  rw [hul] at huv
  subst hdv huv
  have HS := Lib.hid hs
  have HD := Lib.hid hd
  have HU := Lib.hid hu
  have HL := Lib.hid (And.intro hdl hul)
  have HX := Lib.hid hx
  clear hs hd hu hdl hul hx
  go_enter Tryd.func58, Tryd.ntmps58
  go_wp2_with fail
  go_loopw [13, 9] (fun i b wr => ∃ (j : Nat) (bi : Int), j ≤ R ∧ i = .int .i64 j ∧ b = .int .i64 bi ∧ ((bi = -1 ∧ ∀ i, i < j → S i = false) ∨ ∃ bn : Nat, bi = bn ∧ bn < R ∧ S bn = true) ∧ Below w.heap.size w wr) (fun i _ _ => R - (intOf i).toNat)
  case atStart => exact ⟨0, -1, by omega, rfl, rfl, Or.inl ⟨rfl, fun i hi => by omega⟩, Below.refl _ _⟩
  case round =>
    obtain ⟨j, bi, hj, rfl, rfl, hb, hw⟩ := hrel
    have HB := Lib.hid hb
    have HW := Lib.hid hw
    clear hb hw
    by_cases hlt : j < R
    · have HH := Lib.hid (has_b wr j (HS.out.more HW.out) hR hlt)
      obtain ⟨dj, hdj⟩ : ∃ z, ds[j]? = some z := ⟨_, List.getElem?_eq_getElem (by rw [HL.out.1]; exact hlt)⟩
      obtain ⟨uj, huj⟩ : ∃ z, us[j]? = some z := ⟨_, List.getElem?_eq_getElem (by rw [HL.out.2]; exact hlt)⟩
      have kd := later (OwnI.cell HD.out (by rw [HL.out.1]; exact hlt) dj hdj) HW.out
      have ku := later (OwnI.cell HU.out (by rw [HL.out.2]; exact hlt) uj huj) HW.out
      have ld := World.block_lt_of_cell? _ _ kd
      have lu := World.block_lt_of_cell? _ _ ku
      obtain ⟨sj, hsj⟩ : ∃ z, z = S j := ⟨_, rfl⟩
      have HH2 := HH.out
      rw [← hsj] at HH2
      have HH := Lib.hid HH2
      have HSJ := Lib.hid hsj
      clear HH2 hsj hdj huj
      cases sj
      · go_wp2_with fail
        refine HH.out.mono ?_
        rintro e w7 ⟨rfl, rfl⟩
        go_wp2_with fail
        go_roundw
        case rel => exact ⟨j + 1, bi, by omega, by go_num, rfl, (by
          rcases HB.out with ⟨h1, h2⟩ | h
          · exact Or.inl ⟨h1, fun i hi => by
              by_cases e : i = j
              · rw [e]; exact HSJ.out.symm
              · exact h2 i (by omega)⟩
          · exact Or.inr h), HW.out⟩
        case measure => first | omega | (simp [intOf]; done) | (simp [intOf]; omega)
      · by_cases hdk : dj < k
        · have d1 : decide (dj < k) = true := decide_eq_true hdk
          clear hdk
          go_wp2_with fail
          refine HH.out.mono ?_
          rintro e w7 ⟨rfl, rfl⟩
          go_wp2_with fail
          go_returns
          exact ⟨j, hlt, HSJ.out.symm, rfl, HW.out⟩
        · have d1 : decide (dj < k) = false := decide_eq_false hdk
          have HDone := Lib.hid (show ((j : Nat) : Int) = -1 ∧ (∀ i, i < j + 1 → S i = false) ∨ ∃ bn : Nat, ((j : Nat) : Int) = bn ∧ bn < R ∧ S bn = true from Or.inr ⟨j, rfl, hlt, HSJ.out.symm⟩)
          clear hdk
          by_cases hneg : bi < 0
          · have d2 : decide (bi < 0) = true := decide_eq_true hneg
            clear hneg
            go_wp2_with fail
            refine HH.out.mono ?_
            rintro e w7 ⟨rfl, rfl⟩
            go_wp2_with fail
            go_quiet (fail)
            go_wp2_with fail
            go_roundw
            case rel => exact ⟨j + 1, j, by omega, by go_num, rfl, HDone.out, below_drewN HW.out _⟩
            case measure => first | omega | (simp [intOf]; done) | (simp [intOf]; omega)
          · have hbn : ∃ bn : Nat, bi = bn ∧ bn < R ∧ S bn = true := by
              rcases HB.out with ⟨h1, _⟩ | h
              · omega
              · exact h
            obtain ⟨bn, rfl, hbR, hbS⟩ := hbn
            have d2 : decide ((bn : Int) < 0) = false := decide_eq_false hneg
            obtain ⟨db, hdb⟩ : ∃ z, ds[bn]? = some z := ⟨_, List.getElem?_eq_getElem (by rw [HL.out.1]; exact hbR)⟩
            obtain ⟨ub, hub⟩ : ∃ z, us[bn]? = some z := ⟨_, List.getElem?_eq_getElem (by rw [HL.out.2]; exact hbR)⟩
            have kd2 := later (OwnI.cell HD.out (by rw [HL.out.1]; exact hbR) db hdb) HW.out
            have ku2 := later (OwnI.cell HU.out (by rw [HL.out.2]; exact hbR) ub hub) HW.out
            have HBn := Lib.hid (And.intro hbR hbS)
            clear hneg hdb hub hbS
            go_wp2_with fail
            refine HH.out.mono ?_
            rintro e w7 ⟨rfl, rfl⟩
            go_wp2_with fail
            go_quiet (fail)
            go_wp2_with fail
            all_goals go_roundw
            all_goals first
              | exact ⟨j + 1, j, by omega, by go_num, rfl, HDone.out, below_drewN HW.out _⟩
              | exact ⟨j + 1, bn, by omega, by go_num, rfl, Or.inr ⟨bn, rfl, HBn.out.1, HBn.out.2⟩, below_drewN HW.out _⟩
              | (simp [intOf]; omega)
    · have e : R = j := by omega
      subst e
      have hbn : ∃ bn : Nat, bi = bn ∧ bn < R ∧ S bn = true := by
        rcases HB.out with ⟨h1, h2⟩ | h
        · obtain ⟨i, h3, h4⟩ := HX.out
          rw [h2 i h3] at h4; cases h4
        · exact h
      obtain ⟨bn, rfl, hbR, hbS⟩ := hbn
      have HBn := Lib.hid (And.intro hbR hbS)
      clear hbS
      go_wp2_with fail
      go_returns
      exact ⟨bn, HBn.out.1, HBn.out.2, rfl, HW.out⟩
end Go.Proofs.YtbogcompeefoaaaDoor
namespace Go.Proofs.YtbogcompeefoaaaDoor
open Go.RowKit
set_option linter.unusedVariables false
set_option maxHeartbeats 4000000
theorem insEk_self (k : Nat) (S : Nat → Bool) (x : InsD) (E : Nat → Nat → Bool) (a : Nat) (h : E a a = false) : insEk k S x E a a = false := by
  unfold insEk evB
  rw [h]
  by_cases e : x.dst = (a : Int)
  · rw [decide_eq_true e]; simp
  · rw [decide_eq_false e]; simp
theorem bsE_self (R : Nat) (S : Nat → Bool) (E : Nat → Nat → Bool) (a : Nat) (h : E a a = false) : ∀ xs, bsE R S E xs a a = false
  | [] => h
  | x :: xs => insEk_self R _ x _ a (bsE_self R S E a h xs)
theorem blE_self (R : Nat) (blk : Nat → BlockD) (O : Nat → Nat → Bool) (a : Nat) : ∀ i, blE R blk O i a a = false
  | 0 => rfl
  | i + 1 => bsE_self R _ _ a (blE_self R blk O a i) _
theorem cnt_congr {p q : Nat → Bool} : ∀ n, (∀ i, i < n → p i = q i) → cnt p n = cnt q n
  | 0, _ => rfl
  | n + 1, h => by unfold cnt; rw [cnt_congr n (fun i hi => h i (by omega)), h n (by omega)]
theorem cnt_no {p : Nat → Bool} {n : Nat} (h : p n = false) : cnt p (n + 1) = cnt p n := by show cnt p n + _ = _; rw [h]; rfl
theorem cnt_yes {p : Nat → Bool} {n : Nat} (h : p n = true) : cnt p (n + 1) = cnt p n + 1 := by show cnt p n + _ = _; rw [h]; rfl
def degB (E : Nat → Nat → Bool) (T : Nat → Bool) (r k : Nat) : Bool := !decide (k = r) && T k && E r k
section
variable {w : World} {B L0 L1 gb R : Nat} {av cv mv uv : Value} {vs : List Value} {E : Nat → Nat → Bool} {M : Nat → Bool} {us : List Int} {cp : List (Int × Int)}
set_option maxRecDepth 100000 in
theorem degree_any (h : GrR w B L0 L1 gb R av cv mv uv vs E M us cp) (hR : R ≤ 1000000) (r : Nat) (hr : r < R) (base : Nat) (tv : Value) (T : Nat → Bool) (ht : SetB w base tv R T) :
    Calls Tryd.prog 57 #[.pointer (some ⟨gb, 0, none⟩), .int .i64 (r : Nat), tv] w fun e w' => e = .returned (.int .i64 (cnt (degB E T r) R : Nat)) ∧ w = w' := by
  have H := Lib.hid h
  have HT := Lib.hid ht
  obtain ⟨g, cap, rfl⟩ := h.formA (by omega)
  obtain ⟨va, e1, e2⟩ := h.at_ hr
  have HE := Lib.hid e2
  have c0 : w.cell? ⟨gb, 0, none⟩ = some (.slice (some ⟨g, 0, none⟩) R cap) := blk_cell h.blk rfl
  have c1 := h.cellA hr e1
  have l0 := blk_lt h.blk
  have l1 := World.block_lt_of_cell? _ _ c1
  clear h ht e1 e2
  go_enter Tryd.func57, Tryd.ntmps57
  go_wp2_with fail
  go_loop [14, 7] (fun i n => ∃ k : Nat, k ≤ R ∧ i = .int .i64 k ∧ n = .int .i64 (cnt (degB E T r) k : Nat)) (fun i _ => R - (intOf i).toNat)
  case atStart => exact ⟨0, by omega, rfl, rfl⟩
  case round =>
    obtain ⟨k, hk, rfl, rfl⟩ := hrel
    have hck := cnt_le (degB E T r) k
    by_cases hlt : k < R
    · have HA := Lib.hid (has_b w k HT.out hR hlt)
      have HB := Lib.hid (has_b w k HE.out hR hlt)
      obtain ⟨c, hc⟩ : ∃ z, z = cnt (degB E T r) k := ⟨_, rfl⟩
      rw [← hc] at hck ⊢
      have HC := Lib.hid hc
      clear hc
      by_cases hkr : k = r
      · have b1 : ((k : Int) != (r : Int)) = false := by simp [hkr]
        have HN := Lib.hid (cnt_no (p := degB E T r) (n := k) (by unfold degB; rw [decide_eq_true hkr]; rfl))
        clear hkr
        go_wp2_with fail
        go_round
        case rel => exact ⟨k + 1, by omega, by go_num, by rw [HN.out, HC.out]⟩
        case measure => first | omega | (simp [intOf]; done) | (simp [intOf]; omega)
      · have b1 : ((k : Int) != (r : Int)) = true := by simp; omega
        obtain ⟨tk, htk⟩ : ∃ z, z = T k := ⟨_, rfl⟩
        obtain ⟨ek, hek⟩ : ∃ z, z = E r k := ⟨_, rfl⟩
        have HN := Lib.hid (fun (h : (tk && ek) = false) => cnt_no (p := degB E T r) (n := k) (by unfold degB; rw [← htk, ← hek, Bool.and_assoc, h]; simp))
        have HY := Lib.hid (fun (h : (tk && ek) = true) => cnt_yes (p := degB E T r) (n := k) (by unfold degB; rw [← htk, ← hek, Bool.and_assoc, h, decide_eq_false hkr]; rfl))
        rw [← htk] at HA
        rw [← hek] at HB
        clear hkr htk hek
        cases tk
        · go_wp2_with fail
          refine HA.out.mono ?_
          rintro e w7 ⟨rfl, rfl⟩
          go_wp2_with fail
          go_round
          case rel => exact ⟨k + 1, by omega, by go_num, by rw [HN.out rfl, HC.out]⟩
          case measure => first | omega | (simp [intOf]; done) | (simp [intOf]; omega)
        · cases ek
          · go_wp2_with fail
            refine HA.out.mono ?_
            rintro e w7 ⟨rfl, rfl⟩
            go_wp2_with fail
            refine HB.out.mono ?_
            rintro e w7 ⟨rfl, rfl⟩
            go_wp2_with fail
            go_round
            case rel => exact ⟨k + 1, by omega, by go_num, by rw [HN.out rfl, HC.out]⟩
            case measure => first | omega | (simp [intOf]; done) | (simp [intOf]; omega)
          · go_wp2_with fail
            refine HA.out.mono ?_
            rintro e w7 ⟨rfl, rfl⟩
            go_wp2_with fail
            refine HB.out.mono ?_
            rintro e w7 ⟨rfl, rfl⟩
            go_wp2_with fail
            go_round
            case rel => exact ⟨k + 1, by omega, by go_num, by rw [HY.out rfl, ← HC.out]; simp⟩
            case measure => first | omega | (simp [intOf]; done) | (simp [intOf]; omega)
    · have e : R = k := by omega
      subst e
      go_wp2_with fail
      go_returns
      exact ⟨rfl, rfl⟩
end
end Go.Proofs.YtbogcompeefoaaaDoor
namespace Go.Proofs.YtbogcompeefoaaaDoor
open Go.RowKit
set_option linter.unusedVariables false
theorem insEk_sym (R : Nat) (S : Nat → Bool) (x : InsD) (E : Nat → Nat → Bool) (a b : Nat) (h : E a b = E b a) : insEk R S x E a b = insEk R S x E b a := by
  unfold insEk
  rw [h, Bool.or_assoc, Bool.or_assoc, Bool.or_comm (decide (x.dst = (a : Int)) && decide (b < R) && evB S x b)]
theorem bsE_sym (R : Nat) (S : Nat → Bool) (E : Nat → Nat → Bool) (a b : Nat) (h : E a b = E b a) : ∀ xs, bsE R S E xs a b = bsE R S E xs b a
  | [] => h
  | x :: xs => insEk_sym R _ x _ a b (bsE_sym R S E a b h xs)
theorem blE_sym (R : Nat) (blk : Nat → BlockD) (O : Nat → Nat → Bool) (a b : Nat) : ∀ i, blE R blk O i a b = blE R blk O i b a
  | 0 => rfl
  | i + 1 => bsE_sym R _ _ a b (blE_sym R blk O a b i) _
theorem parE_sym (I : Nat → Bool) (E : Nat → Nat → Bool) (P a b : Nat) (h : E a b = E b a) : parE I E P 0 a b = parE I E P 0 b a := by
  unfold parE
  rw [h]
  by_cases e : a = b
  · rw [e]
  · have e2 : ¬ b = a := fun h => e h.symm
    simp only [Nat.not_lt_zero, decide_false, Bool.and_false, Bool.or_false, e, e2, Bool.not_false, Bool.and_true]
    rw [Bool.or_comm (I a), Bool.and_comm (decide (a < P))]
theorem parE_self (I : Nat → Bool) (E : Nat → Nat → Bool) (P a : Nat) (h : E a a = false) : parE I E P 0 a a = false := by unfold parE; rw [h]; simp
def CpIn (R : Nat) (c : Int × Int) : Prop := (0 ≤ c.1 ∧ c.1 < (R : Int)) ∧ 0 ≤ c.2 ∧ c.2 < (R : Int)
theorem bsC_in {R : Nat} {cp : List (Int × Int)} (h : ∀ c ∈ cp, CpIn R c) : ∀ xs, (∀ x ∈ xs, (-1 ≤ x.dst ∧ x.dst < (R : Int)) ∧ ∀ a ∈ readsD x, -1 ≤ a.reg ∧ a.reg < (R : Int)) → ∀ c ∈ bsC cp xs, CpIn R c
  | [], _ => h
  | x :: xs, hx => by
    have ih := bsC_in h xs (fun y hy => hx y (List.mem_cons_of_mem _ hy))
    intro c hc
    have hc2 : c ∈ insC (bsC cp xs) x := hc
    unfold insC at hc2
    split at hc2
    · rename_i hcp
      rcases List.mem_append.1 hc2 with h1 | h1
      · exact ih c h1
      · rw [List.mem_singleton.1 h1]
        unfold isCp at hcp
        simp only [Bool.and_eq_true, decide_eq_true_eq] at hcp
        have h2 := hx x (by simp)
        have h3 := h2.2 x.a (by unfold readsD; rw [if_neg (by omega), if_neg (by omega), if_neg (by omega), if_neg (by omega)]; simp)
        exact ⟨⟨hcp.1.1.1, h2.1.2⟩, hcp.1.2, h3.2⟩
    · exact ih c hc2
theorem blC_in {R : Nat} {blk : Nat → BlockD} : ∀ n, (∀ i, i < n → ∀ x ∈ (blk i).ins, (-1 ≤ x.dst ∧ x.dst < (R : Int)) ∧ ∀ a ∈ readsD x, -1 ≤ a.reg ∧ a.reg < (R : Int)) → ∀ c ∈ blC blk n, CpIn R c
  | 0, _ => fun c hc => by cases hc
  | n + 1, h => bsC_in (blC_in n (fun i hi => h i (by omega))) _ (h n (by omega))
theorem blC_le (blk : Nat → BlockD) (K : Nat) : ∀ n, (∀ i, i < n → (blk i).ins.length ≤ K) → (blC blk n).length ≤ n * K
  | 0, _ => by simp [blC]
  | n + 1, h => by
    have h1 := bsC_len (blC blk n) (blk n).ins
    have h2 := blC_le blk K n (fun i hi => h i (by omega))
    have h3 := h n (by omega)
    rw [Nat.succ_mul]
    show (bsC (blC blk n) (blk n).ins).length ≤ _
    omega
theorem FnOk.cps {f : FuncD} {R P : Nat} (h : FnOk f R P) : (∀ c ∈ blC (blkF f) f.blocks.length, CpIn R c) ∧ (blC (blkF f) f.blocks.length).length ≤ 1000000000 := by
  have hb : ∀ i (hi : i < f.blocks.length), blkF f i = f.blocks[i] := fun i hi => blkF_of (List.getElem?_eq_getElem hi)
  refine ⟨blC_in _ (fun i hi x hx => ?_), ?_⟩
  · rw [hb i hi] at hx
    exact h.hdst _ (List.getElem_mem hi) x hx
  · have h1 := blC_le (blkF f) 2000 f.blocks.length (fun i hi => by rw [hb i hi]; exact h.hil _ (List.getElem_mem hi))
    have h2 := h.hn
    omega
end Go.Proofs.YtbogcompeefoaaaDoor
