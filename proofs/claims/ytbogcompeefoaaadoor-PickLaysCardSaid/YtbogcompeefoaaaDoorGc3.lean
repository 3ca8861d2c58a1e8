/- Walks: graph's Colour. No condition. -/
import Derived.Test.YtbogcompeefoaaaDoorGc2
import Derived.Test.YtbogcompeefoaaaDoorQi
namespace Go.Proofs.YtbogcompeefoaaaDoor
open Go.RowKit
set_option linter.unusedVariables false
set_option maxHeartbeats 4000000
theorem cnt_pos {p : Nat → Bool} : ∀ n, 0 < cnt p n → ∃ i, i < n ∧ p i = true
  | 0, h => by simp [cnt] at h
  | n + 1, h => by
    by_cases e : p n = true
    · exact ⟨n, by omega, e⟩
    · rw [cnt_no (by simpa using e)] at h
      obtain ⟨i, h1, h2⟩ := cnt_pos n h
      exact ⟨i, by omega, h2⟩
theorem cnt_del {p : Nat → Bool} {r : Nat} : ∀ n, r < n → p r = true → cnt (fun i => p i && !decide ((r : Int) = (i : Int))) n + 1 = cnt p n
  | 0, h, _ => by omega
  | n + 1, h, hp => by
    by_cases e : r = n
    · subst e
      rw [cnt_yes hp, cnt_no (by simp)]
      rw [cnt_congr r (q := p) (fun i hi => by rw [decide_eq_false (by omega)]; simp)]
    · have ih := cnt_del (p := p) n (by omega) hp
      cases e2 : p n
      · rw [cnt_no e2, cnt_no (by simp [e2])]; exact ih
      · rw [cnt_yes e2, cnt_yes (by simp [e2]; omega)]; omega
def candB (M : Nat → Bool) (us : List Int) (i : Nat) : Bool := !M i && decide (0 < us.getD i 0)
/-- places that may be -/
structure Fits (E : Nat → Nat → Bool) (cand : Nat → Bool) (R k : Nat) (pl : List Int) : Prop where
  len : pl.length = R
  rng : ∀ (i : Nat) (x : Int), pl[i]? = some x → x = -1 ∨ (0 ≤ x ∧ x < (k : Int) ∧ cand i = true)
  unl : ∀ (a b : Nat) (x : Int), a ≠ b → pl[a]? = some x → pl[b]? = some x → 0 ≤ x → E a b = false
theorem Fits.cho {E : Nat → Nat → Bool} {cand : Nat → Bool} {R k r : Nat} {pl pl' : List Int} (h : Fits E cand R k pl) (hr : r < R) (hc : cand r = true) (hs : ∀ a b, a < R → b < R → E a b = E b a) (hch : ChoR pl E R r k pl') : Fits E cand R k pl' := by
  rcases hch with ⟨rfl, _⟩ | ⟨p, h1, rfl, h2⟩
  · exact h
  · have hlen := h.len
    have at_ : ∀ (i : Nat) (x : Int), (pl.set r (p : Int))[i]? = some x → (i = r ∧ x = (p : Int)) ∨ (i ≠ r ∧ pl[i]? = some x) := fun i x hi => by
      by_cases e : i = r
      · subst e
        rw [List.getElem?_set_self (by omega)] at hi
        simp only [Option.some.injEq] at hi
        exact Or.inl ⟨rfl, hi.symm⟩
      · rw [List.getElem?_set_ne (Ne.symm e)] at hi
        exact Or.inr ⟨e, hi⟩
    refine ⟨by simp [hlen], fun i x hi => ?_, fun a b x hab ha hb hx => ?_⟩
    · rcases at_ i x hi with ⟨rfl, rfl⟩ | ⟨_, hi⟩
      · exact Or.inr ⟨by omega, by omega, hc⟩
      · exact h.rng i x hi
    · rcases at_ a x ha with ⟨rfl, rfl⟩ | ⟨ea, ha'⟩
      · rcases at_ b _ hb with ⟨rfl, _⟩ | ⟨_, hb'⟩
        · exact absurd rfl hab
        · exact h2 b (by have := (List.getElem?_eq_some_iff.1 hb').1; omega) hb'
      · have haR : a < R := by have := (List.getElem?_eq_some_iff.1 ha').1; omega
        rcases at_ b x hb with ⟨rfl, rfl⟩ | ⟨_, hb'⟩
        · rw [hs a b haR hr]
          exact h2 a haR ha'
        · exact h.unl a b x hab ha' hb' hx
/-- these have a place, or stand beside another one -/
def Tried (E : Nat → Nat → Bool) (R k : Nat) (pl : List Int) (l : List Nat) : Prop := ∀ i ∈ l, pl[i]? = some (-1) → 0 < k → ∃ o, o < R ∧ E i o = true
theorem Tried.cho {E : Nat → Nat → Bool} {R k r : Nat} {pl pl' : List Int} {l : List Nat} (h : Tried E R k pl l) (hl : pl.length = R) (hr : r < R) (hch : ChoR pl E R r k pl') : Tried E R k pl' (r :: l) := by
  rcases hch with ⟨rfl, hx⟩ | ⟨p, h1, rfl, h2⟩
  · intro i hi hm hk
    rcases List.mem_cons.1 hi with rfl | hi
    · exact hx hk
    · exact h i hi hm hk
  · intro i hi hm hk
    by_cases e : i = r
    · subst e
      rw [List.getElem?_set_self (by omega)] at hm
      simp only [Option.some.injEq] at hm
      omega
    · rw [List.getElem?_set_ne (Ne.symm e)] at hm
      rcases List.mem_cons.1 hi with rfl | hi
      · exact absurd rfl e
      · exact h i hi hm hk
structure CS (w wr : World) (B L0 L1 gb R gp bs : Nat) (av cv mv uv lv : Value) (vs : List Value) (E : Nat → Nat → Bool) (M : Nat → Bool) (us : List Int) (cp : List (Int × Int)) (S : Nat → Bool) (pl : List Int) : Prop where
  g : GrR wr B L0 L1 gb R av cv mv uv vs E M us cp
  p : OwnI wr w.heap.size (.slice (some ⟨gp, 0, none⟩) R R) pl
  pn : pl.length = R
  s : SetB wr bs lv R S
  bel : Below w.heap.size w wr
  l1 : L1 ≤ w.heap.size
  bw : w.heap.size ≤ bs
  gw : gp = w.heap.size
section
variable {w wr w2 : World} {B L0 L1 gb R gp bs : Nat} {av cv mv uv lv : Value} {vs : List Value} {E : Nat → Nat → Bool} {M : Nat → Bool} {us : List Int} {cp : List (Int × Int)} {S : Nat → Bool} {pl : List Int}
theorem CS.kept (h : CS w wr B L0 L1 gb R gp bs av cv mv uv lv vs E M us cp S pl) {r : Option Nat} (hg : wr.grownBy w2 r) (hr : ∀ k, r = some k → w.heap.size ≤ k) (hp : (some gp : Option Nat) ≠ r) (hl : lv.ownBlock = none ∨ lv.ownBlock ≠ r) (hc : cv.ownBlock = none ∨ cv.ownBlock ≠ r) : CS w w2 B L0 L1 gb R gp bs av cv mv uv lv vs E M us cp S pl :=
  ⟨h.g.kept hg (fun k hk => Nat.le_trans (Nat.le_trans h.g.le h.l1) (hr k hk)) hc, World.ownsRow.kept h.p hg (Or.inr hp), h.pn, h.s.kept hg hl, below_of_grown h.bel (Nat.le_refl _) hg hr, h.l1, h.bw, h.gw⟩
theorem CS.more (h : CS w wr B L0 L1 gb R gp bs av cv mv uv lv vs E M us cp S pl) (hb : Below wr.heap.size wr w2) : CS w w2 B L0 L1 gb R gp bs av cv mv uv lv vs E M us cp S pl :=
  h.kept (r := none) (grown_of_below hb) (fun k e => by cases e) (by simp) (by cases lv.ownBlock <;> simp) (by cases cv.ownBlock <;> simp)
/-- another row of numbers is written -/
theorem CS.keptI (h : CS w wr B L0 L1 gb R gp bs av cv mv uv lv vs E M us cp S pl) {v : Value} {n : Nat} {b : Nat} {xs : List Value} (ho : wr.ownsRow b 3 1 v n xs) (hb : w.heap.size < b) (hg : wr.grownBy w2 v.ownBlock) : CS w w2 B L0 L1 gb R gp bs av cv mv uv lv vs E M us cp S pl :=
  h.kept hg (fun k hk => by have := (ho.lt k hk).1; omega) (fun e => by have := (ho.lt gp e.symm).1; have := h.gw; omega) (h.s.ne_ ho (by decide)) (own_ne h.g.ci ho (by decide))
/-- the set is written -/
theorem CS.setS (h : CS w wr B L0 L1 gb R gp bs av cv mv uv lv vs E M us cp S pl) {T : Nat → Bool} (hs : SetB w2 bs lv R T) (hg : wr.grownBy w2 lv.ownBlock) : CS w w2 B L0 L1 gb R gp bs av cv mv uv lv vs E M us cp T pl :=
  ⟨h.g.kept hg (fun k hk => Nat.le_trans (Nat.le_trans h.g.le h.l1) (Nat.le_trans h.bw (h.s.lt_ hk).1)) (apart_symm (h.s.ne_ h.g.ci (by decide))), World.ownsRow.kept h.p hg (apart_symm (h.s.ne_ h.p (by decide))), h.pn, hs, below_of_grown h.bel (Nat.le_refl _) hg (fun k hk => Nat.le_trans h.bw (h.s.lt_ hk).1), h.l1, h.bw, h.gw⟩
/-- the places are written -/
theorem CS.setP (h : CS w wr B L0 L1 gb R gp bs av cv mv uv lv vs E M us cp S pl) {pl2 : List Int} (hp : OwnI w2 w.heap.size (.slice (some ⟨gp, 0, none⟩) R R) pl2) (hl : pl2.length = R) (hg : wr.grownBy w2 (some gp)) : CS w w2 B L0 L1 gb R gp bs av cv mv uv lv vs E M us cp S pl2 :=
  ⟨h.g.kept hg (fun k hk => by cases hk; rw [h.gw]; exact Nat.le_trans h.g.le h.l1) (own_ne h.g.ci h.p (by decide)), hp, hl, h.s.kept hg (h.s.ne_ h.p (by decide)), below_of_grown h.bel (Nat.le_refl _) hg (fun k hk => by cases hk; exact Nat.le_of_eq h.gw.symm), h.l1, h.bw, h.gw⟩
theorem CS.congr (h : CS w wr B L0 L1 gb R gp bs av cv mv uv lv vs E M us cp S pl) {T : Nat → Bool} (hs : ∀ r, r < R → S r = T r) : CS w wr B L0 L1 gb R gp bs av cv mv uv lv vs E M us cp T pl := { h with s := h.s.congr hs }
theorem CS.at_ (h : CS w wr B L0 L1 gb R gp bs av cv mv uv lv vs E M us cp S pl) {j : Nat} {x : Int} (hx : pl[j]? = some x) : wr.cell? ⟨gp, j, none⟩ = some (.int .i64 x) ∧ wr.frozen? ⟨gp, j, none⟩ = false ∧ gp < wr.heap.size := by
  have hj := (List.getElem?_eq_some_iff.1 hx).1
  have hc := OwnI.cell h.p hj x hx
  have ho := h.p
  unfold OwnI at ho
  rw [h.pn] at ho
  exact ⟨hc, ho.frozenAt j, (ho.lt gp rfl).2⟩
end
theorem OwnI.at_ {w : World} {b g cap n j : Nat} {l : List Int} {x : Int} (h : OwnI w b (.slice (some ⟨g, 0, none⟩) n cap) l) (hn : n = l.length) (hx : l[j]? = some x) : w.cell? ⟨g, j, none⟩ = some (.int .i64 x) ∧ w.frozen? ⟨g, j, none⟩ = false ∧ g < w.heap.size := by
  subst hn
  have hj := (List.getElem?_eq_some_iff.1 hx).1
  exact ⟨OwnI.cell h hj x hx, World.ownsRow.frozenAt h j, (World.ownsRow.lt h g rfl).2⟩
/-- what Colour answers -/
def ColR (w : World) (E : Nat → Nat → Bool) (cand : Nat → Bool) (R k : Nat) (e : Ending) (w' : World) : Prop :=
  ∃ (gp : Nat) (pl : List Int), e = .returned (.slice (some ⟨gp, 0, none⟩) R R) ∧ OwnI w' w.heap.size (.slice (some ⟨gp, 0, none⟩) R R) pl ∧ Fits E cand R k pl ∧ (∀ i, i < R → cand i = true → pl[i]? = some (-1) → 0 < k → ∃ o, o < R ∧ E i o = true) ∧ Below w.heap.size w w'
section
variable {w : World} {B L0 L1 gb R : Nat} {av cv mv uv : Value} {vs : List Value} {E : Nat → Nat → Bool} {M : Nat → Bool} {us : List Int} {cp : List (Int × Int)}
set_option maxRecDepth 100000 in
theorem colour_any (h : GrR w B L0 L1 gb R av cv mv uv vs E M us cp) (hR : R ≤ 1000000) (k : Nat) (hk : k ≤ 63) (hs : ∀ a b, a < R → b < R → E a b = E b a) (hcp : ∀ c ∈ cp, (0 ≤ c.1 ∧ c.1 < (R : Int)) ∧ 0 ≤ c.2 ∧ c.2 < (R : Int)) (hcl : cp.length ≤ 1000000000) :
    Calls Tryd.prog 28 #[.pointer (some ⟨gb, 0, none⟩), .int .i64 (k : Nat)] w (ColR w E (candB M us) R k) := by
  have H := Lib.hid h
  have HSy := Lib.hid hs
  have HCP := Lib.hid (And.intro hcp hcl)
  obtain ⟨Aa, ca, hav⟩ := h.lenA
  subst hav
  have kg0 : w.cell? ⟨gb, 0, none⟩ = some (.slice Aa R ca) := blk_cell h.blk rfl
  have lg0 := blk_lt h.blk
  obtain ⟨wm, hrm, hom, hbm⟩ := make_ints w R hR
  have HOM := Lib.hid hom
  have HBM := Lib.hid hbm
  obtain ⟨gp, hgp⟩ : ∃ z, z = w.heap.size := ⟨_, rfl⟩
  rw [← hgp] at HOM hrm
  have HGP := Lib.hid hgp
  clear h hs hcp hcl hom hbm hgp
  go_enter Tryd.func28, Tryd.ntmps28
  go_wp2_with fail
  refine (empty_b wm R hR).mono ?_
  rintro e w2 ⟨lv, rfl, hs2, hb2⟩
  have HC := Lib.hid (show CS w w2 B L0 L1 gb R gp wm.heap.size (.slice Aa R ca) cv mv uv lv vs E M us cp (fun _ => false) (List.replicate R 0) from ⟨(H.out.more HBM.out).more hb2, (by rw [← HGP.out]; exact own_below HOM.out hb2), by simp, hs2, HBM.out.bt hb2, H.out.top, HBM.out.size, HGP.out⟩)
  clear hs2 hb2 kg0 lg0 hrm HOM
  obtain ⟨bs, hbs⟩ : ∃ z, z = wm.heap.size := ⟨_, rfl⟩
  rw [← hbs] at HC
  clear hbs
  go_wp2_with fail
  go_loopw [26, 8] (fun i c wr => ∃ (j : Nat) (pl : List Int), j ≤ R ∧ i = .int .i64 j ∧ c = .int .i64 (cnt (candB M us) j : Nat) ∧ CS w wr B L0 L1 gb R gp bs (.slice Aa R ca) cv mv uv lv vs E M us cp (fun i => candB M us i && decide (i < j)) pl ∧ ∀ i, i < j → pl[i]? = some (-1)) (fun i _ _ => R - (intOf i).toNat)
  case atStart => exact ⟨0, _, by omega, rfl, rfl, HC.out.congr (fun r _ => by simp), fun i hi => by omega⟩
  case round =>
    obtain ⟨j, pl, hj, rfl, rfl, hc, hm⟩ := hrel
    have HC1 := Lib.hid hc
    have HPm := Lib.hid hm
    have hcj := cnt_le (candB M us) j
    clear hc hm HC
    by_cases hlt : j < R
    · obtain ⟨x, hx⟩ : ∃ x, pl[j]? = some x := ⟨_, List.getElem?_eq_getElem (by rw [HC1.out.pn]; exact hlt)⟩
      obtain ⟨kp, kpf, kpl⟩ := HC1.out.at_ hx
      obtain ⟨z1, z2⟩ := OwnI.set (j := j) HC1.out.p HC1.out.pn.symm (-1)
      have HC2 := Lib.hid (HC1.out.setP z1 (by simp [HC1.out.pn]) z2)
      have HPm2 := Lib.hid (show ∀ i, i < j + 1 → (pl.set j (-1))[i]? = some (-1) from fun i hi => by
        by_cases e : i = j
        · subst e; rw [List.getElem?_set_self (by rw [HC1.out.pn]; exact hlt)]
        · rw [List.getElem?_set_ne (Ne.symm e)]; exact HPm.out i (by omega))
      have hgn : gb ≠ gp := by rw [HC1.out.gw]; have := H.out.gH; have := HC1.out.l1; have := HC1.out.g.le; omega
      have kg2 : wr.cell? ⟨gb, 2, none⟩ = some mv := blk_cell HC1.out.g.blk rfl
      have kg3 : wr.cell? ⟨gb, 3, none⟩ = some uv := blk_cell HC1.out.g.blk rfl
      have lg2 := blk_lt HC1.out.g.blk
      obtain ⟨gu, cu, huv⟩ := HC1.out.g.lenU (by omega)
      obtain ⟨u, hu⟩ : ∃ u, us[j]? = some u := ⟨_, List.getElem?_eq_getElem (by rw [HC1.out.g.ul]; exact hlt)⟩
      rw [huv] at kg3
      have HGU := Lib.hid (show GrR wr B L0 L1 gb R (.slice Aa R ca) cv mv (.slice (some ⟨gu, 0, none⟩) R cu) vs E M us cp by rw [← huv]; exact HC1.out.g)
      obtain ⟨ku, _, kul⟩ := HGU.out.cellU hu
      have hun : gu ≠ gp := by rw [HC1.out.gw]; have := HGU.out.hu gu rfl; have := HC1.out.l1; have := HC1.out.g.le; omega
      have HHm := Lib.hid (has_b _ j HC2.out.g.sm hR hlt)
      have hud : us.getD j 0 = u := by rw [List.getD_eq_getElem?_getD, hu]; rfl
      obtain ⟨mj, hmj⟩ : ∃ z, z = M j := ⟨_, rfl⟩
      rw [← hmj] at HHm
      have HCN := Lib.hid (fun (h : candB M us j = false) => And.intro (cnt_no h) (show ∀ r, r < R → (candB M us r && decide (r < j)) = (candB M us r && decide (r < j + 1)) from fun r _ => by
        by_cases e : r = j
        · subst e; rw [h]; simp
        · rw [lt_succ_dec]; simp [e]))
      have HCY := Lib.hid (fun (h : candB M us j = true) => And.intro (cnt_yes h) (show ∀ r, r < R → ((candB M us r && decide (r < j)) || decide ((j : Int) = (r : Int))) = (candB M us r && decide (r < j + 1)) from fun r _ => by
        by_cases e : r = j
        · subst e; rw [h]; simp
        · rw [lt_succ_dec, decide_eq_false (show ¬ ((j : Int) = (r : Int)) by omega)]; simp [e]))
      have HCd := Lib.hid (show candB M us j = (!mj && decide (0 < u)) by unfold candB; rw [← hmj, hud])
      obtain ⟨cn, hcn⟩ : ∃ z, z = cnt (candB M us) j := ⟨_, rfl⟩
      rw [← hcn] at hcj HCN HCY ⊢
      clear hx z1 z2 huv hu hud hmj hcn
      cases mj
      · by_cases hu0 : 0 < u
        · have d0 : decide (0 < u) = true := decide_eq_true hu0
          have HY := Lib.hid (HCY.out (by rw [HCd.out, d0]; rfl))
          clear hu0
          go_wp2_with fail
          refine HHm.out.mono ?_
          rintro e w7 ⟨rfl, rfl⟩
          go_wp2_with fail
          refine (put_b _ (j : Nat) HC2.out.s hR (by omega)).mono ?_
          rintro e w8 ⟨rfl, hs8, hg8⟩
          have HC3 := Lib.hid ((HC2.out.setS hs8 hg8).congr HY.out.2)
          clear hs8 hg8 kp kpf kpl kg2 kg3 lg2 ku kul
          go_wp2_with fail
          go_roundw
          case rel => exact ⟨j + 1, _, by omega, by go_num, by rw [HY.out.1]; rfl, HC3.out, HPm2.out⟩
          case measure => first | omega | (simp [intOf]; done) | (simp [intOf]; omega)
        · have d0 : decide (0 < u) = false := decide_eq_false hu0
          have HY := Lib.hid (HCN.out (by rw [HCd.out, d0]; rfl))
          clear hu0
          go_wp2_with fail
          refine HHm.out.mono ?_
          rintro e w7 ⟨rfl, rfl⟩
          go_wp2_with fail
          go_roundw
          case rel => exact ⟨j + 1, _, by omega, by go_num, by rw [HY.out.1], HC2.out.congr HY.out.2, HPm2.out⟩
          case measure => first | omega | (simp [intOf]; done) | (simp [intOf]; omega)
      · have HY := Lib.hid (HCN.out (by rw [HCd.out]; rfl))
        go_wp2_with fail
        refine HHm.out.mono ?_
        rintro e w7 ⟨rfl, rfl⟩
        go_wp2_with fail
        go_roundw
        case rel => exact ⟨j + 1, _, by omega, by go_num, by rw [HY.out.1], HC2.out.congr HY.out.2, HPm2.out⟩
        case measure => first | omega | (simp [intOf]; done) | (simp [intOf]; omega)
    · have e : R = j := by omega
      subst e
      have HC3 := Lib.hid (HC1.out.congr (T := candB M us) (fun r hr => by rw [decide_eq_true hr, Bool.and_true]))
      have HPm3 := HPm
      clear HPm
      obtain ⟨wd, hrd, hod, hbd⟩ := make_ints wr R hR
      have HC4 := Lib.hid (HC3.out.more hbd)
      obtain ⟨gd, hgd⟩ : ∃ z, z = wr.heap.size := ⟨_, rfl⟩
      rw [← hgd] at hrd hod
      have HGD := Lib.hid (show gp < gd by rw [hgd]; exact (World.ownsRow.lt HC3.out.p gp rfl).2)
      have HOD := Lib.hid hod
      clear hod hbd hgd HC1 HC3
      go_wp2_with fail
      clear hrd
      go_loopw [58] (fun i wr => ∃ (j : Nat) (ds : List Int), j ≤ R ∧ i = .int .i64 j ∧ CS w wr B L0 L1 gb R gp bs (.slice Aa R ca) cv mv uv lv vs E M us cp (candB M us) pl ∧ OwnI wr gd (.slice (some ⟨gd, 0, none⟩) R R) ds ∧ ds.length = R ∧ ∀ x ∈ ds, 0 ≤ x ∧ x ≤ R) (fun i _ => R - (intOf i).toNat)
      case atStart => exact ⟨0, _, by omega, rfl, HC4.out, HOD.out, by simp, fun x hx => by rw [List.eq_of_mem_replicate hx]; omega⟩
      case round =>
        obtain ⟨j, ds, hj, rfl, hc, hd, hdl, hdb⟩ := hrel
        have HC5 := Lib.hid hc
        have HD5 := Lib.hid hd
        have HB5 := Lib.hid hdb
        have HL5 := Lib.hid hdl
        clear hc hd hdb hdl HC4 HOD
        by_cases hltj : j < R
        · obtain ⟨x, hx⟩ : ∃ x, ds[j]? = some x := ⟨_, List.getElem?_eq_getElem (by rw [HL5.out]; exact hltj)⟩
          obtain ⟨kd, kdf, kdl⟩ := OwnI.at_ HD5.out HL5.out.symm hx
          have HDg := Lib.hid (degree_any HC5.out.g hR j hltj bs lv _ HC5.out.s)
          have hcl := cnt_le (degB E (candB M us) j) R
          obtain ⟨dn, hdn⟩ : ∃ z, z = cnt (degB E (candB M us) j) R := ⟨_, rfl⟩
          rw [← hdn] at HDg hcl
          obtain ⟨z1, z2⟩ := OwnI.set (j := j) HD5.out HL5.out.symm (dn : Int)
          have HC6 := Lib.hid (HC5.out.keptI HD5.out (by have := HGD.out; have := HC5.out.gw; omega) z2)
          have HD6 := Lib.hid z1
          have HL6 := Lib.hid (show (ds.set j (dn : Int)).length = R by rw [List.length_set]; exact HL5.out)
          have HB6 := Lib.hid (show ∀ x ∈ ds.set j (dn : Int), 0 ≤ x ∧ x ≤ R from fun x hx => by
            rcases List.mem_or_eq_of_mem_set hx with h1 | h1
            · exact HB5.out x h1
            · omega)
          clear hx hdn z1 z2
          go_wp2_with fail
          refine HDg.out.mono ?_
          rintro e w7 ⟨rfl, rfl⟩
          go_wp2_with fail
          go_roundw
          case rel => exact ⟨j + 1, _, by omega, by go_num, HC6.out, HD6.out, HL6.out, HB6.out⟩
          case measure => first | omega | (simp [intOf]; done) | (simp [intOf]; omega)
        · have e : R = j := by omega
          subst e
          have HB7 := Lib.hid (show ∀ x ∈ ds, -((R - cnt (candB M us) R : Nat) : Int) ≤ x ∧ x ≤ R from fun x hx => by have := HB5.out x hx; omega)
          have hcR := cnt_le (candB M us) R
          have HST := Lib.hid (show OwnI wr (gd + 1) (.slice none 0 0) (([] : List Nat).map fun n : Nat => (n : Int)) from World.ownsRow_nil _ _ _ _)
          have HCov := Lib.hid (show ∀ i, i < R → candB M us i = true → candB M us i = true ∨ i ∈ ([] : List Nat) from fun i _ h => Or.inl h)
          have hgdl := (World.ownsRow.lt HD5.out gd rfl).2
          have HGL := Lib.hid hgdl
          clear hgdl
          go_wp2_with fail
          go_loopw [8, 12] (fun c st wr => ∃ (S : Nat → Bool) (stk : List Nat) (ds : List Int) (As : Option Addr) (cs : Nat), st = .slice As stk.length cs ∧ c = .int .i64 (cnt S R : Nat) ∧ CS w wr B L0 L1 gb R gp bs (.slice Aa R ca) cv mv uv lv vs E M us cp S pl ∧ OwnI wr gd (.slice (some ⟨gd, 0, none⟩) R R) ds ∧ ds.length = R ∧ (∀ x ∈ ds, -((R - cnt S R : Nat) : Int) ≤ x ∧ x ≤ R) ∧ OwnI wr (gd + 1) (.slice As stk.length cs) (stk.map fun n : Nat => (n : Int)) ∧ (∀ x ∈ stk, x < R ∧ candB M us x = true) ∧ (∀ i, i < R → candB M us i = true → S i = true ∨ i ∈ stk) ∧ (∀ i, i < R → S i = true → candB M us i = true) ∧ stk.length + cnt S R ≤ R) (fun c _ _ => (intOf c).toNat)
          case atStart => exact ⟨_, [], ds, none, 0, rfl, rfl, HC5.out, HD5.out, HL5.out, HB7.out, HST.out, (fun x hx => by cases hx), HCov.out, fun i _ h => h, by simpa using hcR⟩
          case round =>
            obtain ⟨S, stk, ds, As, cs, rfl, rfl, hc, hd, hdl, hdb, hst, hsk, hcov, hsub, hlen⟩ := hrel
            have HC8 := Lib.hid hc
            have HD8 := Lib.hid hd
            have HL8 := Lib.hid hdl
            have HB8 := Lib.hid hdb
            have HS8 := Lib.hid hst
            have HK8 := Lib.hid (And.intro hsk (And.intro hcov (And.intro hsub hlen)))
            clear hc hd hdl hdb hst hsk hcov hsub HC5 HD5 HL5 HB5 HB7 HST HCov
            obtain ⟨cn, hcn⟩ : ∃ z, z = cnt S R := ⟨_, rfl⟩
            rw [← hcn] at hlen HB8 ⊢
            have HCN := Lib.hid hcn
            clear hcn
            by_cases h0 : 0 < cn
            · have HX := Lib.hid (cnt_pos R (by rw [← HCN.out]; exact h0))
              obtain ⟨ci, hci⟩ : ∃ z : Int, z = (cn : Int) := ⟨_, rfl⟩
              have d0 : decide (0 < ci) = true := decide_eq_true (by omega)
              rw [← hci]
              have HCI := Lib.hid hci
              have hci2 : ci ≤ 1000000 := by omega
              have hci3 : 0 < ci := by omega
              clear hci
              have kg3 : wr.cell? ⟨gb, 3, none⟩ = some uv := blk_cell HC8.out.g.blk rfl
              have lg3 := blk_lt HC8.out.g.blk
              have HPk := Lib.hid (pick_any wr bs R lv S HC8.out.s hR gd B _ uv ds us HD8.out HL8.out HC8.out.g.ui HC8.out.g.ul (k : Int) HX.out)
              obtain ⟨gu, cu, huv⟩ := HC8.out.g.lenU (by obtain ⟨i, h, _⟩ := HX.out; omega)
              rw [huv] at kg3 HPk
              clear h0
              go_wp2_with fail
              refine HPk.out.mono ?_
              rintro e w7 ⟨r, hrR, hrS, rfl, hb7⟩
              have HC9 := Lib.hid (HC8.out.more hb7)
              have HD9 := Lib.hid (show OwnI w7 gd (.slice (some ⟨gd, 0, none⟩) R R) ds from own_below HD8.out hb7)
              have HS9 := Lib.hid (show OwnI w7 (gd + 1) (.slice As stk.length cs) (stk.map fun n : Nat => (n : Int)) from own_below HS8.out hb7)
              have HRS := Lib.hid hrS
              clear hb7 kg3 lg3 hrS HPk
              go_wp2_with fail
              refine (out_b w7 (r : Nat) HC9.out.s hR (by omega)).mono ?_
              rintro e w8 ⟨rfl, hs8, hg8⟩
              have HC10 := Lib.hid (HC9.out.setS hs8 hg8)
              have HD10 := Lib.hid (show OwnI w8 gd (.slice (some ⟨gd, 0, none⟩) R R) ds from World.ownsRow.kept HD9.out hg8 (apart_symm (HC9.out.s.ne_ HD9.out (by decide))))
              have HS10 := Lib.hid (show OwnI w8 (gd + 1) (.slice As stk.length cs) (stk.map fun n : Nat => (n : Int)) from World.ownsRow.kept HS9.out hg8 (apart_symm (HC9.out.s.ne_ HS9.out (by decide))))
              have hcd := cnt_del (p := S) (r := r) R hrR HRS.out
              have HCD := Lib.hid hcd
              clear hs8 hg8 HC8 HC9 HD8 HD9 HS8 HS9 hcd
              go_wp2_with fail
              go_loopw [85] (fun i wr => ∃ (o : Nat) (ds : List Int), o ≤ R ∧ i = .int .i64 o ∧ CS w wr B L0 L1 gb R gp bs (.slice Aa R ca) cv mv uv lv vs E M us cp (fun i => S i && !decide ((r : Int) = (i : Int))) pl ∧ OwnI wr gd (.slice (some ⟨gd, 0, none⟩) R R) ds ∧ ds.length = R ∧ (∀ (i : Nat) (x : Int), ds[i]? = some x → -((R - cn : Nat) : Int) - (if i < o then 1 else 0) ≤ x ∧ x ≤ R) ∧ OwnI wr (gd + 1) (.slice As stk.length cs) (stk.map fun n : Nat => (n : Int))) (fun i _ => R - (intOf i).toNat)
              case atStart => exact ⟨0, ds, by omega, rfl, HC10.out, HD10.out, HL8.out, (fun i x hx => by have := HB8.out x (List.mem_of_getElem? hx); rw [if_neg (by omega)]; omega), HS10.out⟩
              case round =>
                obtain ⟨o, ds, ho, rfl, hc, hd, hdl, hdb, hst⟩ := hrel
                have HC11 := Lib.hid hc
                have HD11 := Lib.hid hd
                have HL11 := Lib.hid hdl
                have HB11 := Lib.hid hdb
                have HS11 := Lib.hid hst
                clear hc hd hdl hdb hst HC10 HD10 HS10
                by_cases hlto : o < R
                · obtain ⟨ga, ca2, hav⟩ := HC11.out.g.formA (by omega)
                  cases hav
                  have kg0 : wr.cell? ⟨gb, 0, none⟩ = some (.slice (some ⟨ga, 0, none⟩) R ca) := blk_cell HC11.out.g.blk rfl
                  have lg0 := blk_lt HC11.out.g.blk
                  obtain ⟨va, e1, e2⟩ := HC11.out.g.at_ hrR
                  have kga := HC11.out.g.cellA hrR e1
                  have lga := World.block_lt_of_cell? _ _ kga
                  have HH := Lib.hid (has_b wr o e2 hR hlto)
                  obtain ⟨x, hx⟩ : ∃ x, ds[o]? = some x := ⟨_, List.getElem?_eq_getElem (by rw [HL11.out]; exact hlto)⟩
                  obtain ⟨kd, kdf, kdl⟩ := OwnI.at_ HD11.out HL11.out.symm hx
                  have hxb := HB11.out o x hx
                  rw [if_neg (by omega)] at hxb
                  obtain ⟨z1, z2⟩ := OwnI.set (j := o) HD11.out HL11.out.symm (x - 1)
                  have HC12 := Lib.hid (HC11.out.keptI HD11.out (by have := HGD.out; have := HC11.out.gw; omega) z2)
                  have HD12 := Lib.hid z1
                  have HL12 := Lib.hid (show (ds.set o (x - 1)).length = R by rw [List.length_set]; exact HL11.out)
                  have HB12 := Lib.hid (show ∀ (i : Nat) (y : Int), (ds.set o (x - 1))[i]? = some y → -((R - cn : Nat) : Int) - (if i < o + 1 then 1 else 0) ≤ y ∧ y ≤ R from fun i y hy => by
                    by_cases e : i = o
                    · subst e
                      rw [List.getElem?_set_self (by rw [HL11.out]; exact hlto)] at hy
                      simp only [Option.some.injEq] at hy
                      rw [if_pos (by omega)]
                      omega
                    · rw [List.getElem?_set_ne (Ne.symm e)] at hy
                      have := HB11.out i y hy
                      by_cases e2 : i < o
                      · rw [if_pos e2] at this; rw [if_pos (by omega)]; exact this
                      · rw [if_neg e2] at this; rw [if_neg (by omega)]; exact this)
                  have HB13 := Lib.hid (show ∀ (i : Nat) (y : Int), ds[i]? = some y → -((R - cn : Nat) : Int) - (if i < o + 1 then 1 else 0) ≤ y ∧ y ≤ R from fun i y hy => by
                    have := HB11.out i y hy
                    by_cases e2 : i < o
                    · rw [if_pos e2] at this; rw [if_pos (by omega)]; exact this
                    · rw [if_neg e2] at this
                      by_cases e3 : i < o + 1
                      · rw [if_pos e3]; omega
                      · rw [if_neg e3]; exact this)
                  have HS12 := Lib.hid (show OwnI (wr.setCell ⟨gd, o, none⟩ (.int .i64 (x - 1))) (gd + 1) (.slice As stk.length cs) (stk.map fun n : Nat => (n : Int)) from World.ownsRow.kept HS11.out z2 (by
                    cases e : (Value.slice As stk.length cs).ownBlock with
                    | none => exact Or.inl rfl
                    | some g => exact Or.inr (fun e2 => by have := (World.ownsRow.lt HS11.out g e).1; simp only [Option.some.injEq] at e2; omega)))
                  have hx1 : -9223372036854775808 ≤ x - 1 := by omega
                  have hx2 : x - 1 ≤ 9223372036854775807 := by omega
                  obtain ⟨eo, heo⟩ : ∃ z, z = E r o := ⟨_, rfl⟩
                  rw [← heo] at HH
                  clear e1 e2 hx z1 z2 heo
                  cases eo
                  · go_wp2_with fail
                    refine HH.out.mono ?_
                    rintro e w9 ⟨rfl, rfl⟩
                    go_wp2_with fail
                    go_roundw
                    case rel => exact ⟨o + 1, _, by omega, by go_num, HC11.out, HD11.out, HL11.out, HB13.out, HS11.out⟩
                    case measure => first | omega | (simp [intOf]; done) | (simp [intOf]; omega)
                  · go_wp2_with fail
                    refine HH.out.mono ?_
                    rintro e w9 ⟨rfl, rfl⟩
                    go_wp2_with fail
                    go_roundw
                    case rel => exact ⟨o + 1, _, by omega, by go_num, HC12.out, HD12.out, HL12.out, HB12.out, HS12.out⟩
                    case measure => first | omega | (simp [intOf]; done) | (simp [intOf]; omega)
                · have e : R = o := by omega
                  subst e
                  obtain ⟨i0, hi, hz0, hz1, hz2⟩ := info_parts Tryd.infoInt
                  have hbw : gd + 1 ≤ wr.heap.size := (World.ownsRow.lt HD11.out gd rfl).2
                  have hstl := HS11.out
                  unfold OwnI at hstl
                  rw [List.length_map] at hstl
                  have hsl : stk.length ≤ R := by omega
                  obtain ⟨v9, w9, hr9, ho9, hg9, _⟩ := append_one (P := Tryd.prog) (w := wr) (gd + 1) 37 3 i0 _ 8 Tryd.underlying37 hi hz0 hz1 hz2 rfl (.slice As stk.length cs) stk.length _ hstl (.int .i64 (r : Nat)) _ rfl rfl (by unfold maxLen; omega) (by omega) hbw
                  have ho9' : OwnI w9 (gd + 1) v9 ((stk ++ [r]).map fun n : Nat => (n : Int)) := by
                    unfold OwnI
                    rw [List.length_map, List.length_append, show iv ((stk ++ [r]).map fun n : Nat => (n : Int)) = iv (stk.map fun n : Nat => (n : Int)) ++ [.int .i64 (r : Nat)] by simp [iv]]
                    exact ho9
                  have HC13 := Lib.hid (HC11.out.keptI HS11.out (by have := HGD.out; have := HC11.out.gw; omega) hg9)
                  have HD13 := Lib.hid (show OwnI w9 gd (.slice (some ⟨gd, 0, none⟩) R R) ds from World.ownsRow.kept HD11.out hg9 (Or.inr (fun e => by have := (World.ownsRow.lt HS11.out gd e.symm).1; omega)))
                  obtain ⟨A9, c9, hv9, _⟩ := own_slice ho9'
                  rw [List.length_map] at hv9
                  subst hv9
                  have HS13 := Lib.hid ho9'
                  have HCC := Lib.hid (show ci - 1 = ((cnt (fun i => S i && !decide ((r : Int) = (i : Int))) R : Nat) : Int) by have := HCD.out; have := HCI.out; have := HCN.out; omega)
                  have HB14 := Lib.hid (show ∀ x ∈ ds, -((R - cnt (fun i => S i && !decide ((r : Int) = (i : Int))) R : Nat) : Int) ≤ x ∧ x ≤ R from fun x hx => by
                    obtain ⟨i, hi2⟩ := List.getElem?_of_mem hx
                    have := HB11.out i x hi2
                    have h2 := HCD.out
                    have h3 := HCN.out
                    have h4 := cnt_le S R
                    rw [if_pos (by have := (List.getElem?_eq_some_iff.1 hi2).1; have := HL11.out; omega)] at this
                    omega)
                  have HK14 := Lib.hid (show (∀ x ∈ stk ++ [r], x < R ∧ candB M us x = true) ∧ (∀ i, i < R → candB M us i = true → (S i && !decide ((r : Int) = (i : Int))) = true ∨ i ∈ stk ++ [r]) ∧ (∀ i, i < R → (S i && !decide ((r : Int) = (i : Int))) = true → candB M us i = true) ∧ (stk ++ [r]).length + cnt (fun i => S i && !decide ((r : Int) = (i : Int))) R ≤ R from ⟨fun x hx => by
                      rcases List.mem_append.1 hx with h | h
                      · exact HK8.out.1 x h
                      · rw [List.mem_singleton.1 h]; exact ⟨hrR, HK8.out.2.2.1 r hrR HRS.out⟩, fun i hiR hci => by
                      by_cases e : i = r
                      · subst e; exact Or.inr (by simp)
                      · rcases HK8.out.2.1 i hiR hci with h | h
                        · left; rw [h, decide_eq_false (by omega)]; rfl
                        · exact Or.inr (List.mem_append_left _ h), fun i hiR h => by
                      rw [Bool.and_eq_true] at h
                      exact HK8.out.2.2.1 i hiR h.1, by have := HCD.out; have := HCN.out; rw [List.length_append]; simp only [List.length_singleton]; omega⟩)
                  clear hstl ho9 hg9 ho9' hi hz0 hz1 hz2 HK8
                  go_wp2_with (at_builtin; refine wpList_append_run' _ rfl _ _ _ rfl _ _ _ _ rfl rfl hr9 ?_)
                  go_roundw
                  case rel => exact ⟨_, stk ++ [r], ds, A9, c9, by rw [List.length_append]; rfl, by rw [HCC.out], HC13.out, HD13.out, HL11.out, HB14.out, HS13.out, HK14.out.1, HK14.out.2.1, HK14.out.2.2.1, HK14.out.2.2.2⟩
                  case measure => first | omega | (simp [intOf]; done) | (simp [intOf]; omega)
            · have e : cn = 0 := by omega
              subst e
              have HZ := Lib.hid (show ∀ i, i < R → S i = false from fun i hi => by
                cases h : S i
                · rfl
                · have := cnt_del (p := S) R hi h
                  have := HCN.out
                  omega)
              have HF0 := Lib.hid (show Fits E (candB M us) R k pl from ⟨HC8.out.pn, fun i x hx => by
                have hi := (List.getElem?_eq_some_iff.1 hx).1
                rw [HPm3.out i (by rw [← HC8.out.pn]; exact hi)] at hx
                simp only [Option.some.injEq] at hx
                exact Or.inl hx.symm, fun a b x _ ha _ hx => by
                have hi := (List.getElem?_eq_some_iff.1 ha).1
                rw [HPm3.out a (by rw [← HC8.out.pn]; exact hi)] at ha
                simp only [Option.some.injEq] at ha
                omega⟩)
              have hsl : stk.length ≤ R := by omega
              obtain ⟨nl, hnl⟩ : ∃ z, z = stk.length := ⟨_, rfl⟩
              have HNL := Lib.hid hnl
              have HS8' := Lib.hid (show OwnI wr (gd + 1) (.slice As nl cs) (stk.map fun n : Nat => (n : Int)) by rw [hnl]; exact HS8.out)
              rw [← hnl] at hsl ⊢
              rw [show ((0 : Nat) : Int) = 0 from rfl]
              clear hnl h0
              go_wp2_with fail
              go_loopw [15] (fun s wr => ∃ (j : Nat) (pl2 : List Int), j ≤ nl ∧ s = .int .i64 ((j : Int) - 1) ∧ CS w wr B L0 L1 gb R gp bs (.slice Aa R ca) cv mv uv lv vs E M us cp S pl2 ∧ Fits E (candB M us) R k pl2 ∧ Tried E R k pl2 (stk.drop j) ∧ OwnI wr (gd + 1) (.slice As nl cs) (stk.map fun n : Nat => (n : Int))) (fun s _ => (intOf s + 1).toNat)
              case atStart => exact ⟨nl, pl, Nat.le_refl _, rfl, HC8.out, HF0.out, (by rw [List.drop_eq_nil_of_le (by rw [HNL.out]; exact Nat.le_refl _)]; exact fun i hi => by cases hi), HS8'.out⟩
              case round =>
                obtain ⟨j, pl2, hj, rfl, hc, hf, htr, hst⟩ := hrel
                have HC9 := Lib.hid hc
                have HF9 := Lib.hid hf
                have HT9 := Lib.hid htr
                have HS9 := Lib.hid hst
                clear hc hf htr HC8 HS8' HF0
                rcases Nat.eq_zero_or_pos j with e | e
                · subst e
                  go_wp2_with fail
                  go_returns
                  refine ⟨gp, pl2, rfl, HC9.out.p, HF9.out, fun i hi hci hm hk0 => ?_, HC9.out.bel⟩
                  have := HT9.out
                  rw [List.drop_zero] at this
                  refine this i ?_ hm hk0
                  rcases HK8.out.2.1 i hi hci with h | h
                  · rw [HZ.out i hi] at h; cases h
                  · exact h
                · obtain ⟨j, rfl⟩ : ∃ j', j = j' + 1 := ⟨j - 1, by omega⟩
                  clear e
                  have hjq : (((j + 1 : Nat) : Int) - 1) = (j : Nat) := by omega
                  rw [hjq]
                  clear hjq
                  obtain ⟨r, hr⟩ : ∃ r, stk[j]? = some r := ⟨_, List.getElem?_eq_getElem (by rw [← HNL.out]; omega)⟩
                  obtain ⟨hrR, hrc⟩ := HK8.out.1 r (List.mem_of_getElem? hr)
                  have hlen3 : nl = (stk.map fun n : Nat => (n : Int)).length := by rw [List.length_map]; exact HNL.out
                  obtain ⟨g3, c3, e3⟩ := own_at hst (by rw [← hlen3]; omega)
                  rw [← hlen3] at e3
                  cases e3
                  obtain ⟨ks, _, ksl⟩ := OwnI.at_ hst hlen3 (j := j) (x := (r : Int)) (by rw [List.getElem?_map, hr]; rfl)
                  have HCh := Lib.hid (choose_any HC9.out.g hR w.heap.size gp R (Nat.le_trans HC9.out.g.le HC9.out.l1) pl2 HC9.out.p HC9.out.pn r k hrR hk (fun x hx => by
                    obtain ⟨i, hi⟩ := List.getElem?_of_mem hx
                    rcases HF9.out.rng i x hi with h | h
                    · omega
                    · omega) HCP.out.1 HCP.out.2)
                  have HDr := Lib.hid (show stk.drop j = r :: stk.drop (j + 1) by
                    have hq := (List.getElem?_eq_some_iff.1 hr).1
                    rw [List.drop_eq_getElem_cons hq, (List.getElem?_eq_some_iff.1 hr).2])
                  clear hst hr hlen3
                  go_wp2_with fail
                  refine HCh.out.mono ?_
                  rintro e w9 ⟨pl3, rfl, hp9, hch, hg9⟩
                  have HF10 := Lib.hid (HF9.out.cho hrR hrc HSy.out hch)
                  have HC10 := Lib.hid (HC9.out.setP hp9 HF10.out.len hg9)
                  have HT10 := Lib.hid (show Tried E R k pl3 (stk.drop j) by rw [HDr.out]; exact HT9.out.cho HF9.out.len hrR hch)
                  have HS10 := Lib.hid (show OwnI w9 (gd + 1) (.slice (some ⟨g3, 0, none⟩) nl cs) (stk.map fun n : Nat => (n : Int)) from World.ownsRow.kept HS9.out hg9 (Or.inr (fun e => by
                    have := (World.ownsRow.lt HS9.out g3 rfl).1
                    have e' : g3 = gp := by simpa [Value.ownBlock] using e
                    have := HGD.out
                    omega)))
                  clear hp9 hch hg9 ks ksl HCh
                  go_wp2_with fail
                  go_roundw
                  case rel => exact ⟨j, pl3, by omega, by go_num, HC10.out, HF10.out, HT10.out, HS10.out⟩
                  case measure => first | omega | (simp [intOf]; done) | (simp [intOf]; omega)
end
end Go.Proofs.YtbogcompeefoaaaDoor
