/- Walks: graph's choose. No condition. -/
import Derived.Test.YtbogcompeefoaaaDoorQi
namespace Go.Proofs.YtbogcompeefoaaaDoor
open Go.RowKit
set_option linter.unusedVariables false
set_option maxHeartbeats 4000000
def bools64 : Array Value := Array.replicate 64 (.bool false)
theorem alloc_64 (w : World) : (Instr.alloc 133 true (.tuple #[])).run Tryd.prog w = .ok (.pointer (some ⟨w.heap.size, 0, none⟩)) (w.alloc (.cells bools64 133)) := by kernel_rfl
theorem exec_64 (ρ : Operand → Value) (o : Oper) (ho : o.op = .alloc 133) (w : World) : (execOp ρ o).run Tryd.prog w = .ok (.value (.pointer (some ⟨w.heap.size, 0, none⟩))) (w.alloc (.cells bools64 133)) := by
  unfold execOp
  rw [ho]
  have := alloc_64 w
  simp only [Sem.run_bind, this, Result.andThen]
  rfl
theorem wpList_64 {ops : Array Oper} {rest : List Oper} {o : Oper} {a : Act} {w : World} {Q : Exit → Act → World → Prop} (hgd : o.guard = none) (ho : o.op = .alloc 133)
    (h : wpList Tryd.prog ops Q rest (a.put o.dst (.pointer (some ⟨w.heap.size, 0, none⟩))) (w.alloc (.cells bools64 133))) : wpList Tryd.prog ops Q (o :: rest) a w :=
  wpList_value hgd _ _ (exec_64 _ o ho w) h
/-- block b: which of 64 are taken -/
def TK (w : World) (b : Nat) (T : Nat → Bool) : Prop := ∃ cs : Array Value, w.heap[b]? = some (.cells cs 133 (0, 0)) ∧ cs.size = 64 ∧ ∀ j, j < 64 → cs[j]? = some (.bool (T j))
theorem TK.new {w : World} {b : Nat} (h : w.heap[b]? = some (.cells bools64 133 (0, 0))) : TK w b (fun _ => false) := ⟨_, h, by simp [bools64], fun j hj => by simp [bools64, hj]⟩
theorem TK.cell {w : World} {b j : Nat} {T : Nat → Bool} (h : TK w b T) (hj : j < 64) : w.cell? ⟨b, j, none⟩ = some (.bool (T j)) ∧ w.frozen? ⟨b, j, none⟩ = false ∧ b < w.heap.size := by
  obtain ⟨cs, h1, h2, h3⟩ := h
  exact ⟨blk_cell h1 (h3 j hj), blk_free h1, blk_lt h1⟩
theorem TK.more {w w' : World} {b : Nat} {T : Nat → Bool} (h : TK w b T) (hb : Below w.heap.size w w') : TK w' b T := by
  obtain ⟨cs, h1, h2, h3⟩ := h
  exact ⟨cs, (hb.block b (blk_lt h1)).trans h1, h2, h3⟩
theorem TK.set {w : World} {b j : Nat} {T : Nat → Bool} (h : TK w b T) (hj : j < 64) : TK (w.setCell ⟨b, j, none⟩ (.bool true)) b (fun i => T i || decide (i = j)) ∧ w.grownBy (w.setCell ⟨b, j, none⟩ (.bool true)) (some b) := by
  obtain ⟨cs, h1, h2, h3⟩ := h
  refine ⟨⟨cs.setIfInBounds j (.bool true), by rw [blk_setCell h1 _], by simp [h2], fun i hi => ?_⟩, rfl, rfl, rfl, by simp [World.setCell], fun k hk hne => Below.heap_setCell w ⟨b, j, none⟩ _ k (fun e => hne (by rw [e]))⟩
  show (cs.setIfInBounds j (.bool true))[i]? = some (.bool (T i || decide (i = j)))
  by_cases e : i = j
  · subst e
    rw [Array.getElem?_setIfInBounds_self_of_lt (by omega)]; simp
  · rw [Array.getElem?_setIfInBounds_ne (Ne.symm e), h3 i hi]; simp [e]
theorem gand63 (p : Nat) (hp : p < 64) : bits .and .i64 (p : Int) 63 = (p : Int) := by
  have : ∀ q : Fin 64, bits .and .i64 ((q.val : Nat) : Int) 63 = ((q.val : Nat) : Int) := by decide +kernel
  exact this ⟨p, hp⟩
/-- the first o of them: whose places are taken -/
def TakOk (pl : List Int) (E : Nat → Nat → Bool) (r o : Nat) (T : Nat → Bool) : Prop := ∀ p, p < 64 → (T p = true ↔ ∃ i : Nat, i < o ∧ pl[i]? = some (p : Int) ∧ E r i = true)
theorem TakOk.zero (pl : List Int) (E : Nat → Nat → Bool) (r : Nat) : TakOk pl E r 0 (fun _ => false) := fun p _ => ⟨fun h => (by cases h), fun ⟨i, h, _⟩ => (by omega)⟩
theorem TakOk.no {pl : List Int} {E : Nat → Nat → Bool} {r o : Nat} {T : Nat → Bool} (h : TakOk pl E r o T) (hn : ∀ p : Nat, p < 64 → pl[o]? = some (p : Int) → E r o = false) : TakOk pl E r (o + 1) T := fun p hp => by
  rw [h p hp]
  constructor
  · rintro ⟨i, h1, h2⟩; exact ⟨i, by omega, h2⟩
  · rintro ⟨i, h1, h2, h3⟩
    by_cases e : i = o
    · subst e; rw [hn p hp h2] at h3; cases h3
    · exact ⟨i, by omega, h2, h3⟩
theorem TakOk.yes {pl : List Int} {E : Nat → Nat → Bool} {r o q : Nat} {T : Nat → Bool} (h : TakOk pl E r o T) (hq : pl[o]? = some (q : Int)) (he : E r o = true) : TakOk pl E r (o + 1) (fun i => T i || decide (i = q)) := fun p hp => by
  simp only [Bool.or_eq_true, decide_eq_true_eq]
  rw [h p hp]
  constructor
  · rintro (⟨i, h1, h2⟩ | rfl)
    · exact ⟨i, by omega, h2⟩
    · exact ⟨o, by omega, hq, he⟩
  · rintro ⟨i, h1, h2, h3⟩
    by_cases e : i = o
    · subst e
      rw [hq] at h2
      simp only [Option.some.injEq] at h2
      exact Or.inr (by omega)
    · exact Or.inl ⟨i, by omega, h2, h3⟩
/-- what choose does to the places -/
def ChoR (pl : List Int) (E : Nat → Nat → Bool) (R r k : Nat) (pl' : List Int) : Prop :=
  (pl' = pl ∧ (0 < k → ∃ o, o < R ∧ E r o = true)) ∨ ∃ p : Nat, p < k ∧ pl' = pl.set r (p : Int) ∧ ∀ o : Nat, o < R → pl[o]? = some (p : Int) → E r o = false
section
variable {w : World} {B L0 L1 gb R : Nat} {av cv mv uv : Value} {vs : List Value} {E : Nat → Nat → Bool} {M : Nat → Bool} {us : List Int} {cp : List (Int × Int)}
theorem GrR.cellC {g cap i : Nat} {c : Int × Int} (h : GrR w B L0 L1 gb R av (.slice (some ⟨g, 0, none⟩) cp.length cap) mv uv vs E M us cp) (hc : cp[i]? = some c) : w.cell? ⟨g, i * 2, none⟩ = some (.int .i64 c.1) ∧ w.cell? ⟨g, i * 2 + 1, none⟩ = some (.int .i64 c.2) := by
  have hi := (List.getElem?_eq_some_iff.1 hc).1
  have key : ∀ (l : List (Int × Int)) (i : Nat) (c : Int × Int), l[i]? = some c → (cpv l)[i * 2]? = some (.int .i64 c.1) ∧ (cpv l)[i * 2 + 1]? = some (.int .i64 c.2) := by
    intro l
    induction l with
    | nil => intro i c h; simp at h
    | cons d l ih =>
      intro i c h
      have e : cpv (d :: l) = .int .i64 d.1 :: .int .i64 d.2 :: cpv l := by simp [cpv]
      rw [e]
      cases i with
      | zero => simp at h; subst h; exact ⟨rfl, rfl⟩
      | succ i =>
        have := ih i c (by simpa using h)
        rw [show (i + 1) * 2 = i * 2 + 1 + 1 by omega]
        simpa using this
  obtain ⟨h1, h2⟩ := key cp i c hc
  exact ⟨(h.ci.cellAt _ (by omega)).trans h1, (h.ci.cellAt _ (by omega)).trans h2⟩
set_option maxRecDepth 100000 in
theorem choose_any (h : GrR w B L0 L1 gb R av cv mv uv vs E M us cp) (hR : R ≤ 1000000) (b2 gp cpp : Nat) (hb2 : L0 ≤ b2) (pl : List Int) (hp : OwnI w b2 (.slice (some ⟨gp, 0, none⟩) R cpp) pl) (hpl : pl.length = R) (r k : Nat) (hr : r < R) (hk : k ≤ 63)
    (hin : ∀ x ∈ pl, -1 ≤ x ∧ x < (k : Int)) (hcp : ∀ c ∈ cp, (0 ≤ c.1 ∧ c.1 < (R : Int)) ∧ 0 ≤ c.2 ∧ c.2 < (R : Int)) (hcl : cp.length ≤ 1000000000) :
    Calls Tryd.prog 60 #[.pointer (some ⟨gb, 0, none⟩), .slice (some ⟨gp, 0, none⟩) R cpp, .int .i64 (r : Nat), .int .i64 (k : Nat)] w fun e w' => ∃ pl', e = .returned (.tuple #[]) ∧ OwnI w' b2 (.slice (some ⟨gp, 0, none⟩) R cpp) pl' ∧ ChoR pl E R r k pl' ∧ w.grownBy w' (some gp) := by
  have H := Lib.hid h
  have HP := Lib.hid hp
  have HPL := Lib.hid hpl
  have HIN := Lib.hid hin
  have HCP := Lib.hid hcp
  have hgb := blk_lt h.blk
  have HAL := Lib.hid (below_alloc (.cells bools64 133) (Below.refl w.heap.size w))
  have HT0 := Lib.hid (TK.new (blk_new w (.cells bools64 133)))
  have H1 := Lib.hid (h.more HAL.out)
  have HP1 := Lib.hid (own_below hp HAL.out)
  clear h hp hpl hin hcp
  go_enter Tryd.func60, Tryd.ntmps60
  go_wp2_with (refine wpList_64 rfl rfl ?_)
  obtain ⟨wa, hwa⟩ : ∃ z, z = w.alloc (.cells bools64 133) := ⟨_, rfl⟩
  rw [← hwa] at HAL HT0 H1 HP1 ⊢
  obtain ⟨gt, hgt⟩ : ∃ z, z = w.heap.size := ⟨_, rfl⟩
  rw [← hgt] at HT0 ⊢
  have HGT := Lib.hid hgt
  clear hwa hgt
  obtain ⟨ga, ca, rfl⟩ := H1.out.formA (by omega)
  obtain ⟨va, e1, e2⟩ := H1.out.at_ hr
  have HVA := Lib.hid (And.intro e1 e2)
  clear e1 e2
  go_loopw [19] (fun i wr => ∃ (o : Nat) (T : Nat → Bool), o ≤ R ∧ i = .int .i64 o ∧ TK wr gt T ∧ TakOk pl E r o T ∧ wa.grownBy wr (some gt)) (fun i _ => R - (intOf i).toNat)
  case atStart => exact ⟨0, _, by omega, rfl, HT0.out, TakOk.zero _ _ _, grownBy_refl _ _⟩
  case round =>
    obtain ⟨o, T, ho, rfl, ht, hto, hg⟩ := hrel
    have HT := Lib.hid ht
    have HTO := Lib.hid hto
    have HG := Lib.hid hg
    have hty : ∀ {b size n : Nat} {Ty : TypeId} {v : Value} {xs : List Value}, wa.ownsRow b Ty size v n xs → Ty ≠ 133 → wr.ownsRow b Ty size v n xs := fun ho hT => by
      obtain ⟨cs, c1, _⟩ := HT0.out
      exact World.ownsRow.kept ho hg (own_blk ho c1 hT)
    have hbk : ∀ {b : Nat} {cs : Array Value} {Ty : TypeId}, wa.heap[b]? = some (.cells cs Ty (0, 0)) → Ty ≠ 133 → wr.heap[b]? = some (.cells cs Ty (0, 0)) := fun {b} {cs} {Ty} h hT => by
      refine blk_kept h hg (Or.inr (fun e => ?_))
      simp only [Option.some.injEq] at e
      obtain ⟨c2, c1, _⟩ := HT0.out
      rw [e, h] at c1
      simp only [Option.some.injEq, Obj.cells.injEq] at c1
      exact hT c1.2.1
    have HG2 := Lib.hid (show GrR wr B L0 L1 gb R (.slice (some ⟨ga, 0, none⟩) R ca) cv mv uv vs E M us cp from
      have ks : ∀ {b : Nat} {v : Value} {S : Nat → Bool}, SetB wa b v R S → SetB wr b v R S := fun hs => let ⟨l, k1, k2, k3⟩ := hs; ⟨l, ⟨hty k1.1 (by decide), k1.2⟩, k2, k3⟩
      ⟨hbk H1.out.blk (by decide), H1.out.gB, H1.out.gH, hty H1.out.ra (by decide), H1.out.ha, fun i hi => let ⟨v, k1, k2⟩ := H1.out.sa i hi; ⟨v, k1, ks k2⟩, H1.out.hs, H1.out.ap, ks H1.out.sm, H1.out.hm, H1.out.am, hty H1.out.ui (by decide), H1.out.hu, H1.out.ul, hty H1.out.ci (by decide), H1.out.le, Nat.le_trans H1.out.top hg.size⟩)
    have HP2 := Lib.hid (show OwnI wr b2 (.slice (some ⟨gp, 0, none⟩) R cpp) pl from hty HP1.out (by decide))
    clear ht hto hg hty hbk
    by_cases hlt : o < R
    · obtain ⟨po, hpo⟩ : ∃ z, pl[o]? = some z := ⟨_, List.getElem?_eq_getElem (by rw [HPL.out]; exact hlt)⟩
      have kp := OwnI.cell HP2.out (by rw [HPL.out]; exact hlt) po hpo
      have lp := World.block_lt_of_cell? _ _ kp
      have hb := HIN.out po (List.mem_of_getElem? hpo)
      have HPO := Lib.hid hpo
      have kg0 : wr.cell? ⟨gb, 0, none⟩ = some (.slice (some ⟨ga, 0, none⟩) R ca) := blk_cell HG2.out.blk rfl
      have lg0 := blk_lt HG2.out.blk
      have kga := HG2.out.cellA hr HVA.out.1
      have lga := World.block_lt_of_cell? _ _ kga
      obtain ⟨va2, e1, e2⟩ := HG2.out.at_ hr
      have e3 := HVA.out.1
      rw [e1] at e3
      cases e3
      have HH := Lib.hid (has_b wr o e2 hR hlt)
      obtain ⟨eo, heo⟩ : ∃ z, z = E r o := ⟨_, rfl⟩
      rw [← heo] at HH
      have HEO := Lib.hid heo
      clear hpo e1 e2 heo
      by_cases h0 : 0 ≤ po
      · obtain ⟨p, rfl⟩ : ∃ p : Nat, po = p := ⟨po.toNat, by omega⟩
        have hp64 : p < 64 := by omega
        have d0 : decide ((0 : Int) ≤ (p : Int)) = true := decide_eq_true h0
        cases eo
        · have HN := Lib.hid (HTO.out.no (fun q _ _ => HEO.out.symm))
          clear h0
          go_wp2_with fail
          refine HH.out.mono ?_
          rintro e w7 ⟨rfl, rfl⟩
          go_wp2_with fail
          go_roundw
          case rel => exact ⟨o + 1, T, by omega, by go_num, HT.out, HN.out, HG.out⟩
          case measure => first | omega | (simp [intOf]; done) | (simp [intOf]; omega)
        · have HY := Lib.hid (HTO.out.yes HPO.out HEO.out.symm)
          have HS := Lib.hid (HT.out.set hp64)
          have HSG := Lib.hid (grown_trans HG.out HS.out.2)
          have ha63 := gand63 p hp64
          obtain ⟨kt1, kt2, kt3⟩ := HT.out.cell hp64
          clear h0
          go_wp2_with fail
          refine HH.out.mono ?_
          rintro e w7 ⟨rfl, rfl⟩
          go_wp2_with fail
          go_roundw
          case rel => exact ⟨o + 1, _, by omega, by go_num, HS.out.1, HY.out, HSG.out⟩
          case measure => first | omega | (simp [intOf]; done) | (simp [intOf]; omega)
      · have d0 : decide (0 ≤ po) = false := decide_eq_false h0
        have HN := Lib.hid (HTO.out.no (fun q _ hq => by rw [HPO.out] at hq; simp only [Option.some.injEq] at hq; omega))
        clear h0
        go_wp2_with fail
        go_roundw
        case rel => exact ⟨o + 1, T, by omega, by go_num, HT.out, HN.out, HG.out⟩
        case measure => first | omega | (simp [intOf]; done) | (simp [intOf]; omega)
    · have e : R = o := by omega
      subst e
      obtain ⟨Ac, cc, hcv, _⟩ := own_slice HG2.out.ci
      subst hcv
      have kg1 : wr.cell? ⟨gb, 1, none⟩ = some (.slice Ac cp.length cc) := blk_cell HG2.out.blk rfl
      have lg1 := blk_lt HG2.out.blk
      obtain ⟨n, hn⟩ : ∃ n, n = cp.length := ⟨_, rfl⟩
      have HCT := Lib.hid (fun (j : Nat) (c : Int × Int) (hc : cp[j]? = some c) => show ∃ g, Ac = some ⟨g, 0, none⟩ ∧ wr.cell? ⟨g, j * 2, none⟩ = some (.int .i64 c.1) ∧ wr.cell? ⟨g, j * 2 + 1, none⟩ = some (.int .i64 c.2) by
        have hj := (List.getElem?_eq_some_iff.1 hc).1
        obtain ⟨g, c9, e9, _⟩ := own_form HG2.out.ci (by omega)
        cases e9
        exact ⟨g, rfl, HG2.out.cellC hc⟩)
      have HWW := Lib.hid (show Below w.heap.size w wr from HAL.out.trans (below_of_grown (Below.refl _ _) (by rw [← HGT.out]; exact Nat.le_of_lt (HT0.out.cell (show 0 < 64 by omega)).2.2) HG.out (fun k hk => by cases hk; exact Nat.le_of_eq HGT.out.symm)))
      rw [← hn] at kg1 hcl
      have HN := Lib.hid hn
      have HT5 := HT
      have HTO5 := HTO
      clear hn
      go_wp2_with fail
      obtain ⟨wz, hwz⟩ : ∃ wo : World, wo = wr := ⟨_, rfl⟩
      rw [← hwz] at HCT HWW HT5 HP2 ⊢
      clear hwz kg1 lg1 HT HTO
      go_loopw [46] (fun i wr => ∃ j : Nat, j ≤ n ∧ i = .int .i64 j ∧ Below wz.heap.size wz wr) (fun i _ => n - (intOf i).toNat)
      case atStart => exact ⟨0, by omega, rfl, Below.refl _ _⟩
      case round =>
        obtain ⟨j, hj, rfl, hb⟩ := hrel
        have HW4 := Lib.hid hb
        clear hb
        by_cases hltj : j < n
        · obtain ⟨c, hc⟩ : ∃ c, cp[j]? = some c := ⟨_, List.getElem?_eq_getElem (by rw [← HN.out]; exact hltj)⟩
          obtain ⟨g, rfl, c0, c1⟩ := HCT.out j c hc
          have q0 := later c0 HW4.out
          have q1 := later c1 HW4.out
          have lq := World.block_lt_of_cell? _ _ q0
          obtain ⟨hc1, hc2⟩ := HCP.out c (List.mem_of_getElem? hc)
          obtain ⟨x, y⟩ := c
          simp only at hc1 hc2 q0 q1
          clear hc c0 c1
          go_wp2_with fail
          have HBX := Lib.hid (below_alloc (.cells #[.int .i64 x, .int .i64 y] 132) (Below.refl wr.heap.size wr))
          have HBO := Lib.hid (blk_new wr (.cells #[.int .i64 x, .int .i64 y] 132))
          obtain ⟨wb, hwb⟩ : ∃ z, z = wr.alloc (.cells #[.int .i64 x, .int .i64 y] 132) := ⟨_, rfl⟩
          rw [← hwb] at HBX HBO ⊢
          obtain ⟨gc, hgc⟩ : ∃ z, z = wr.heap.size := ⟨_, rfl⟩
          rw [← hgc] at HBO ⊢
          have HWB := Lib.hid (HW4.out.trans (HBX.out.mono HW4.out.size))
          clear hwb hgc q0 q1 lq HW4
          go_loopw [51] (fun i wr => ∃ i2 : Nat, i2 ≤ 2 ∧ i = .int .i64 i2 ∧ wr.heap[gc]? = some (.cells #[.int .i64 x, .int .i64 y] 132 (0, 0)) ∧ Below wz.heap.size wz wr) (fun i _ => 2 - (intOf i).toNat)
          case atStart => exact ⟨0, by omega, rfl, HBO.out, HWB.out⟩
          case round =>
            obtain ⟨i2, hi2, rfl, hbx, hb5⟩ := hrel
            have HBX5 := Lib.hid hbx
            have HW5 := Lib.hid hb5
            clear HBO HWB
            by_cases hlt2 : i2 < 2
            · have kb0 : wr.cell? ⟨gc, 0, none⟩ = some (.int .i64 x) := blk_cell hbx rfl
              have kb1 : wr.cell? ⟨gc, 1, none⟩ = some (.int .i64 y) := blk_cell hbx rfl
              have lb := blk_lt hbx
              clear hbx hb5
              rcases (show i2 = 0 ∨ i2 = 1 by omega) with e0 | e0
              · subst e0
                rw [show ((0 : Nat) : Int) = 0 from rfl]
                obtain ⟨o, hoo⟩ : ∃ o : Nat, y = o := ⟨(y).toNat, by omega⟩
                have hoR : o < R := by omega
                subst hoo
                have hix0 : (Instr.index 132 (.agg #[.int .i64 x, .int .i64 (o : Nat)]) (.int .i64 0)).run Tryd.prog wr = .ok (.int .i64 x) wr := by kernel_rfl
                obtain ⟨po, hpo⟩ : ∃ z, pl[o]? = some z := ⟨_, List.getElem?_eq_getElem (by rw [HPL.out]; exact hoR)⟩
                have kp := later (OwnI.cell HP2.out (by rw [HPL.out]; exact hoR) po hpo) HW5.out
                have lp := World.block_lt_of_cell? _ _ kp
                have hbp := HIN.out po (List.mem_of_getElem? hpo)
                by_cases hxr : x = (r : Int)
                · have b1 : (x == (r : Int)) = true := by simpa using hxr
                  by_cases h0 : 0 ≤ po
                  · obtain ⟨p, rfl⟩ : ∃ p : Nat, po = p := ⟨po.toNat, by omega⟩
                    have d0 : decide ((0 : Int) ≤ (p : Int)) = true := decide_eq_true h0
                    have hp64 : p < 64 := by omega
                    have ha63 := gand63 p hp64
                    obtain ⟨kt1, kt2, kt3⟩ := (HT5.out.more HW5.out).cell hp64
                    obtain ⟨tp, htp⟩ : ∃ z, z = T p := ⟨_, rfl⟩
                    rw [← htp] at kt1
                    have HTP := Lib.hid htp
                    have HPK := Lib.hid (show p < k by omega)
                    clear htp hxr h0 hpo hbp
                    cases tp
                    · obtain ⟨pr, hpr⟩ : ∃ z, pl[r]? = some z := ⟨_, List.getElem?_eq_getElem (by rw [HPL.out]; exact hr)⟩
                      have kpr := later (OwnI.cell HP2.out (by rw [HPL.out]; exact hr) pr hpr) HW5.out
                      have hp5 := own_below HP2.out HW5.out
                      have kfr : wr.frozen? ⟨gp, r, none⟩ = false := by
                        rw [HPL.out] at hp5
                        exact hp5.frozenAt r
                      obtain ⟨z1, z2⟩ := OwnI.set (j := r) (show OwnI wr b2 (.slice (some ⟨gp, 0, none⟩) R cpp) pl from hp5) HPL.out.symm (p : Int)
                      have HZ := Lib.hid (And.intro z1 (grown_trans (grown_of_below (r := some gp) (HWW.out.bt HW5.out)) z2))
                      clear z1 z2 hp5 hpr
                      go_wp2_with fail
                      go_returns
                      refine ⟨rfl, _, HZ.out.1, Or.inr ⟨p, HPK.out, rfl, fun o' ho' hq => ?_⟩, HZ.out.2⟩
                      cases he : E r o'
                      · rfl
                      · have := (HTO5.out p hp64).2 ⟨o', ho', hq, he⟩
                        rw [← HTP.out] at this
                        cases this
                    · go_wp2_with fail
                      go_roundw
                      case rel => exact ⟨1, by omega, by go_num, HBX5.out, HW5.out⟩
                      case measure => first | omega | (simp [intOf]; done) | (simp [intOf]; omega)
                  · have d0 : decide (0 ≤ po) = false := decide_eq_false h0
                    clear h0 hxr hpo hbp
                    go_wp2_with fail
                    go_roundw
                    case rel => exact ⟨1, by omega, by go_num, HBX5.out, HW5.out⟩
                    case measure => first | omega | (simp [intOf]; done) | (simp [intOf]; omega)
                · have b1 : (x == (r : Int)) = false := by simpa using hxr
                  clear hxr hpo hbp
                  go_wp2_with fail
                  go_roundw
                  case rel => exact ⟨1, by omega, by go_num, HBX5.out, HW5.out⟩
                  case measure => first | omega | (simp [intOf]; done) | (simp [intOf]; omega)
              · subst e0
                rw [show ((1 : Nat) : Int) = 1 from rfl]
                obtain ⟨o, hoo⟩ : ∃ o : Nat, x = o := ⟨(x).toNat, by omega⟩
                have hoR : o < R := by omega
                subst hoo
                have hix0 : (Instr.index 132 (.agg #[.int .i64 (o : Nat), .int .i64 y]) (.int .i64 1)).run Tryd.prog wr = .ok (.int .i64 y) wr := by kernel_rfl
                obtain ⟨po, hpo⟩ : ∃ z, pl[o]? = some z := ⟨_, List.getElem?_eq_getElem (by rw [HPL.out]; exact hoR)⟩
                have kp := later (OwnI.cell HP2.out (by rw [HPL.out]; exact hoR) po hpo) HW5.out
                have lp := World.block_lt_of_cell? _ _ kp
                have hbp := HIN.out po (List.mem_of_getElem? hpo)
                by_cases hxr : y = (r : Int)
                · have b1 : (y == (r : Int)) = true := by simpa using hxr
                  by_cases h0 : 0 ≤ po
                  · obtain ⟨p, rfl⟩ : ∃ p : Nat, po = p := ⟨po.toNat, by omega⟩
                    have d0 : decide ((0 : Int) ≤ (p : Int)) = true := decide_eq_true h0
                    have hp64 : p < 64 := by omega
                    have ha63 := gand63 p hp64
                    obtain ⟨kt1, kt2, kt3⟩ := (HT5.out.more HW5.out).cell hp64
                    obtain ⟨tp, htp⟩ : ∃ z, z = T p := ⟨_, rfl⟩
                    rw [← htp] at kt1
                    have HTP := Lib.hid htp
                    have HPK := Lib.hid (show p < k by omega)
                    clear htp hxr h0 hpo hbp
                    cases tp
                    · obtain ⟨pr, hpr⟩ : ∃ z, pl[r]? = some z := ⟨_, List.getElem?_eq_getElem (by rw [HPL.out]; exact hr)⟩
                      have kpr := later (OwnI.cell HP2.out (by rw [HPL.out]; exact hr) pr hpr) HW5.out
                      have hp5 := own_below HP2.out HW5.out
                      have kfr : wr.frozen? ⟨gp, r, none⟩ = false := by
                        rw [HPL.out] at hp5
                        exact hp5.frozenAt r
                      obtain ⟨z1, z2⟩ := OwnI.set (j := r) (show OwnI wr b2 (.slice (some ⟨gp, 0, none⟩) R cpp) pl from hp5) HPL.out.symm (p : Int)
                      have HZ := Lib.hid (And.intro z1 (grown_trans (grown_of_below (r := some gp) (HWW.out.bt HW5.out)) z2))
                      clear z1 z2 hp5 hpr
                      go_wp2_with fail
                      go_returns
                      refine ⟨rfl, _, HZ.out.1, Or.inr ⟨p, HPK.out, rfl, fun o' ho' hq => ?_⟩, HZ.out.2⟩
                      cases he : E r o'
                      · rfl
                      · have := (HTO5.out p hp64).2 ⟨o', ho', hq, he⟩
                        rw [← HTP.out] at this
                        cases this
                    · go_wp2_with fail
                      go_roundw
                      case rel => exact ⟨2, by omega, by go_num, HBX5.out, HW5.out⟩
                      case measure => first | omega | (simp [intOf]; done) | (simp [intOf]; omega)
                  · have d0 : decide (0 ≤ po) = false := decide_eq_false h0
                    clear h0 hxr hpo hbp
                    go_wp2_with fail
                    go_roundw
                    case rel => exact ⟨2, by omega, by go_num, HBX5.out, HW5.out⟩
                    case measure => first | omega | (simp [intOf]; done) | (simp [intOf]; omega)
                · have b1 : (y == (r : Int)) = false := by simpa using hxr
                  clear hxr hpo hbp
                  go_wp2_with fail
                  go_roundw
                  case rel => exact ⟨2, by omega, by go_num, HBX5.out, HW5.out⟩
                  case measure => first | omega | (simp [intOf]; done) | (simp [intOf]; omega)
            · have e : i2 = 2 := by omega
              subst e
              go_wp2_with fail
              go_roundw
              case rel => exact ⟨j + 1, by omega, by go_num, HW5.out⟩
              case measure => first | omega | (simp [intOf]; done) | (simp [intOf]; omega)
        · have e : n = j := by omega
          subst e
          have hmin : (Builtin.min_ #[3, 3] 3 #[.int .i64 (k : Nat), .int .i64 64]).run Tryd.prog wr = .ok (.int .i64 (k : Nat)) wr := by
            have := min_n wr k 64
            rw [show min k 64 = k by omega] at this
            exact this
          go_wp2_with fail
          clear hmin
          go_loopw [90] (fun i wr => ∃ q : Nat, q ≤ k ∧ i = .int .i64 q ∧ (∀ q', q' < q → T q' = true) ∧ Below wz.heap.size wz wr) (fun i _ => k - (intOf i).toNat)
          case atStart => exact ⟨0, by omega, rfl, fun q' hq => by omega, HW4.out⟩
          case round =>
            obtain ⟨q, hq, rfl, hall, hb5⟩ := hrel
            have HAl := Lib.hid hall
            have HW5 := Lib.hid hb5
            clear hall hb5 HW4
            by_cases hltq : q < k
            · have hp64 : q < 64 := by omega
              obtain ⟨kt1, kt2, kt3⟩ := (HT5.out.more HW5.out).cell hp64
              obtain ⟨tp, htp⟩ : ∃ z, z = T q := ⟨_, rfl⟩
              rw [← htp] at kt1
              have HTP := Lib.hid htp
              clear htp
              cases tp
              · obtain ⟨pr, hpr⟩ : ∃ z, pl[r]? = some z := ⟨_, List.getElem?_eq_getElem (by rw [HPL.out]; exact hr)⟩
                have kpr := later (OwnI.cell HP2.out (by rw [HPL.out]; exact hr) pr hpr) HW5.out
                have lpr := World.block_lt_of_cell? _ _ kpr
                have hp5 := own_below HP2.out HW5.out
                have kfr : wr.frozen? ⟨gp, r, none⟩ = false := by
                  rw [HPL.out] at hp5
                  exact hp5.frozenAt r
                obtain ⟨z1, z2⟩ := OwnI.set (j := r) (show OwnI wr b2 (.slice (some ⟨gp, 0, none⟩) R cpp) pl from hp5) HPL.out.symm (q : Int)
                have HZ := Lib.hid (And.intro z1 (grown_trans (grown_of_below (r := some gp) (HWW.out.bt HW5.out)) z2))
                clear z1 z2 hp5 hpr
                go_wp2_with fail
                go_returns
                refine ⟨rfl, _, HZ.out.1, Or.inr ⟨q, hltq, rfl, fun o' ho' hq => ?_⟩, HZ.out.2⟩
                cases he : E r o'
                · rfl
                · have := (HTO5.out q hp64).2 ⟨o', ho', hq, he⟩
                  rw [← HTP.out] at this
                  cases this
              · have HAll := Lib.hid (show ∀ q', q' < q + 1 → T q' = true from fun q' hq' => by
                  by_cases e : q' = q
                  · rw [e]; exact HTP.out.symm
                  · exact HAl.out q' (by omega))
                go_wp2_with fail
                go_roundw
                case rel => exact ⟨q + 1, by omega, by go_num, HAll.out, HW5.out⟩
                case measure => first | omega | (simp [intOf]; done) | (simp [intOf]; omega)
            · have e : k = q := by omega
              subst e
              go_wp2_with fail
              go_returns
              refine ⟨pl, rfl, own_below HP2.out HW5.out, Or.inl ⟨rfl, fun h0 => ?_⟩, grown_of_below (HWW.out.bt HW5.out)⟩
              obtain ⟨i, h1, _, h3⟩ := (HTO5.out 0 (by omega)).1 (HAl.out 0 h0)
              exact ⟨i, h1, h3⟩
end
end Go.Proofs.YtbogcompeefoaaaDoor
