/- Walks: may a global be? No condition. -/
import Derived.Test.YtdaildpfkchbhaaDoorRt
namespace Go.Proofs.YtdaildpfkchbhaaDoor
open Go.RowKit
set_option linter.unusedVariables false
set_option maxHeartbeats 2000000
/-- a part takes its bytes of what is left -/
def stepP (nf : Int) (left : Int) (y : PartD) : Option Int :=
  if y.kind = 0 then (if (y.data.length : Int) ≤ left then some (left - y.data.length) else none)
  else if y.kind = 1 then (if 0 ≤ y.n ∧ y.n < nf ∧ 8 ≤ left then some (left - 8) else none)
  else if y.kind = 2 ∨ y.kind = 3 then (if 0 ≤ y.n ∧ y.n ≤ left then some (left - y.n) else none)
  else none
def foldP (nf : Int) (left : Option Int) (l : List PartD) : Option Int := l.foldl (fun o y => o.bind fun x => stepP nf x y) left
theorem foldP_take {nf : Int} {left : Option Int} {l : List PartD} {k : Nat} {y : PartD} (h : l[k]? = some y) : foldP nf left (l.take (k + 1)) = (foldP nf left (l.take k)).bind fun x => stepP nf x y := by
  unfold foldP; rw [List.take_add_one, h]; simp
theorem foldP_none (nf : Int) : ∀ l : List PartD, foldP nf none l = none
  | [] => rfl
  | _ :: l => foldP_none nf l
theorem foldP_no {nf : Int} {left : Option Int} {l : List PartD} {k : Nat} (h : foldP nf left (l.take k) = none) : foldP nf left l = none := by
  have e : foldP nf left l = foldP nf (foldP nf left (l.take k)) (l.drop k) := by
    unfold foldP
    rw [← List.foldl_append, List.take_append_drop]
  rw [e, h, foldP_none]
/-- does a global lie in the data, and have as many bytes as its parts? -/
def placedB (data nf : Int) (g : GlobD) : Bool := decide (0 ≤ g.at_ ∧ 0 ≤ g.size ∧ g.size ≤ data ∧ g.at_ ≤ data - g.size ∧ foldP nf (some g.size) g.parts = some 0)
def BoolIs (w : World) (b : Bool) (e : Ending) (w' : World) : Prop := e = .returned (.bool b) ∧ Below w.heap.size w w'
theorem placedB_no {data nf : Int} {g : GlobD} (h : ¬ (0 ≤ g.at_ ∧ 0 ≤ g.size ∧ g.size ≤ data ∧ g.at_ ≤ data - g.size ∧ foldP nf (some g.size) g.parts = some 0)) : placedB data nf g = false := by unfold placedB; exact decide_eq_false h
set_option maxRecDepth 100000 in
theorem placed_iff (W0 w : World) (h0 : Below W0.heap.size W0 w) (pb : Nat) (g : GlobD) (vp : Value) (data : Int) (vf : Value) (fs : List FuncD) (c0 : w.cell? ⟨pb, 0, none⟩ = some vf) (c2 : w.cell? ⟨pb, 2, none⟩ = some (.int .i64 data)) (hd : In64 data)
    (hf : SlR W0 6 (FuncR W0) vf fs) (hat : In64 g.at_) (hsz : In64 g.size) (hp : SlR W0 3 (PartR W0) vp g.parts) (hpl : g.parts.length ≤ 140737488351232) :
    Calls Tryd.prog 31 #[.pointer (some ⟨pb, 0, none⟩), .agg #[.string g.name, .int .i64 g.at_, .int .i64 g.size, vp]] w (BoolIs w (placedB data fs.length g)) := by
  obtain ⟨A, cap, rfl, l1, l2, l3⟩ := hp
  obtain ⟨A2, cap2, rfl, m1, m2, _⟩ := hf
  have hln : fs.length ≤ 9223372036854775807 := by unfold maxLen at m2; omega
  have HL := Lib.hid l3
  have H0 := Lib.hid h0
  obtain ⟨q1, q2⟩ := hat
  obtain ⟨q3, q4⟩ := hsz
  obtain ⟨q5, q6⟩ := hd
  have K0 := Lib.hid c0
  have b0 := World.block_lt_of_cell? _ _ c0
  have hcase : (decide (g.at_ < 0) = true) ∨ (decide (g.at_ < 0) = false ∧ decide (g.size < 0) = true) ∨ (decide (g.at_ < 0) = false ∧ decide (g.size < 0) = false ∧ decide (data < g.size) = true) ∨
      (0 ≤ g.size ∧ g.size ≤ data ∧ decide (g.at_ < 0) = false ∧ decide (g.size < 0) = false ∧ decide (data < g.size) = false ∧ decide (data - g.size < g.at_) = true) ∨ (0 ≤ g.size ∧ g.size ≤ data ∧ decide (g.at_ < 0) = false ∧ decide (g.size < 0) = false ∧ decide (data < g.size) = false ∧ decide (data - g.size < g.at_) = false) := by
    by_cases h1 : g.at_ < 0
    · exact Or.inl (decide_eq_true h1)
    · by_cases h2 : g.size < 0
      · exact Or.inr (Or.inl ⟨decide_eq_false h1, decide_eq_true h2⟩)
      · by_cases h3 : data < g.size
        · exact Or.inr (Or.inr (Or.inl ⟨decide_eq_false h1, decide_eq_false h2, decide_eq_true h3⟩))
        · by_cases h4 : data - g.size < g.at_
          · exact Or.inr (Or.inr (Or.inr (Or.inl ⟨by omega, by omega, decide_eq_false h1, decide_eq_false h2, decide_eq_false h3, decide_eq_true h4⟩)))
          · exact Or.inr (Or.inr (Or.inr (Or.inr ⟨by omega, by omega, decide_eq_false h1, decide_eq_false h2, decide_eq_false h3, decide_eq_false h4⟩)))
  clear l3 h0 l1 m1
  have hsm : ∀ {z : Int}, foldP fs.length (some g.size) g.parts = some z → True := fun _ => trivial
  clear hsm
  rcases hcase with d1 | ⟨d1, d2⟩ | ⟨d1, d2, d3⟩ | ⟨s1, s2, d1, d2, d3, d4⟩ | ⟨s1, s2, d1, d2, d3, d4⟩
  · have hno : placedB data fs.length g = false := placedB_no (fun h => by have := of_decide_eq_true d1; omega)
    rw [hno]
    clear hno
    go_enter Tryd.func31, Tryd.ntmps31
    go_wp2_with fail
    go_quiet (fail)
    go_wp2_with fail
    go_returns
    exact ⟨rfl, below_drewN (below_alloc _ (Below.refl _ _)) _⟩
  · have hno : placedB data fs.length g = false := placedB_no (fun h => by have := of_decide_eq_true d2; omega)
    rw [hno]
    clear hno
    go_enter Tryd.func31, Tryd.ntmps31
    go_wp2_with fail
    go_quiet (fail)
    go_wp2_with fail
    go_returns
    exact ⟨rfl, below_drewN (below_alloc _ (Below.refl _ _)) _⟩
  · have hno : placedB data fs.length g = false := placedB_no (fun h => by have := of_decide_eq_true d3; omega)
    rw [hno]
    clear hno
    go_enter Tryd.func31, Tryd.ntmps31
    go_wp2_with fail
    go_quiet (fail)
    go_wp2_with fail
    go_returns
    exact ⟨rfl, below_drewN (below_alloc _ (Below.refl _ _)) _⟩
  · have hno : placedB data fs.length g = false := placedB_no (fun h => by have := of_decide_eq_true d4; omega)
    rw [hno]
    have hw := IntWalk.i64_in (data - g.size) (by omega)
    clear hno
    go_enter Tryd.func31, Tryd.ntmps31
    go_wp2_with fail
    go_quiet (fail)
    go_wp2_with fail
    go_returns
    exact ⟨rfl, below_drewN (below_alloc _ (Below.refl _ _)) _⟩
  · have hw := IntWalk.i64_in (data - g.size) (by omega)
    obtain ⟨pb0, hpb⟩ : ∃ z, z = placedB data fs.length g := ⟨_, rfl⟩
    have HPB := Lib.hid (show placedB data fs.length g = decide (foldP fs.length (some g.size) g.parts = some 0) by
      unfold placedB
      rw [decide_eq_decide]
      have h1 := of_decide_eq_false d1
      have h4 := of_decide_eq_false d4
      exact ⟨fun h => h.2.2.2.2, fun h => ⟨by omega, s1, s2, by omega, h⟩⟩)
    rw [← hpb] at HPB ⊢
    clear hpb
    obtain ⟨nf, hnf⟩ : ∃ z : Int, z = (fs.length : Int) := ⟨_, rfl⟩
    have HNF := Lib.hid hnf
    rw [← hnf] at HPB
    clear hnf
    go_enter Tryd.func31, Tryd.ntmps31
    go_wp2_with fail
    go_quiet (fail)
    clear hw
    obtain ⟨n, hn⟩ : ∃ n, n = g.parts.length := ⟨_, rfl⟩
    rw [← hn] at hpl ⊢
    have HN := Lib.hid hn
    clear hn
    go_wp2_with fail
    go_loopw [5, 43] (fun l i wr => ∃ (k : Nat) (x : Int), k ≤ n ∧ i = .int .i64 k ∧ l = .int .i64 x ∧ 0 ≤ x ∧ x ≤ g.size ∧ foldP nf (some g.size) (g.parts.take k) = some x ∧ Below w.heap.size w wr) (fun _ i _ => n - (intOf i).toNat)
    case atStart => exact ⟨0, g.size, by omega, rfl, rfl, s1, Int.le_refl _, rfl, below_drewN (below_alloc _ (Below.refl _ _)) _⟩
    case round =>
      obtain ⟨k, x, hk, rfl, rfl, hx0, hxs, hfo, hb⟩ := hrel
      have HB := Lib.hid hb
      have HFo := Lib.hid hfo
      have k0 := later K0.out hb
      have b1 := World.block_lt_of_cell? _ _ k0
      clear hb hfo
      by_cases hlt : k < n
      · obtain ⟨y, hy⟩ : ∃ y, g.parts[k]? = some y := ⟨_, List.getElem?_eq_getElem (by rw [← HN.out]; exact hlt)⟩
        obtain ⟨lb, lo, cs, rfl, e1, e2, vd, e3, n1, n2, n3, n4⟩ := HL.out k y hy
        subst e3
        have HB0 := Lib.hid (H0.out.trans (HB.out.mono H0.out.size))
        have r0 := later (e2 0 (by omega)) HB0.out
        have r1 := later (e2 1 (by omega)) HB0.out
        have r2 := later (e2 2 (by omega)) HB0.out
        rw [Nat.add_zero] at r0
        obtain ⟨A3, cap3, rfl, z1, z2, _⟩ := n2
        have hdl : y.data.length ≤ 9223372036854775807 := by omega
        obtain ⟨n5, n6⟩ := n4
        have HSt := Lib.hid (show foldP nf (some g.size) (g.parts.take (k + 1)) = stepP nf x y by rw [foldP_take hy, HFo.out]; rfl)
        have HNo := Lib.hid (fun h : stepP nf x y = none => show pb0 = false by
          rw [HPB.out, foldP_no (HSt.out.trans h)]; rfl)
        clear e1 e2 hy z1 z2
        have hkind : y.kind = 0 ∨ y.kind = 1 ∨ y.kind = 2 ∨ y.kind = 3 ∨ ((y.kind == 0) = false ∧ (y.kind == 1) = false ∧ (y.kind == 2) = false ∧ (y.kind == 3) = false) := by simp; omega
        have hnfl : nf = (fs.length : Int) := HNF.out
        have HQ := Lib.hid hnfl
        rcases hkind with hk1 | hk1 | hk1 | hk1 | ⟨q0, q1, q2, q3⟩
        · have HK := Lib.hid hk1
          rw [hk1] at r0
          clear hk1 hnfl
          by_cases h : (y.data.length : Int) ≤ x
          · have H := Lib.hid h
            have HS := Lib.hid (show foldP nf (some g.size) (g.parts.take (k + 1)) = some (x - y.data.length) by rw [HSt.out]; unfold stepP; rw [if_pos HK.out, if_pos h])
            clear HNo HSt
            go_wp2_with fail
            go_roundw
            case rel => exact ⟨k + 1, _, by omega, by go_num, rfl, by omega, by omega, HS.out, below_alloc _ HB.out⟩
            case measure => simp [intOf]; omega
          · have H := Lib.hid h
            have HS := Lib.hid (HNo.out (by unfold stepP; rw [if_pos HK.out, if_neg h]))
            clear HNo HSt
            go_wp2_with fail
            go_returns
            exact ⟨ret_bool HS.out.symm, below_alloc _ HB.out⟩
        · have HK := Lib.hid hk1
          have HK0 := Lib.hid (show ¬ y.kind = 0 by omega)
          rw [hk1] at r0
          clear hk1
          by_cases h1 : y.n < 0
          · have H := Lib.hid h1
            clear hnfl
            have HS := Lib.hid (HNo.out (by unfold stepP; rw [if_neg HK0.out, if_pos HK.out, if_neg (by have := H.out; omega)]))
            clear HNo HSt
            go_wp2_with fail
            go_returns
            exact ⟨ret_bool HS.out.symm, below_alloc _ HB.out⟩
          · by_cases h2 : (fs.length : Int) ≤ y.n
            · have H := Lib.hid h2
              clear hnfl
              have HS := Lib.hid (HNo.out (by unfold stepP; rw [if_neg HK0.out, if_pos HK.out, if_neg (by have := H.out; have := HQ.out; omega)]))
              clear HNo HSt
              go_wp2_with fail
              go_returns
              exact ⟨ret_bool HS.out.symm, below_alloc _ HB.out⟩
            · by_cases h3 : 8 ≤ x
              · have H := Lib.hid (And.intro h1 (And.intro h2 h3))
                clear hnfl
                have HS := Lib.hid (show foldP nf (some g.size) (g.parts.take (k + 1)) = some (x - 8) by rw [HSt.out]; unfold stepP; rw [if_neg HK0.out, if_pos HK.out, if_pos (by have := H.out; have := HQ.out; omega)])
                clear HNo HSt
                go_wp2_with fail
                go_roundw
                case rel => exact ⟨k + 1, _, by omega, by go_num, rfl, by omega, by omega, HS.out, below_alloc _ HB.out⟩
                case measure => simp [intOf]; omega
              · have H := Lib.hid h3
                clear hnfl
                have HS := Lib.hid (HNo.out (by unfold stepP; rw [if_neg HK0.out, if_pos HK.out, if_neg (by have := H.out; omega)]))
                clear HNo HSt
                go_wp2_with fail
                go_returns
                exact ⟨ret_bool HS.out.symm, below_alloc _ HB.out⟩
        · have HK := Lib.hid hk1
          have HK0 := Lib.hid (show ¬ y.kind = 0 ∧ ¬ y.kind = 1 by omega)
          rw [hk1] at r0
          clear hk1 hnfl
          by_cases h1 : y.n < 0
          · have H := Lib.hid h1
            have HS := Lib.hid (HNo.out (by unfold stepP; rw [if_neg HK0.out.1, if_neg HK0.out.2, if_pos (Or.inl HK.out), if_neg (by have := H.out; omega)]))
            clear HNo HSt
            go_wp2_with fail
            go_returns
            exact ⟨ret_bool HS.out.symm, below_alloc _ HB.out⟩
          · by_cases h2 : y.n ≤ x
            · have H := Lib.hid (And.intro h1 h2)
              have HS := Lib.hid (show foldP nf (some g.size) (g.parts.take (k + 1)) = some (x - y.n) by rw [HSt.out]; unfold stepP; rw [if_neg HK0.out.1, if_neg HK0.out.2, if_pos (Or.inl HK.out), if_pos (by have := H.out; omega)])
              clear HNo HSt
              go_wp2_with fail
              go_roundw
              case rel => exact ⟨k + 1, _, by omega, by go_num, rfl, by omega, by omega, HS.out, below_alloc _ HB.out⟩
              case measure => simp [intOf]; omega
            · have H := Lib.hid h2
              have HS := Lib.hid (HNo.out (by unfold stepP; rw [if_neg HK0.out.1, if_neg HK0.out.2, if_pos (Or.inl HK.out), if_neg (by have := H.out; omega)]))
              clear HNo HSt
              go_wp2_with fail
              go_returns
              exact ⟨ret_bool HS.out.symm, below_alloc _ HB.out⟩
        · have HK := Lib.hid hk1
          have HK0 := Lib.hid (show ¬ y.kind = 0 ∧ ¬ y.kind = 1 by omega)
          rw [hk1] at r0
          clear hk1 hnfl
          by_cases h1 : y.n < 0
          · have H := Lib.hid h1
            have HS := Lib.hid (HNo.out (by unfold stepP; rw [if_neg HK0.out.1, if_neg HK0.out.2, if_pos (Or.inr HK.out), if_neg (by have := H.out; omega)]))
            clear HNo HSt
            go_wp2_with fail
            go_returns
            exact ⟨ret_bool HS.out.symm, below_alloc _ HB.out⟩
          · by_cases h2 : y.n ≤ x
            · have H := Lib.hid (And.intro h1 h2)
              have HS := Lib.hid (show foldP nf (some g.size) (g.parts.take (k + 1)) = some (x - y.n) by rw [HSt.out]; unfold stepP; rw [if_neg HK0.out.1, if_neg HK0.out.2, if_pos (Or.inr HK.out), if_pos (by have := H.out; omega)])
              clear HNo HSt
              go_wp2_with fail
              go_roundw
              case rel => exact ⟨k + 1, _, by omega, by go_num, rfl, by omega, by omega, HS.out, below_alloc _ HB.out⟩
              case measure => simp [intOf]; omega
            · have H := Lib.hid h2
              have HS := Lib.hid (HNo.out (by unfold stepP; rw [if_neg HK0.out.1, if_neg HK0.out.2, if_pos (Or.inr HK.out), if_neg (by have := H.out; omega)]))
              clear HNo HSt
              go_wp2_with fail
              go_returns
              exact ⟨ret_bool HS.out.symm, below_alloc _ HB.out⟩
        · have HK := Lib.hid (show ¬ y.kind = 0 ∧ ¬ y.kind = 1 ∧ ¬ (y.kind = 2 ∨ y.kind = 3) by simp at q0 q1 q2 q3; omega)
          clear hnfl
          have HS := Lib.hid (HNo.out (by unfold stepP; rw [if_neg HK.out.1, if_neg HK.out.2.1, if_neg HK.out.2.2]))
          clear HNo HSt
          go_wp2_with fail
          go_returns
          exact ⟨ret_bool HS.out.symm, below_alloc _ HB.out⟩
      · have e : k = n := by omega
        have HEn := Lib.hid (show pb0 = (x == 0) by
          rw [HPB.out]
          have := HFo.out
          rw [e, HN.out, List.take_length] at this
          rw [this, Bool.eq_iff_iff]
          simp)
        subst e
        go_wp2_with fail
        go_returns
        exact ⟨ret_bool HEn.out.symm, HB.out⟩
end Go.Proofs.YtdaildpfkchbhaaDoor
