/- Walks: graph's pick. No condition. -/
import Derived.Test.YtegnaeinpacafaaGr5
namespace Go.Proofs.Ytegnaeinpacafaa
open Go.RowKit
set_option linter.unusedVariables false
set_option maxHeartbeats 4000000
theorem own_at {w : World} {b : Nat} {v : Value} {l : List Int} (h : OwnI w b v l) (hl : 0 < l.length) : ∃ g cap, v = .slice (some ⟨g, 0, none⟩) l.length cap := by
  obtain ⟨g, cap, e, _⟩ := own_form h hl
  exact ⟨g, cap, e⟩
set_option maxRecDepth 100000 in
theorem pick_any (w : World) (base R : Nat) (lv : Value) (S : Nat → Bool) (hs : SetB w base lv R S) (hR : R ≤ 1000000) (b1 b2 : Nat) (dv uv : Value) (ds us : List Int) (hd : OwnI w b1 dv ds) (hdl : ds.length = R) (hu : OwnI w b2 uv us) (hul : us.length = R) (k : Int) (hx : ∃ i, i < R ∧ S i = true) :
    Calls Try.prog 36 #[lv, dv, uv, .int .i64 k] w fun e w' => ∃ r : Nat, r < R ∧ S r = true ∧ e = .returned (.int .i64 (r : Nat)) ∧ Below w.heap.size w w' := by
  have hR0 : 0 < R := by obtain ⟨i, h, _⟩ := hx; omega
  obtain ⟨gd, cd, hdv⟩ := own_at hd (by omega)
  obtain ⟨gu, cu, huv⟩ := own_at hu (by omega)
  rw [hdl] at hdv
  rw [hul] at huv
  subst hdv huv
  have HS := Lib.hid hs
  have HD := Lib.hid hd
  have HU := Lib.hid hu
  have HL := Lib.hid (And.intro hdl hul)
  have HX := Lib.hid hx
  clear hs hd hu hdl hul hx
  go_enter Try.func36, Try.ntmps36
  go_wp2_with fail
  go_loopw [13, 9] (fun i b wr => ∃ (j : Nat) (bi : Int), j ≤ R ∧ i = .int .i64 j ∧ b = .int .i64 bi ∧ ((bi = -1 ∧ ∀ i, i < j → S i = false) ∨ ∃ bn : Nat, bi = bn ∧ bn < R ∧ S bn = true) ∧ Below w.heap.size w wr) (fun i _ _ => R - (intOf i).toNat)
  case atStart => exact ⟨0, -1, by omega, rfl, rfl, Or.inl ⟨rfl, fun i hi => by omega⟩, Below.refl _ _⟩
  case round =>
    obtain ⟨j, bi, hj, rfl, rfl, hb, hw⟩ := hrel
    have HB := Lib.hid hb
    have HW := Lib.hid hw
    clear hb hw
    by_cases hlt : j < R
    · have HH := Lib.hid (has_b wr j (HS.out.more HW.out) hR hlt)
      obtain ⟨dj, hdj⟩ : ∃ z, ds[j]? = some z := ⟨_, List.getElem?_eq_getElem (by rw [HL.out.1]; exact hlt)⟩
      obtain ⟨uj, huj⟩ : ∃ z, us[j]? = some z := ⟨_, List.getElem?_eq_getElem (by rw [HL.out.2]; exact hlt)⟩
      have kd := later (OwnI.cell HD.out (by rw [HL.out.1]; exact hlt) dj hdj) HW.out
      have ku := later (OwnI.cell HU.out (by rw [HL.out.2]; exact hlt) uj huj) HW.out
      have ld := World.block_lt_of_cell? _ _ kd
      have lu := World.block_lt_of_cell? _ _ ku
      obtain ⟨sj, hsj⟩ : ∃ z, z = S j := ⟨_, rfl⟩
      have HH2 := HH.out
      rw [← hsj] at HH2
      have HH := Lib.hid HH2
      have HSJ := Lib.hid hsj
      clear HH2 hsj hdj huj
      cases sj
      · go_wp2_with fail
        refine HH.out.mono ?_
        rintro e w7 ⟨rfl, rfl⟩
        go_wp2_with fail
        go_roundw
        case rel => exact ⟨j + 1, bi, by omega, by go_num, rfl, (by
          rcases HB.out with ⟨h1, h2⟩ | h
          · exact Or.inl ⟨h1, fun i hi => by
              by_cases e : i = j
              · rw [e]; exact HSJ.out.symm
              · exact h2 i (by omega)⟩
          · exact Or.inr h), HW.out⟩
        case measure => first | omega | (simp [intOf]; done) | (simp [intOf]; omega)
      · by_cases hdk : dj < k
        · have d1 : decide (dj < k) = true := decide_eq_true hdk
          clear hdk
          go_wp2_with fail
          refine HH.out.mono ?_
          rintro e w7 ⟨rfl, rfl⟩
          go_wp2_with fail
          go_returns
          exact ⟨j, hlt, HSJ.out.symm, rfl, HW.out⟩
        · have d1 : decide (dj < k) = false := decide_eq_false hdk
          have HDone := Lib.hid (show ((j : Nat) : Int) = -1 ∧ (∀ i, i < j + 1 → S i = false) ∨ ∃ bn : Nat, ((j : Nat) : Int) = bn ∧ bn < R ∧ S bn = true from Or.inr ⟨j, rfl, hlt, HSJ.out.symm⟩)
          clear hdk
          by_cases hneg : bi < 0
          · have d2 : decide (bi < 0) = true := decide_eq_true hneg
            clear hneg
            go_wp2_with fail
            refine HH.out.mono ?_
            rintro e w7 ⟨rfl, rfl⟩
            go_wp2_with fail
            go_quiet (fail)
            go_wp2_with fail
            go_roundw
            case rel => exact ⟨j + 1, j, by omega, by go_num, rfl, HDone.out, below_drewN HW.out _⟩
            case measure => first | omega | (simp [intOf]; done) | (simp [intOf]; omega)
          · have hbn : ∃ bn : Nat, bi = bn ∧ bn < R ∧ S bn = true := by
              rcases HB.out with ⟨h1, _⟩ | h
              · omega
              · exact h
            obtain ⟨bn, rfl, hbR, hbS⟩ := hbn
            have d2 : decide ((bn : Int) < 0) = false := decide_eq_false hneg
            obtain ⟨db, hdb⟩ : ∃ z, ds[bn]? = some z := ⟨_, List.getElem?_eq_getElem (by rw [HL.out.1]; exact hbR)⟩
            obtain ⟨ub, hub⟩ : ∃ z, us[bn]? = some z := ⟨_, List.getElem?_eq_getElem (by rw [HL.out.2]; exact hbR)⟩
            have kd2 := later (OwnI.cell HD.out (by rw [HL.out.1]; exact hbR) db hdb) HW.out
            have ku2 := later (OwnI.cell HU.out (by rw [HL.out.2]; exact hbR) ub hub) HW.out
            have HBn := Lib.hid (And.intro hbR hbS)
            clear hneg hdb hub hbS
            go_wp2_with fail
            refine HH.out.mono ?_
            rintro e w7 ⟨rfl, rfl⟩
            go_wp2_with fail
            go_quiet (fail)
            go_wp2_with fail
            all_goals go_roundw
            all_goals first
              | exact ⟨j + 1, j, by omega, by go_num, rfl, HDone.out, below_drewN HW.out _⟩
              | exact ⟨j + 1, bn, by omega, by go_num, rfl, Or.inr ⟨bn, rfl, HBn.out.1, HBn.out.2⟩, below_drewN HW.out _⟩
              | (simp [intOf]; omega)
    · have e : R = j := by omega
      subst e
      have hbn : ∃ bn : Nat, bi = bn ∧ bn < R ∧ S bn = true := by
        rcases HB.out with ⟨h1, h2⟩ | h
        · obtain ⟨i, h3, h4⟩ := HX.out
          rw [h2 i h3] at h4; cases h4
        · exact h
      obtain ⟨bn, rfl, hbR, hbS⟩ := hbn
      have HBn := Lib.hid (And.intro hbR hbS)
      clear hbS
      go_wp2_with fail
      go_returns
      exact ⟨bn, HBn.out.1, HBn.out.2, rfl, HW.out⟩
end Go.Proofs.Ytegnaeinpacafaa
