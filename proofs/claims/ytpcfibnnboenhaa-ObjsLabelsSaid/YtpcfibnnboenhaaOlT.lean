/- A table of structs as it stands in memory; what it tells of a number; sizes. No condition. -/
import Derived.Test.YtpcfibnnboenhaaOlP
import Derived.Test.YtpcfibnnboenhaaRcd
namespace Go.Proofs.Ytpcfibnnboenhaa
open Go.RowKit
set_option linter.unusedVariables false
set_option maxHeartbeats 2000000
def FldR (w : World) (cs : List Value) (f : FldP) : Prop := ∃ ds, cs = .string f.name :: ds ++ [.int .i64 f.at_] ∧ ds.length = 9 ∧ TyC w (fun _ => True) f.ty ds ∧ In64 f.at_
def TrecR (w : World) (cs : List Value) (r : RecP) : Prop := ∃ vf, cs = [.string r.name, vf, .int .i64 r.size, .int .i64 r.align] ∧ SlR w 11 (FldR w) vf r.fields ∧ In64 r.size ∧ In64 r.align ∧ r.fields.length ≤ 1000000
theorem FldR.later {w w' : World} {cs : List Value} {f : FldP} (h : FldR w cs f) (hb : Below w.heap.size w w') : FldR w' cs f := by
  obtain ⟨ds, h1, h2, h3, h4⟩ := h
  exact ⟨ds, h1, h2, h3.later hb, h4⟩
theorem SlR.weaken {α : Type} {w : World} {C : Nat} {R R' : List Value → α → Prop} {v : Value} {l : List α} (h : SlR w C R v l) (hR : ∀ cs x, R cs x → R' cs x) : SlR w C R' v l := by
  obtain ⟨A, cap, e, h1, h2, h3⟩ := h
  refine ⟨A, cap, e, h1, h2, fun i x hi => ?_⟩
  obtain ⟨b, o, cs, k1, k2, k3, k4⟩ := h3 i x hi
  exact ⟨b, o, cs, k1, k2, k3, hR cs x k4⟩
theorem TrecR.later {w w' : World} {cs : List Value} {r : RecP} (h : TrecR w cs r) (hb : Below w.heap.size w w') : TrecR w' cs r := by
  obtain ⟨vf, h1, h2, h3, h4⟩ := h
  exact ⟨vf, h1, (h2.later (by decide) hb).weaken (fun cs x hx => hx.later hb), h3, h4⟩
/-- the table at block p -/
def TabC (w : World) (p : Nat) (tab : List RecP) : Prop := ∃ v, w.heap[p]? = some (.cells #[v] 30 (0, 0)) ∧ SlR w 4 (TrecR w) v tab ∧ tab.length ≤ 1000000
theorem TabC.later {w w' : World} {p : Nat} {tab : List RecP} (h : TabC w p tab) (hb : Below w.heap.size w w') : TabC w' p tab := by
  obtain ⟨v, h1, h2, h3⟩ := h
  exact ⟨v, blk_below h1 hb, (h2.later (by decide) hb).weaken (fun cs x hx => hx.later hb), h3⟩
def TrecV (w : World) (r : RecP) (e : Ending) (w' : World) : Prop := ∃ vf, e = .returned (.agg #[.string r.name, vf, .int .i64 r.size, .int .i64 r.align]) ∧ SlR w' 11 (FldR w') vf r.fields ∧ r.fields.length ≤ 1000000 ∧ Below w.heap.size w w'
theorem slR_nil {α : Type} (w : World) (C : Nat) (R : List Value → α → Prop) : SlR w C R (.slice none 0 0) [] := ⟨none, 0, rfl, by simp, by decide, fun i x h => by simp at h⟩
theorem none_ret (w : World) : TrecV w recNone (.returned (.agg #[.string ⟨#[]⟩, .slice none 0 0, .int .i64 0, .int .i64 1])) (w.alloc (.cells #[.string ⟨#[]⟩, .slice none 0 0, .int .i64 0, .int .i64 1] 69)) :=
  ⟨_, rfl, slR_nil _ _ _, by decide, below_alloc _ (Below.refl _ _)⟩
theorem record_any (w : World) (p : Nat) (tab : List RecP) (k : Int) (hT : TabC w p tab) (hk : In64 k) :
    Calls Try.prog 21 #[.pointer (some ⟨p, 0, none⟩), .int .i64 k] w (TrecV w (recT tab k)) := by
  obtain ⟨v, h1, h2, h3⟩ := hT
  obtain ⟨A, cap, rfl, k1, k2, k3⟩ := h2
  have HS := Lib.hid k3
  have HP := Lib.hid h1
  have c0 := blk_cell (i := 0) (blk_alloc h1 (.cells #[.string ⟨#[]⟩, .slice none 0 0, .int .i64 0, .int .i64 0] 69)) rfl
  have lp := blk_lt h1
  clear k3 h1
  by_cases hn : k < 0
  · have dn : decide (k < 0) = true := decide_eq_true hn
    go_enter Try.func21, Try.ntmps21
    go_wp2_with fail
    have hk0 : recT tab k = recNone := by unfold recT; rw [if_neg (by omega)]
    rw [hk0]
    have kn := blk_new w (.cells #[.string ⟨#[]⟩, .slice none 0 0, .int .i64 0, .int .i64 1] 69)
    have q0 := blk_cell (i := 0) kn rfl
    have q1 := blk_cell (i := 1) kn rfl
    have q2 := blk_cell (i := 2) kn rfl
    have q3 := blk_cell (i := 3) kn rfl
    refine bodyPost_ret (v := .agg #[.string ⟨#[]⟩, .slice none 0 0, .int .i64 0, .int .i64 1]) (by simp [results, Try.results21, go_sem, q0, q1, q2, q3]; try rfl) rfl (none_ret w)
  have dn : decide (k < 0) = false := decide_eq_false hn
  by_cases hl : (tab.length : Int) ≤ k
  · have dl : decide (k ≥ (tab.length : Int)) = true := decide_eq_true hl
    have hk0 : recT tab k = recNone := by unfold recT; rw [if_pos (by omega), List.getD_eq_getElem?_getD, List.getElem?_eq_none (by omega)]; rfl
    rw [hk0]
    go_enter Try.func21, Try.ntmps21
    go_wp2_with fail
    have kn := blk_new w (.cells #[.string ⟨#[]⟩, .slice none 0 0, .int .i64 0, .int .i64 1] 69)
    have q0 := blk_cell (i := 0) kn rfl
    have q1 := blk_cell (i := 1) kn rfl
    have q2 := blk_cell (i := 2) kn rfl
    have q3 := blk_cell (i := 3) kn rfl
    refine bodyPost_ret (v := .agg #[.string ⟨#[]⟩, .slice none 0 0, .int .i64 0, .int .i64 1]) (by simp [results, Try.results21, go_sem, q0, q1, q2, q3]; try rfl) rfl (none_ret w)
  · have dl : decide (k ≥ (tab.length : Int)) = false := decide_eq_false hl
    obtain ⟨i, rfl⟩ : ∃ i : Nat, k = i := ⟨k.toNat, by omega⟩
    obtain ⟨r, hr⟩ : ∃ r, tab[i]? = some r := ⟨_, List.getElem?_eq_getElem (by omega)⟩
    have hk0 : recT tab (i : Int) = r := by unfold recT; rw [if_pos (by omega), Int.toNat_natCast, List.getD_eq_getElem?_getD, hr]; rfl
    rw [hk0]
    obtain ⟨b, o, cs, rfl, g2, g3, vf, rfl, r1, r2, r3⟩ := HS.out i r hr
    obtain ⟨A5, c5, rfl, m1, m2, m3⟩ := r1
    have HF := Lib.hid (show SlR w 11 (FldR w) (.slice A5 r.fields.length c5) r.fields from ⟨A5, c5, rfl, m1, m2, m3⟩)
    have z0 : w.cell? ⟨b, o + i * 4, none⟩ = some (.string r.name) := g3 0 (by decide)
    have z1 : w.cell? ⟨b, o + i * 4 + 1, none⟩ = some (.slice A5 r.fields.length c5) := g3 1 (by decide)
    have z2 : w.cell? ⟨b, o + i * 4 + 2, none⟩ = some (.int .i64 r.size) := g3 2 (by decide)
    have z3 : w.cell? ⟨b, o + i * 4 + 3, none⟩ = some (.int .i64 r.align) := g3 3 (by decide)
    have hlx := World.block_lt_of_cell? _ _ z0
    clear m1 m2 m3 g3
    go_enter Try.func21, Try.ntmps21
    go_wp2_with fail
    have kn := blk_new w (.cells #[.string r.name, .slice A5 r.fields.length c5, .int .i64 r.size, .int .i64 r.align] 69)
    have q0 := blk_cell (i := 0) kn rfl
    have q1 := blk_cell (i := 1) kn rfl
    have q2 := blk_cell (i := 2) kn rfl
    have q3 := blk_cell (i := 3) kn rfl
    have hb := below_alloc (.cells #[.string r.name, .slice A5 r.fields.length c5, .int .i64 r.size, .int .i64 r.align] 69) (Below.refl w.heap.size w)
    refine bodyPost_ret (v := .agg #[.string r.name, .slice A5 r.fields.length c5, .int .i64 r.size, .int .i64 r.align]) (by simp [results, Try.results21, go_sem, q0, q1, q2, q3]; try rfl) rfl ⟨_, rfl, (HF.out.later (by decide) hb).weaken (fun cs x hx => hx.later hb), r3.2, hb⟩
end Go.Proofs.Ytpcfibnnboenhaa
