/- The example of the statements' package answers true; strings.Index and strings.Count of one byte are known calls. No condition. -/
import Derived.Test.YtamejgfmfneppaaDoorGl
import Derived.Test.YtamejgfmfneppaaDoorRegA
import Derived.Test.YtamejgfmfneppaaDoorShelf
namespace Go.Proofs.YtamejgfmfneppaaDoor
open Go.RowKit
set_option linter.unusedVariables false
/-- calls that are known, by what they are given -/
def Tab.fn (P : Program) (g : FuncId) (F : List Value → Option Value) (hF : ∀ xs v, F xs = some v → pf v = true ∧ pfs xs = true ∧ ∀ w, Calls P g xs.toArray w fun e w' => e = .returned v ∧ Below w.heap.size w w') : Tab P :=
  ⟨fun f' xs => bif f'.beq g then F xs else Option.none, [], fun f' xs v hv => by
    cases hb : Nat.beq f' g with
    | false => rw [hb] at hv; cases hv
    | true =>
      rw [hb] at hv
      simp only [cond_true] at hv
      have := Nat.eq_of_beq_eq_true hb
      subst this
      obtain ⟨h1, h2, h3⟩ := hF xs v hv
      refine ⟨h1, fun D β xs' w _ hl => ?_⟩
      rw [pfs_LR_eq h2 hl]
      exact h3 w⟩
def idxF : List Value → Option Value
  | [.string s, .string p] => (match p.data.toList with
    | [c] => some (.int .i64 (Lib.indexByte s.data.toList c))
    | _ => none)
  | _ => none
def cntF : List Value → Option Value
  | [.string s, .string p] => (match p.data.toList with
    | [c] => some (.int .i64 (Lib.countByte s.data.toList c : Nat))
    | _ => none)
  | _ => none
theorem one_byte {p : ByteArray} {c : UInt8} (h : p.data.toList = [c]) : p = ⟨#[c]⟩ := by
  obtain ⟨⟨l⟩⟩ := p
  simp only at h
  subst h
  rfl
theorem idxF_ok (f : FuncId) (hf : ∀ (s : ByteArray) (c : UInt8) (w : World), Calls Tryd.prog f #[.string s, .string ⟨#[c]⟩] w fun e w' => e = .returned (.int .i64 (Lib.indexByte s.data.toList c)) ∧ w' = w) :
    ∀ xs v, idxF xs = some v → pf v = true ∧ pfs xs = true ∧ ∀ w, Calls Tryd.prog f xs.toArray w fun e w' => e = .returned v ∧ Below w.heap.size w w' := by
  intro xs v hv
  unfold idxF at hv
  split at hv
  · split at hv
    · rename_i h
      simp only [Option.some.injEq] at hv
      subst hv
      obtain rfl := one_byte h
      refine ⟨rfl, rfl, fun w => (hf _ _ w).mono ?_⟩
      rintro e w' ⟨rfl, rfl⟩
      exact ⟨rfl, Below.refl _ _⟩
    · cases hv
  · cases hv
theorem cntF_ok (f : FuncId) (hf : ∀ (s : ByteArray) (c : UInt8) (w : World), Calls Tryd.prog f #[.string s, .string ⟨#[c]⟩] w fun e w' => e = .returned (.int .i64 (Lib.countByte s.data.toList c : Nat)) ∧ w' = w) :
    ∀ xs v, cntF xs = some v → pf v = true ∧ pfs xs = true ∧ ∀ w, Calls Tryd.prog f xs.toArray w fun e w' => e = .returned v ∧ Below w.heap.size w w' := by
  intro xs v hv
  unfold cntF at hv
  split at hv
  · split at hv
    · rename_i h
      simp only [Option.some.injEq] at hv
      subst hv
      obtain rfl := one_byte h
      refine ⟨rfl, rfl, fun w => (hf _ _ w).mono ?_⟩
      rintro e w' ⟨rfl, rfl⟩
      exact ⟨rfl, Below.refl _ _⟩
    · cases hv
  · cases hv
def tabX : Tab Tryd.prog := Tab.and (Tab.fn Tryd.prog 45 idxF (idxF_ok _ Tryd.stringslite_Index_one)) (Tab.and (Tab.fn Tryd.prog 53 idxF (idxF_ok _ Tryd.strings_Index_one)) (Tab.fn Tryd.prog 52 cntF (cntF_ok _ Tryd.strings_Count_one)) rfl) rfl
theorem know_nil : KnowOk (fun _ => 0) [] := fun p h => by cases h
theorem fit_vm (w : World) (hN : NeedOk gs w ∧ gn ≤ w.heap.size) : Calls Tryd.prog 4 #[] w fun e w' => e = .returned (.bool true) ∧ Below w.heap.size w w' :=
  vrunG (Sy.ints Tryd.prog (fun _ => 0) [] know_nil tabX gn) mixed 100000 60 4 gn gs [] [] (.bool true) (fun g hg => Nat.blt_eq.mp hg) w hN.2 gs_ok hN.1 (fun _ => LR.of_pfs rfl) rfl (by kernel_rfl)
end Go.Proofs.YtamejgfmfneppaaDoor
