/- The example of merlonlaw25 answers true; strings.Index, strings.Count of one byte, strconv.ParseInt are known calls; internal/bytealg.MaxLen holds some number. No condition. -/
import Derived.Test.YtinamdcmkamlhaaGreatDoorGl
import Derived.Test.YtinamdcmkamlhaaGreatDoorRegA
import Derived.Test.YtinamdcmkamlhaaGreatDoorShelf
namespace Go.Proofs.YtinamdcmkamlhaaGreatDoor
open Go.RowKit
set_option linter.unusedVariables false
/-- calls that are known, by what they are given, where some variables hold some number -/
def Tab.fnI (P : Program) (g : FuncId) (I : List Nat) (F : List Value → Option Value) (hF : ∀ xs v, F xs = some v → pf v = true ∧ pfs xs = true ∧ ∀ w, NeedI I w → Calls P g xs.toArray w fun e w' => e = .returned v ∧ Below w.heap.size w w') : Tab P :=
  ⟨fun f' xs => bif f'.beq g then F xs else Option.none, [], I, fun f' xs v hv => by
    cases hb : Nat.beq f' g with
    | false => rw [hb] at hv; cases hv
    | true =>
      rw [hb] at hv
      simp only [cond_true] at hv
      have := Nat.eq_of_beq_eq_true hb
      subst this
      obtain ⟨h1, h2, h3⟩ := hF xs v hv
      refine ⟨h1, fun D β xs' w hN hl => ?_⟩
      rw [pfs_LR_eq h2 hl]
      exact h3 w hN.2⟩
/-- where a text stands in another -/
def ixN : List UInt8 → List UInt8 → Nat → Int
  | [], p, i => bif p.isEmpty then (i : Int) else -1
  | b :: l, p, i => bif p.isPrefixOf (b :: l) then (i : Int) else ixN l p (i + 1)
theorem ixN_eq (p : List UInt8) : ∀ (l : List UInt8) (i : Nat), ixN l p i = if Lib.index l p = -1 then -1 else Lib.index l p + i
  | [], i => by
    unfold ixN Lib.index
    cases p.isEmpty <;> simp
  | b :: l, i => by
    unfold ixN Lib.index
    cases p.isPrefixOf (b :: l) with
    | true => simp
    | false =>
      simp only [cond_false, Bool.false_eq_true, if_false]
      rw [ixN_eq p l (i + 1)]
      have h := Lib.index_ge l p
      by_cases h1 : Lib.index l p = -1
      · simp [h1]
      · have h2 : (Lib.index l p == -1) = false := by simpa using h1
        have h3 : ¬ Lib.index l p + 1 = -1 := by omega
        rw [if_neg h1, h2]
        simp only [Bool.false_eq_true, if_false]
        rw [if_neg h3]
        simp only [Int.natCast_add, Int.natCast_one]
        omega
theorem ixN_zero (l p : List UInt8) : ixN l p 0 = Lib.index l p := by
  rw [ixN_eq]
  by_cases h : Lib.index l p = -1
  · rw [if_pos h, h]
  · rw [if_neg h]; simp
def idxA : List Value → Option Value
  | [.string s, .string p] => bif s.size.blt 4294967281 then some (.int .i64 (ixN s.data.toList p.data.toList 0)) else none
  | _ => none
theorem idxA_ok (f : FuncId) (hf : ∀ (s p : ByteArray) (m : Int) (w : World), s.size < 4294967281 → w.cell? ⟨0, 0, none⟩ = some (.int .i64 m) → Calls Tryz.prog f #[.string s, .string p] w fun e w' => e = .returned (.int .i64 (Lib.index s.data.toList p.data.toList)) ∧ w' = w) :
    ∀ xs v, idxA xs = some v → pf v = true ∧ pfs xs = true ∧ ∀ w, NeedI [0] w → Calls Tryz.prog f xs.toArray w fun e w' => e = .returned v ∧ Below w.heap.size w w' := by
  intro xs v hv
  unfold idxA at hv
  split at hv
  · rename_i s p
    cases hb : s.size.blt 4294967281 with
    | false => rw [hb] at hv; cases hv
    | true =>
      rw [hb] at hv
      simp only [cond_true, Option.some.injEq] at hv
      subst hv
      refine ⟨rfl, rfl, fun w hN => ?_⟩
      obtain ⟨m, hm⟩ := hN 0 (by simp)
      refine (hf s p m w (Nat.blt_eq.mp hb) hm).mono ?_
      rintro e w' ⟨rfl, rfl⟩
      exact ⟨by rw [ixN_zero], Below.refl _ _⟩
  · cases hv
def cntA : List Value → Option Value
  | [.string s, .string p] => (match p.data.toList with
    | [c] => some (.int .i64 (Lib.countByte s.data.toList c : Nat))
    | _ => none)
  | _ => none
theorem one_byteA {p : ByteArray} {c : UInt8} (h : p.data.toList = [c]) : p = ⟨#[c]⟩ := by
  obtain ⟨⟨l⟩⟩ := p
  simp only at h
  subst h
  rfl
theorem cntA_ok (f : FuncId) (hf : ∀ (s : ByteArray) (c : UInt8) (w : World), Calls Tryz.prog f #[.string s, .string ⟨#[c]⟩] w fun e w' => e = .returned (.int .i64 (Lib.countByte s.data.toList c : Nat)) ∧ w' = w) :
    ∀ xs v, cntA xs = some v → pf v = true ∧ pfs xs = true ∧ ∀ w, NeedI [0] w → Calls Tryz.prog f xs.toArray w fun e w' => e = .returned v ∧ Below w.heap.size w w' := by
  intro xs v hv
  unfold cntA at hv
  split at hv
  · split at hv
    · rename_i h
      simp only [Option.some.injEq] at hv
      subst hv
      obtain rfl := one_byteA h
      refine ⟨rfl, rfl, fun w _ => (hf _ _ w).mono ?_⟩
      rintro e w' ⟨rfl, rfl⟩
      exact ⟨rfl, Below.refl _ _⟩
    · cases hv
  · cases hv
def prsA : List Value → Option Value
  | [.string s, .int .i64 a, .int .i64 b] => bif decide (a = 10) && decide (b = 64) && s.size.blt 1000000 then (match Lib.parseIntB 64 s.data.toList with
    | .ok v => some (.tuple #[.int .i64 v, .nilIface])
    | _ => none) else none
  | _ => none
theorem below_bytes (w : World) (T : TypeId) (t : ByteArray) : Below w.heap.size w (Lib.bytesWorld w T t) := by
  refine ⟨?_, ?_, ?_, by rw [Lib.bytesWorld_size]; omega, fun j hj => Lib.bytesWorld_at_old w T t j hj⟩
  all_goals (unfold Lib.bytesWorld World.freeze; rw [if_neg (by decide)]; rfl)
theorem prsA_ok (f : FuncId) (hf : ∀ (s : ByteArray), s.size ≤ 9223372036854775806 → ∀ (v : Int), Lib.parseIntB 64 s.data.toList = .ok v → ∀ w : World, Calls Tryz.prog f #[.string s, .int .i64 10, .int .i64 64] w fun e w' => e = .returned (.tuple #[.int .i64 v, .nilIface]) ∧ Below w.heap.size w w') :
    ∀ xs v, prsA xs = some v → pf v = true ∧ pfs xs = true ∧ ∀ w, NeedI [0] w → Calls Tryz.prog f xs.toArray w fun e w' => e = .returned v ∧ Below w.heap.size w w' := by
  intro xs v hv
  unfold prsA at hv
  split at hv
  · rename_i s a b
    cases hb : (decide (a = 10) && decide (b = 64) && s.size.blt 1000000) with
    | false => rw [hb] at hv; cases hv
    | true =>
      rw [hb] at hv
      simp only [Bool.and_eq_true, decide_eq_true_eq, Nat.blt_eq] at hb
      obtain ⟨⟨rfl, rfl⟩, h3⟩ := hb
      simp only [cond_true] at hv
      split at hv
      · rename_i u hu
        simp only [Option.some.injEq] at hv
        subst hv
        exact ⟨rfl, rfl, fun w _ => hf s (by omega) u hu w⟩
      · cases hv
  · cases hv
theorem prs_call (s : ByteArray) (hs : s.size ≤ 9223372036854775806) (v : Int) (hv : Lib.parseIntB 64 s.data.toList = .ok v) (w : World) : Calls Tryz.prog 73 #[.string s, .int .i64 10, .int .i64 64] w fun e w' => e = .returned (.tuple #[.int .i64 v, .nilIface]) ∧ Below w.heap.size w w' := by
  refine (Tryz.strconv_ParseInt_10_at64_ok s hs v hv w).mono ?_
  rintro e w' ⟨h1, h2⟩
  refine ⟨h1, ?_⟩
  rcases h2 with h | ⟨t, h⟩
  · subst h; exact Below.refl _ _
  · subst h; exact below_bytes _ _ _
noncomputable def tabI : Tab Tryz.prog := Tab.fnI Tryz.prog 69 [0] idxA (idxA_ok _ Tryz.strings_Index)
noncomputable def tabL : Tab Tryz.prog := Tab.fnI Tryz.prog 102 [0] idxA (idxA_ok _ Tryz.stringslite_Index)
noncomputable def tabC : Tab Tryz.prog := Tab.fnI Tryz.prog 68 [0] cntA (cntA_ok _ Tryz.strings_Count_one)
noncomputable def tabP : Tab Tryz.prog := Tab.fnI Tryz.prog 73 [0] prsA (prsA_ok _ prs_call)
noncomputable def tabX : Tab Tryz.prog := Tab.and tabL (Tab.and tabI (Tab.and tabC tabP rfl rfl) rfl rfl) rfl rfl
theorem know_nil (ρ : Int → Int) : KnowOk ρ [] := fun p h => by cases h
/-- the package-level variables as the machine has them: MaxLen is number 9's mark -/
noncomputable def gsM : Globs := (0, [mark .i64 9]) :: gs
theorem gsM_ok {ρ : Int → Int} {w : World} (hN : NeedOk gs w) (hm : w.cell? ⟨0, 0, none⟩ = some (.int .i64 (ρ 9))) : ∀ g ∈ gsM, ∀ (k : Nat) v, g.2[k]? = some v → ∃ v', w.cell? ⟨g.1, k, none⟩ = some v' ∧ ∀ β, VR (den ρ) β v v' := by
  intro g hg k v hk
  unfold gsM at hg
  rcases List.mem_cons.1 hg with rfl | hg
  · match k, hk with
    | 0, hk =>
      simp only [List.getElem?_cons_zero, Option.some.injEq] at hk
      subst hk
      exact ⟨_, hm, fun β => mark_vr ρ β .i64 9⟩
    | k + 1, hk => simp at hk
  · exact ⟨v, hN g hg k v hk, fun β => pf_vr _ β v (pfs_mem (gs_ok g hg).2 v (List.mem_of_getElem? hk))⟩
theorem gsM_lt : ∀ g ∈ gsM, g.1 < gn := by
  intro g hg
  unfold gsM at hg
  rcases List.mem_cons.1 hg with rfl | hg
  · exact Nat.blt_eq.mp (by kernel_rfl)
  · exact (gs_ok g hg).1
theorem fit_vm (w : World) (hN : NeedOk gs w ∧ gn ≤ w.heap.size) (hI : NeedI [0] w) : Calls Tryz.prog 4 #[] w fun e w' => e = .returned (.bool true) ∧ Below w.heap.size w w' := by
  obtain ⟨m, hm⟩ := hI 0 (by simp)
  exact vrunR (Sy.ints Tryz.prog (fun _ => m) [] (know_nil _) tabX gn) mixed 100000 60 4 gn gsM [] [] (.bool true) (fun g hg => Nat.blt_eq.mp hg) w hN.2 gsM_lt (gsM_ok (ρ := fun _ => m) hN.1 hm) (fun _ => LR.of_pfs rfl) rfl (by kernel_rfl)
end Go.Proofs.YtinamdcmkamlhaaGreatDoor
