/- Two objects of 80 bytes, their contents by numbers: what stands is told anew. No condition. -/
import Derived.Test.YtcjfkbohgnopfaaKmB
namespace Go.Proofs.Ytcjfkbohgnopfaa
open Go.RowKit
set_option linter.unusedVariables false
theorem at_of {cs : List Value} (h : (List.range cs.length).map (fun k => (trOf 0 cs .nil).at k) = cs.map some) (k : Nat) (v : Value) (hk : cs[k]? = some v) : (trOf 0 cs .nil).at k = some v := by
  have hlt := (List.getElem?_eq_some_iff.1 hk).1
  have := congrArg (fun l => l[k]?) h
  simp only [List.getElem?_map, List.getElem?_range hlt, hk, Option.map_some, Option.some.injEq] at this
  exact this
section
variable {D D2 : Den} {β : Place}
/-- structure: no marks -/
def plainV : Value → Bool
  | .bool _ | .int _ _ | .pointer _ => true
  | .slice _ _ _ => true
  | _ => false
theorem VR_plain {v v' : Value} (hp : plainV v = true) (h : VR D β v v') : VR D2 β v v' := by
  cases h with
  | bool b => exact .bool b
  | int k n => exact .int k n
  | nilPtr => exact .nilPtr
  | ptr b o a ha => exact .ptr _ _ _ ha
  | nilSlice => exact .nilSlice
  | slice b o len cap cap' a ha hc hle => exact .slice _ _ _ _ _ _ ha hc hle
  | slice0 => exact .slice0 _ _ _ _ _
  | sym _ _ h1 => cases v <;> first | (cases h1; done) | (cases hp; done)
  | _ => simp [plainV] at hp
end
theorem vr_of_den {ρ : Int → Int} {β : Place} {x v' : Value} {k : IntKind} {n : Int} (hd : den ρ x = some (.int k n)) (h : VR (den ρ) β x v') : v' = .int k n := by
  cases h with
  | sym _ _ _ h2 => rw [hd] at h2; exact (Option.some.inj h2).symm
  | int k n => simp only [den, Option.some.injEq] at hd; exact hd
  | bool b => simp [den] at hd
  | _ => simp [den] at hd
theorem vr_mk {ρ : Int → Int} {β : Place} {x : Value} {k : IntKind} {n : Int} (hd : den ρ x = some (.int k n)) : VR (den ρ) β x (.int k n) := by
  cases hs : isSym x with
  | true => exact .sym _ _ hs hd rfl
  | false =>
    cases x with
    | int k' n' => simp only [den, Option.some.injEq] at hd; rw [hd]; exact .int _ _
    | func f xs ys =>
      cases f with
      | yield t => simp [isSym] at hs
      | _ => simp [den] at hd
    | _ => simp [den] at hd
theorem row_get (c : Nat → Value) (a n k : Nat) (hk : k < n) : (row c a n)[k]? = some (c (a + k)) := by
  unfold row
  rw [List.getElem?_map, List.getElem?_range hk]; rfl
theorem row_len (c : Nat → Value) (a n : Nat) : (row c a n).length = n := by simp [row]
/-- contents told in other words -/
theorem tellC {ρ ρ' : Int → Int} {β : Place} {e c : Nat → Value} {w : World} (h : Rel Try.prog (den ρ) β (wOf (LSof e) 15) w) (hc : ∀ m, m < 2000 → ∃ n, den ρ (e m) = some (.int (kd m) n) ∧ den ρ' (c m) = some (.int (kd m) n)) : Rel Try.prog (den ρ') β (wOf (LSof c) 15) w := by
  have hrow : ∀ (a n : Nat), a + n ≤ 2000 → (∀ k v, (row e a n)[k]? = some v → (trOf 0 (row e a n) .nil).at k = some v) → ∀ (k : Nat) c2, (row c a n)[k]? = some c2 → ∃ c0, (trOf 0 (row e a n) .nil).at k = some c0 ∧ ∀ v', VR (den ρ) β c0 v' → VR (den ρ') β c2 v' := by
    intro a n ha hat k c2 hk
    have hlt : k < n := by have := (List.getElem?_eq_some_iff.1 hk).1; rwa [row_len] at this
    rw [row_get _ _ _ _ hlt] at hk
    obtain rfl := Option.some.inj hk
    obtain ⟨x, h1, h2⟩ := hc (a + k) (by omega)
    refine ⟨e (a + k), hat k _ (row_get _ _ _ _ hlt), fun v' hv => ?_⟩
    rw [vr_of_den h1 hv]
    exact vr_mk h2
  have hpl : ∀ (cs : List Value), (∀ k v, cs[k]? = some v → (trOf 0 cs .nil).at k = some v) → (∀ v ∈ cs, plainV v = true) → ∀ (k : Nat) c2, cs[k]? = some c2 → ∃ c0, (trOf 0 cs .nil).at k = some c0 ∧ ∀ v', VR (den ρ) β c0 v' → VR (den ρ') β c2 v' :=
    fun cs hat hp k c2 hk => ⟨c2, hat k c2 hk, fun v' hv => VR_plain (hp c2 (List.mem_of_getElem? hk)) hv⟩
  have hz : ∀ v ∈ z80, plainV v = true := fun v hv => by rw [List.eq_of_mem_replicate hv]; rfl
  refine rel_tell h fun i cs2 T hm => ?_
  simp only [LSof, List.mem_cons, Prod.mk.injEq, List.not_mem_nil, or_false] at hm
  rcases hm with ⟨rfl, rfl, rfl⟩ | ⟨rfl, rfl, rfl⟩ | ⟨rfl, rfl, rfl⟩ | ⟨rfl, rfl, rfl⟩ | ⟨rfl, rfl, rfl⟩ | ⟨rfl, rfl, rfl⟩ | ⟨rfl, rfl, rfl⟩ | ⟨rfl, rfl, rfl⟩ | ⟨rfl, rfl, rfl⟩ | ⟨rfl, rfl, rfl⟩ | ⟨rfl, rfl, rfl⟩ | ⟨rfl, rfl, rfl⟩
  · exact ⟨_, _, by kernel_rfl, rfl, rfl, hpl _ (at_of (by kernel_rfl)) (by simp [plainV])⟩
  · exact ⟨_, z80, by kernel_rfl, rfl, rfl, hpl _ (at_of (by kernel_rfl)) hz⟩
  · exact ⟨_, row e 0 80, by kernel_rfl, rfl, by rw [row_len, row_len], hrow 0 80 (by decide) (at_of (by kernel_rfl))⟩
  · exact ⟨_, row e 100 80, by kernel_rfl, rfl, by rw [row_len, row_len], hrow 100 80 (by decide) (at_of (by kernel_rfl))⟩
  · exact ⟨_, row e 200 240, by kernel_rfl, rfl, by rw [row_len, row_len], hrow 200 240 (by decide) (at_of (by kernel_rfl))⟩
  · exact ⟨_, _, by kernel_rfl, rfl, rfl, hpl _ (at_of (by kernel_rfl)) (by simp [plainV])⟩
  · exact ⟨_, z80, by kernel_rfl, rfl, rfl, hpl _ (at_of (by kernel_rfl)) hz⟩
  · exact ⟨_, row e 1000 80, by kernel_rfl, rfl, by rw [row_len, row_len], hrow 1000 80 (by decide) (at_of (by kernel_rfl))⟩
  · exact ⟨_, row e 1100 80, by kernel_rfl, rfl, by rw [row_len, row_len], hrow 1100 80 (by decide) (at_of (by kernel_rfl))⟩
  · exact ⟨_, row e 1200 240, by kernel_rfl, rfl, by rw [row_len, row_len], hrow 1200 240 (by decide) (at_of (by kernel_rfl))⟩
  · exact ⟨_, _, by kernel_rfl, rfl, rfl, hpl _ (at_of (by kernel_rfl)) (by simp [plainV])⟩
  · exact ⟨_, _, by kernel_rfl, rfl, rfl, hpl _ (at_of (by kernel_rfl)) (by simp [plainV])⟩
end Go.Proofs.Ytcjfkbohgnopfaa
