/- FlowCopies: a row of texts that the call owns: one more, all joined. No condition. -/
import Derived.Test.YtdaildpfkchbhaaDoorFcA
import Derived.Test.YtdaildpfkchbhaaDoorOw
namespace Go.Proofs.YtdaildpfkchbhaaDoor
open Go.RowKit
set_option linter.unusedVariables false
set_option maxHeartbeats 2000000
theorem Tryd.infoStr : (Tryd.prog.info? 9).map (fun i => (i.zero, i.size, i.bytes)) = some (some (.string ⟨#[]⟩), 1, 16) := by kernel_rfl
def sv (l : List (List UInt8)) : List Value := l.map fun x => Value.string ⟨⟨x⟩⟩
theorem sv_length (l : List (List UInt8)) : (sv l).length = l.length := by simp [sv]
theorem join_any (w : World) (B : Nat) (v : Value) (l : List (List UInt8)) (sep : List UInt8) (hl : l.length ≤ 140737488355328) (hlen : (Lib.join l sep).length ≤ 140737488355328) (h : w.ownsRow B 9 1 v l.length (sv l)) :
    Calls Tryd.prog 21 #[v, .string ⟨⟨sep⟩⟩] w fun e w' => e = .returned (.string ⟨⟨Lib.join l sep⟩⟩) ∧ Below w.heap.size w w' := by
  rcases h.2 with ⟨rfl, e⟩ | ⟨g, cap, cur, rfl, h1, h2, h3, h4, h5⟩
  · obtain rfl : l = [] := List.length_eq_zero_iff.1 e
    refine (Tryd.strings_Join_none none 0 ⟨⟨sep⟩⟩ w).mono ?_
    rintro e w' ⟨rfl, rfl⟩
    exact ⟨rfl, Below.refl _ _⟩
  · have hm : (l.map fun x => (⟨⟨x⟩⟩ : ByteArray)).map (·.data.toList) = l := by rw [List.map_map]; exact List.map_id' l
    have H := Tryd.strings_Join g 0 cap (l.map fun x => (⟨⟨x⟩⟩ : ByteArray)) ⟨⟨sep⟩⟩ w (fun j x hx => by
      have hj : j < l.length := by have := (List.getElem?_eq_some_iff.1 hx).1; simpa using this
      have e := World.ownsRow.cellAt h j (by omega)
      rw [Nat.zero_add, e]
      unfold sv
      rw [List.getElem?_map] at hx ⊢
      cases hq : l[j]? with
      | none => rw [hq] at hx; cases hx
      | some y => rw [hq] at hx; simp at hx; simp [hx]) (blk_lt h2) (by simpa using hl) (by simpa using h3) (by rw [hm]; exact hlen)
    rw [hm, List.length_map] at H
    exact H
theorem own_str {w : World} {B : Nat} {v : Value} {l : List (List UInt8)} (h : w.ownsRow B 9 1 v l.length (sv l)) (x : List UInt8) (hl : l.length ≤ 1000000000) (hB : B ≤ w.heap.size) :
    ∃ v' w', (Builtin.append_ #[60, 60] 60 #[v, .slice (some ⟨w.heap.size, 0, none⟩) 1 1]).run Tryd.prog (w.alloc (.cells #[.string ⟨⟨x⟩⟩] 9)) = .ok v' w' ∧ w'.ownsRow B 9 1 v' (l ++ [x]).length (sv (l ++ [x])) ∧ w.grownBy w' v.ownBlock := by
  obtain ⟨i0, hi, hz0, hz1, hz2⟩ := info_parts Tryd.infoStr
  obtain ⟨v', w', r1, r2, r3, r4⟩ := append_one (P := Tryd.prog) (w := w) B 60 9 i0 _ 16 Tryd.underlying60 hi hz0 hz1 hz2 rfl v l.length (sv l) h (.string ⟨⟨x⟩⟩) _ rfl rfl (by unfold maxLen; omega) (by omega) hB
  refine ⟨v', w', r1, ?_, r3⟩
  rw [List.length_append, show sv (l ++ [x]) = sv l ++ [.string ⟨⟨x⟩⟩] by simp [sv]]
  exact r2
end Go.Proofs.YtdaildpfkchbhaaDoor
