/- Laws over any program: rows of whole structs that the call owns, appended to. No condition. -/
import Derived.Test.YtamejgfmfneppaaDoorOw
namespace Go.Proofs.YtamejgfmfneppaaDoor
open Go.RowKit
set_option linter.unusedVariables false
section
variable {P : Program} {w w' : World}
theorem append_rowC (base : Nat) (t ty e : TypeId) (i : TypeInfo) (z : Value) (size bytes : Nat) (ht : P.underlying t = some (.slice e)) (hi : P.info? e = some i) (hz : i.zero = some z)
    (hsize : i.size = size) (hby : i.bytes = bytes) (hzs : z.cells.size = size) (hsz : 0 < size) (v : Value) (n : Nat) (xs : List Value) (hown : w.ownsRow base e size v n xs)
    (a : Addr) (m c : Nat) (news : List Value) (hl : news.length = m * size) (hnews : ∀ j u, news[j]? = some u → w.cell? (a.add j) = some u) (h1 : ∀ u ∈ news, u.oneCell' = true)
    (h63 : n + m ≤ maxLen) (hbytes : (n + m) * bytes ≤ 140737488355328) (hbase : base ≤ w.heap.size) :
    ∃ v' w', (Builtin.append_ #[t, t] ty #[v, .slice (some a) m c]).run P w = .ok v' w' ∧ w'.ownsRow base e size v' (n + m) (xs ++ news) ∧ w.grownBy w' v.ownBlock ∧ Moved w v v' := by
  rcases hown.2 with ⟨rfl, rfl⟩ | ⟨g, cap, cur, rfl, g1, g2, g3, g4, g5, g6⟩
  · obtain ⟨v', w', r1, r2, r3, _⟩ := run_append_own (P := P) (w := w) w.heap.size t ty e i z size bytes ht hi hz hsize hby hzs hsz _ 0 xs ⟨hown.1, Or.inl ⟨rfl, rfl⟩⟩ a m c news hl hnews h1 h63 hbytes (Nat.le_refl _)
    exact ⟨v', w', r1, own_base r2 hbase, r3, fun k hk => Or.inr (r2.lt k hk).1⟩
  · by_cases hc : n + m ≤ cap
    · obtain ⟨v', w', r1, r2, r3, _⟩ := run_append_own (P := P) (w := w) base t ty e i z size bytes ht hi hz hsize hby hzs hsz _ n xs hown a m c news hl hnews h1 h63 hbytes hbase
      have hcs : n * size + m * size ≤ cap * size := by rw [← Nat.add_mul]; exact Nat.mul_le_mul_right _ hc
      have hr := run_append_room_cells (P := P) (w := w) t ty e i ht hi g 0 n cap a m c news (by rw [hsize]; exact hl) hnews h1 hc (fun j hj => by
          rw [hsize]
          have hjc : n * size + j < cur.size := by omega
          have : w.cell? ⟨g, 0 + n * size + j, none⟩ = some cur[n * size + j] := blk_cell g2 (by rw [show 0 + n * size + j = n * size + j by omega]; exact Array.getElem?_eq_getElem hjc)
          rw [this]; rfl) (fun j hj => blk_free g2)
      rw [hr] at r1
      simp only [Result.ok.injEq] at r1
      obtain ⟨e1, e2⟩ := r1
      subst e1 e2
      exact ⟨_, _, hr, r2, r3, fun k hk => Or.inl hk⟩
    · obtain ⟨v', w', r1, r2, r3⟩ := run_append_arg_grows (P := P) (w := w) t ty e i z size bytes ht hi hz hsize hby hzs hsz ⟨g, 0, none⟩ n cap xs hown.1 (fun j u hj => by
          have hx := hown.1
          have hjn : j < n * size := by have := (List.getElem?_eq_some_iff.1 hj).1; omega
          rw [Addr.add_lit, Nat.zero_add, hown.cellAt j hjn]; exact hj) a m c news hl hnews (by omega) h63 hbytes
      exact ⟨v', w', r1, own_base r2 hbase, ⟨r3.os, r3.tape, r3.output, r3.size, fun k hk _ => r3.block k hk (by simp)⟩, fun k hk => Or.inr (r2.lt k hk).1⟩
/-- one struct more, whose cells lie in the newest block -/
theorem append_oneC (base : Nat) (t e : TypeId) (i : TypeInfo) (z : Value) (size bytes : Nat) (ht : P.underlying t = some (.slice e)) (hi : P.info? e = some i) (hz : i.zero = some z)
    (hsize : i.size = size) (hby : i.bytes = bytes) (hzs : z.cells.size = size) (hsz : 0 < size) (v : Value) (n : Nat) (xs : List Value) (hown : w.ownsRow base e size v n xs) (cs : Array Value) (hcs : cs.size = size) (g : Nat) (hg : g = w.heap.size) (h1 : ∀ u ∈ cs.toList, u.oneCell' = true)
    (h63 : n + 1 ≤ maxLen) (hbytes : (n + 1) * bytes ≤ 140737488355328) (hbase : base ≤ w.heap.size) :
    ∃ v' w', (Builtin.append_ #[t, t] t #[v, .slice (some ⟨g, 0, none⟩) 1 1]).run P (w.alloc (.cells cs e)) = .ok v' w' ∧ w'.ownsRow base e size v' (n + 1) (xs ++ cs.toList) ∧ w.grownBy w' v.ownBlock ∧ Moved w v v' := by
  subst hg
  obtain ⟨v', w', r1, r2, r3, r4⟩ := append_rowC (P := P) (w := w.alloc (.cells cs e)) base t t e i z size bytes ht hi hz hsize hby hzs hsz v n xs (hown.alloc _) ⟨w.heap.size, 0, none⟩ 1 1 cs.toList (by simp [hcs])
    (fun j u hj => by
      rw [Addr.add_lit, Nat.zero_add]
      exact blk_cell (blk_new w _) (by rw [← Array.getElem?_toList]; exact hj))
    h1 h63 hbytes (by simp; omega)
  refine ⟨v', w', r1, r2, grown_trans (w1 := w.alloc (.cells cs e)) (World.grownBy_alloc w _ _) r3, fun k hk => ?_⟩
  rcases r4 k hk with h | h
  · exact Or.inl h
  · exact Or.inr (by simp at h; omega)
end
end Go.Proofs.YtamejgfmfneppaaDoor
