/- Laws over any program: rows that the call owns, appended to; rows told apart by what they are of. No condition. -/
import Derived.Test.YtamejgfmfneppaaDoorLib
import Derived.ArgAppend
import Derived.Laws.OwnMore
import Derived.OwnWalk
import Derived.OneCell
namespace Go.Proofs.YtamejgfmfneppaaDoor
open Go.RowKit
set_option linter.unusedVariables false
section
variable {P : Program} {w w' : World}
theorem own_ne {base base2 size size2 n n2 : Nat} {T T2 : TypeId} {v v2 : Value} {xs xs2 : List Value} (h : w.ownsRow base T size v n xs) (h2 : w.ownsRow base2 T2 size2 v2 n2 xs2) (hT : T ≠ T2) : v.ownBlock = none ∨ v.ownBlock ≠ v2.ownBlock := by
  rcases h.2 with ⟨rfl, e⟩ | ⟨g, cap, cur, rfl, h3, h4, _⟩
  · exact Or.inl rfl
  · rcases h2.2 with ⟨rfl, e⟩ | ⟨g2, cap2, cur2, rfl, h5, h6, _⟩
    · exact Or.inr (by simp [Value.ownBlock])
    · refine Or.inr (fun e => ?_)
      simp only [Value.ownBlock, Option.some.injEq] at e
      subst e
      rw [h4] at h6
      simp only [Option.some.injEq, Obj.cells.injEq] at h6
      exact hT h6.2.1
theorem own_blk {base size n b : Nat} {T T2 : TypeId} {v : Value} {xs : List Value} {cs : Array Value} {fr : Nat × Nat} (h : w.ownsRow base T size v n xs) (h2 : w.heap[b]? = some (.cells cs T2 fr)) (hT : T ≠ T2) : v.ownBlock = none ∨ v.ownBlock ≠ some b := by
  rcases h.2 with ⟨rfl, e⟩ | ⟨g, cap, cur, rfl, h3, h4, _⟩
  · exact Or.inl rfl
  · refine Or.inr (fun e => ?_)
    simp only [Value.ownBlock, Option.some.injEq] at e
    subst e
    rw [h4] at h2
    simp only [Option.some.injEq, Obj.cells.injEq] at h2
    exact hT h2.2.1
theorem blk_kept {b : Nat} {cs : Array Value} {T : TypeId} {fr : Nat × Nat} {r : Option Nat} (h : w.heap[b]? = some (.cells cs T fr)) (hg : w.grownBy w' r) (hr : r = none ∨ r ≠ some b) : w'.heap[b]? = some (.cells cs T fr) := by
  refine (hg.block b (blk_lt h) ?_).trans h
  rcases hr with rfl | hr
  · simp
  · exact fun e => hr e.symm
theorem own_base {base B size n : Nat} {T : TypeId} {v : Value} {xs : List Value} (h : w.ownsRow base T size v n xs) (hB : B ≤ base) : w.ownsRow B T size v n xs := by
  refine ⟨h.1, ?_⟩
  rcases h.2 with h1 | ⟨g, cap, cur, h1, h2, h3⟩
  · exact Or.inl h1
  · exact Or.inr ⟨g, cap, cur, h1, by omega, h3⟩
theorem own_below {base size n : Nat} {T : TypeId} {v : Value} {xs : List Value} (h : w.ownsRow base T size v n xs) (hb : Below w.heap.size w w') : w'.ownsRow base T size v n xs :=
  h.kept (row := none) ⟨hb.os, hb.tape, hb.output, hb.size, fun k hk _ => hb.block k hk⟩ (by cases v.ownBlock <;> simp)
theorem own_form {base size n : Nat} {T : TypeId} {v : Value} {xs : List Value} (h : w.ownsRow base T size v n xs) (hn : 0 < n) : ∃ g cap, v = .slice (some ⟨g, 0, none⟩) n cap ∧ n ≤ cap ∧ cap ≤ maxLen ∧ base ≤ g ∧ g < w.heap.size := by
  rcases h.2 with ⟨rfl, e⟩ | ⟨g, cap, cur, rfl, h1, h2, h3, h4, _⟩
  · omega
  · exact ⟨g, cap, rfl, h3, h4, h1, blk_lt h2⟩
theorem own_slice {base size n : Nat} {T : TypeId} {v : Value} {xs : List Value} (h : w.ownsRow base T size v n xs) : ∃ A cap, v = .slice A n cap ∧ n ≤ maxLen := by
  rcases h.2 with ⟨rfl, e⟩ | ⟨g, cap, cur, rfl, h1, h2, h3, h4, _⟩
  · exact ⟨_, _, by rw [e], by rw [e]; decide⟩
  · exact ⟨_, _, rfl, by omega⟩
/-- the first ones alone -/
theorem own_take {base n m g cap : Nat} {T : TypeId} {xs : List Value} (h : w.ownsRow base T 1 (.slice (some ⟨g, 0, none⟩) n cap) n xs) (hm : m ≤ n) : w.ownsRow base T 1 (.slice (some ⟨g, 0, none⟩) m cap) m (xs.take m) := by
  have hl := h.1
  refine ⟨by simp; omega, ?_⟩
  rcases h.2 with ⟨e, _⟩ | ⟨g', cap', cur, e, h1, h2, h3, h4, h5, h6⟩
  · cases e
  · cases e
    refine Or.inr ⟨g, cap, cur, rfl, h1, h2, by omega, h4, h5, ?_⟩
    rw [← h6, List.take_take, Nat.mul_one, Nat.mul_one, Nat.min_eq_left hm]
theorem grown_trans {w1 w2 : World} {r : Option Nat} (h : w.grownBy w1 r) (k : w1.grownBy w2 r) : w.grownBy w2 r :=
  ⟨k.os.trans h.os, k.tape.trans h.tape, k.output.trans h.output, Nat.le_trans h.size k.size, fun j hj hne => (k.block j (Nat.lt_of_lt_of_le hj h.size) hne).trans (h.block j hj hne)⟩
theorem grown_of_below {r : Option Nat} (h : Below w.heap.size w w') : w.grownBy w' r := ⟨h.os, h.tape, h.output, h.size, fun k hk _ => h.block k hk⟩
theorem below_of_grown {B : Nat} {w0 : World} {r : Option Nat} (hb : Below B w0 w) (hB : B ≤ w0.heap.size) (hg : w.grownBy w' r) (hr : ∀ k, r = some k → B ≤ k) : Below B w0 w' :=
  ⟨hg.os.trans hb.os, hg.tape.trans hb.tape, hg.output.trans hb.output, Nat.le_trans hb.size hg.size, fun k hk => by
    refine (hg.block k (by have := hb.size; omega) (fun e => ?_)).trans (hb.block k hk)
    have := hr k e.symm
    omega⟩
theorem apart_symm {v1 v2 : Value} (h : v2.ownBlock = none ∨ v2.ownBlock ≠ v1.ownBlock) : v1.ownBlock = none ∨ v1.ownBlock ≠ v2.ownBlock := by
  rcases h with h | h
  · rw [h]; cases v1.ownBlock <;> simp
  · exact Or.inr (Ne.symm h)
/-- where an appended row lies now -/
def Moved (w : World) (v v' : Value) : Prop := ∀ k, v'.ownBlock = some k → v.ownBlock = some k ∨ w.heap.size ≤ k
theorem append_row (base : Nat) (t ty e : TypeId) (i : TypeInfo) (z : Value) (bytes : Nat) (ht : P.underlying t = some (.slice e)) (hi : P.info? e = some i) (hz : i.zero = some z)
    (hsize : i.size = 1) (hby : i.bytes = bytes) (hzs : z.cells.size = 1) (v : Value) (n : Nat) (xs : List Value) (hown : w.ownsRow base e 1 v n xs)
    (a : Addr) (m c : Nat) (news : List Value) (hl : news.length = m) (hnews : ∀ j u, news[j]? = some u → w.cell? (a.add j) = some u) (h1 : ∀ u ∈ news, u.oneCell' = true)
    (h63 : n + m ≤ maxLen) (hbytes : (n + m) * bytes ≤ 140737488355328) (hbase : base ≤ w.heap.size) :
    ∃ v' w', (Builtin.append_ #[t, t] ty #[v, .slice (some a) m c]).run P w = .ok v' w' ∧ w'.ownsRow base e 1 v' (n + m) (xs ++ news) ∧ w.grownBy w' v.ownBlock ∧ Moved w v v' := by
  have hl' : news.length = m * 1 := by omega
  rcases hown.2 with ⟨rfl, rfl⟩ | ⟨g, cap, cur, rfl, g1, g2, g3, g4, g5, g6⟩
  · obtain ⟨v', w', r1, r2, r3, _⟩ := run_append_own (P := P) (w := w) w.heap.size t ty e i z 1 bytes ht hi hz hsize hby hzs (by decide) _ 0 xs ⟨hown.1, Or.inl ⟨rfl, rfl⟩⟩ a m c news hl' hnews h1 h63 hbytes (Nat.le_refl _)
    exact ⟨v', w', r1, own_base r2 hbase, r3, fun k hk => Or.inr (r2.lt k hk).1⟩
  · by_cases hc : n + m ≤ cap
    · obtain ⟨v', w', r1, r2, r3, _⟩ := run_append_own (P := P) (w := w) base t ty e i z 1 bytes ht hi hz hsize hby hzs (by decide) _ n xs hown a m c news hl' hnews h1 h63 hbytes hbase
      have hx : xs.length = n := by have := hown.1; omega
      have hr := run_append_room_cells (P := P) (w := w) t ty e i ht hi g 0 n cap a m c news (by rw [hsize]; exact hl') hnews h1 hc (fun j hj => by
          rw [hsize]
          have hjc : n * 1 + j < cur.size := by omega
          have : w.cell? ⟨g, 0 + n * 1 + j, none⟩ = some cur[n * 1 + j] := blk_cell g2 (by rw [show 0 + n * 1 + j = n * 1 + j by omega]; exact Array.getElem?_eq_getElem hjc)
          rw [this]; rfl) (fun j hj => blk_free g2)
      rw [hr] at r1
      simp only [Result.ok.injEq] at r1
      obtain ⟨e1, e2⟩ := r1
      subst e1 e2
      exact ⟨_, _, hr, r2, r3, fun k hk => Or.inl hk⟩
    · have hx : xs.length = n := by have := hown.1; omega
      obtain ⟨v', w', r1, r2, r3⟩ := run_append_arg_grows (P := P) (w := w) t ty e i z 1 bytes ht hi hz hsize hby hzs (by decide) ⟨g, 0, none⟩ n cap xs hown.1 (fun j u hj => by
          have hjn : j < n := by have := (List.getElem?_eq_some_iff.1 hj).1; omega
          rw [Addr.add_lit, Nat.zero_add, hown.cellAt j (by omega)]; exact hj) a m c news hl' hnews (by omega) h63 hbytes
      exact ⟨v', w', r1, own_base r2 hbase, ⟨r3.os, r3.tape, r3.output, r3.size, fun k hk _ => r3.block k hk (by simp)⟩, fun k hk => Or.inr (r2.lt k hk).1⟩
/-- one more, that lies in the newest block -/
theorem append_one (base : Nat) (t e : TypeId) (i : TypeInfo) (z : Value) (bytes : Nat) (ht : P.underlying t = some (.slice e)) (hi : P.info? e = some i) (hz : i.zero = some z)
    (hsize : i.size = 1) (hby : i.bytes = bytes) (hzs : z.cells.size = 1) (v : Value) (n : Nat) (xs : List Value) (hown : w.ownsRow base e 1 v n xs) (x : Value) (g : Nat) (hg : g = w.heap.size) (hx : x.oneCell' = true)
    (h63 : n + 1 ≤ maxLen) (hbytes : (n + 1) * bytes ≤ 140737488355328) (hbase : base ≤ w.heap.size) :
    ∃ v' w', (Builtin.append_ #[t, t] t #[v, .slice (some ⟨g, 0, none⟩) 1 1]).run P (w.alloc (.cells #[x] e)) = .ok v' w' ∧ w'.ownsRow base e 1 v' (n + 1) (xs ++ [x]) ∧ w.grownBy w' v.ownBlock ∧ Moved w v v' := by
  subst hg
  obtain ⟨v', w', r1, r2, r3, r4⟩ := append_row (P := P) (w := w.alloc (.cells #[x] e)) base t t e i z bytes ht hi hz hsize hby hzs v n xs (hown.alloc _) ⟨w.heap.size, 0, none⟩ 1 1 [x] rfl
    (fun j u hj => by
      match j, hj with
      | 0, hj => simp at hj; subst hj; exact blk_cell (blk_new w _) (by rfl)
      | j + 1, hj => simp at hj)
    (fun u hu => by rw [List.mem_singleton.1 hu]; exact hx) h63 hbytes (by simp; omega)
  refine ⟨v', w', r1, r2, grown_trans (w1 := w.alloc (.cells #[x] e)) (World.grownBy_alloc w _ _) r3, fun k hk => ?_⟩
  rcases r4 k hk with h | h
  · exact Or.inl h
  · exact Or.inr (by simp at h; omega)
end
end Go.Proofs.YtamejgfmfneppaaDoor
