/- Walks: a new memory of the machine. No condition. -/
import Derived.Test.YthkaachgfiljmaaMemOps
namespace Go.Proofs.Ythkaachgfiljmaa
open Go.RowKit
set_option linter.unusedVariables false
set_option maxHeartbeats 1000000
/-- a slice's value reads as these bytes, so many -/
def Bytes (w : World) (v : Value) (len : Nat) (d : Nat → Int) : Prop :=
  (v = .slice none 0 0 ∧ len = 0) ∨
  ∃ db off cap, v = .slice (some ⟨db, off, none⟩) len cap ∧ len ≤ cap ∧ cap ≤ 9223372036854775807 ∧ db < w.heap.size ∧ ∀ i, i < len → w.cell? ⟨db, off + i, none⟩ = some (.int .u8 (d i)) ∧ 0 ≤ d i ∧ d i ≤ 255
/-- a new memory's bytes, k of them laid -/
def newF (d : Nat → Int) (k : Nat) (x : Int) : Int := if 65536 ≤ x ∧ x < 65536 + k then d (x - 65536).toNat else 0
theorem newF_zero (d : Nat → Int) : newF d 0 = fun _ => 0 := by funext x; unfold newF; rw [if_neg (by omega)]
theorem newF_step (d : Nat → Int) (k : Nat) : upd (newF d k) (65536 + k) (d k) = newF d (k + 1) := by
  funext x
  unfold upd newF
  by_cases h : x = 65536 + k
  · subst h
    rw [if_pos rfl, if_pos (by omega), show ((65536 + (k : Int)) - 65536).toNat = k by omega]
  · rw [if_neg h]
    by_cases h2 : 65536 ≤ x ∧ x < 65536 + k
    · rw [if_pos h2, if_pos (by omega)]
    · rw [if_neg h2, if_neg (by omega)]
theorem Mem.empty {w : World} {b mp : Nat} (size : Int) (clock : Nat) (hb : w.heap[b]? = some (.cells #[.int .u64 size, .map (some mp)] 42 (0, 0))) (hm : w.heap[mp]? = some (.map #[] clock)) :
    Mem w b size (fun _ => 0) (fun k => k = b ∨ k = mp) :=
  ⟨mp, #[], clock, [], fun _ _ => 0, hb, hm, rfl, (fun _ h => by cases h), List.nodup_nil, Or.inl rfl, Or.inr rfl, (fun _ h => by cases h), (fun k hk => by rcases hk with rfl | rfl; exact blk_lt hb; exact blk_lt hm), fun _ => rfl, (fun _ h => by cases h), List.nodup_nil, List.nodup_nil⟩
/-- a new memory, pointed to by a value -/
def Newly (w : World) (size : Int) (f : Int → Int) (e : Ending) (w' : World) : Prop :=
  ∃ b S, e = .returned (.pointer (some ⟨b, 0, none⟩)) ∧ Mem w' b size f S ∧ (∀ k, S k → w.heap.size ≤ k) ∧ Below w.heap.size w w'
theorem min_le (w : World) (len : Nat) (h : (len : Int) ≤ 65536) : (Builtin.min_ #[3, 3] 3 #[.int .i64 len, .int .i64 65536]).run Try.prog w = .ok (.int .i64 len) w := by
  have h2 : ¬ (65536 : Int) < len := by omega
  simp only [Builtin.min_, List.foldlM_cons, List.foldlM_nil, Builtin.min2, if_neg h2]
  rfl
theorem min_gt (w : World) (len : Nat) (h : ¬ (len : Int) ≤ 65536) : (Builtin.min_ #[3, 3] 3 #[.int .i64 len, .int .i64 65536]).run Try.prog w = .ok (.int .i64 (65536 : Nat)) w := by
  have h2 : (65536 : Int) < len := by omega
  simp only [Builtin.min_, List.foldlM_cons, List.foldlM_nil, Builtin.min2, if_pos h2]
  rfl
theorem new_walk (w : World) (db off cap len n : Nat) (d : Nat → Int) (hn : n = min len 65536) (hl : len ≤ cap) (hc : cap ≤ 9223372036854775807) (hdb : db < w.heap.size)
    (hd : ∀ i, i < len → w.cell? ⟨db, off + i, none⟩ = some (.int .u8 (d i)) ∧ 0 ≤ d i ∧ d i ≤ 255) :
    Calls Try.prog 7 #[.slice (some ⟨db, off, none⟩) len cap] w (Newly w n (newF d n)) := by
  have HD := Lib.hid hd
  have hn1 : n ≤ 65536 := by omega
  have hn2 : n ≤ len := by omega
  clear hd
  have hmin : ∀ w, (Builtin.min_ #[3, 3] 3 #[.int .i64 len, .int .i64 65536]).run Try.prog w = .ok (.int .i64 n) w := by
    intro w
    subst hn
    by_cases hlen : len ≤ 65536
    · rw [Nat.min_eq_left hlen]
      exact min_le w len (by omega)
    · rw [Nat.min_eq_right (by omega)]
      exact min_gt w len (by omega)
  clear hn
  have hmm := @run_makeMap Try.prog
  have hb0 : ((w.alloc (.map #[] 0)).alloc (.cells #[.int .u64 (n : Int), .map (some w.heap.size)] 42)).heap[w.heap.size + 1]? = some (.cells #[.int .u64 (n : Int), .map (some w.heap.size)] 42 (0, 0)) := by
    have := blk_new (w.alloc (.map #[] 0)) (.cells #[.int .u64 (n : Int), .map (some w.heap.size)] 42)
    simpa using this
  have hm0 : ((w.alloc (.map #[] 0)).alloc (.cells #[.int .u64 (n : Int), .map (some w.heap.size)] 42)).heap[w.heap.size]? = some (.map #[] 0) := blk_alloc (blk_new w _) _
  have hE := Lib.hid (Mem.empty (n : Int) 0 hb0 hm0)
  clear hb0 hm0
  go_enter Try.func7, Try.ntmps7
  go_wp2_with fail
  go_loopw [19] (fun i wr => ∃ k : Nat, ∃ S, k ≤ n ∧ i = .int .i64 k ∧ Mem wr (w.heap.size + 1) (n : Int) (newF d k) S ∧ (∀ j, S j → w.heap.size ≤ j) ∧ Below w.heap.size w wr) (fun i _ => n - (intOf i).toNat)
  case atStart => exact ⟨0, _, by omega, rfl, by rw [newF_zero]; exact hE.out, (fun j hj => by rcases hj with rfl | rfl <;> omega), below_alloc _ (below_alloc _ (Below.refl _ _))⟩
  case round =>
    obtain ⟨k, S, hk, rfl, hm, hs, kb⟩ := hrel
    by_cases hlt : k < n
    · obtain ⟨hc1, hc2, hc3⟩ := HD.out k (by omega)
      have c1 : wr.cell? ⟨db, off + k, none⟩ = some (.int .u8 (d k)) := by rw [kb.cell hdb]; exact hc1
      have hP := Lib.hid (fun hx => put_any wr (w.heap.size + 1) (n : Int) (newF d k) S (65536 + k) (d k) hm hx ⟨hc2, hc3⟩)
      have hS := Lib.hid hs
      have hst := Lib.hid (newF_step d k)
      clear hc1 hm hs
      generalize d k = c at *
      go_wp2_with fail
      refine (hP.out ⟨by omega, by omega⟩).mono ?_
      rintro e w2 ⟨rfl, S2, hm2, hs2, ho2⟩
      have HM2 := Lib.hid hm2
      have HS2 := Lib.hid hs2
      have HO2 := Lib.hid ho2
      clear hm2 hs2 ho2
      go_wp2_with fail
      go_roundw
      case rel =>
        refine ⟨k + 1, S2, by omega, by go_num, by rw [← hst.out]; exact HM2.out, fun j hj => ?_, kb.trans (HO2.out.below kb.size hS.out)⟩
        rcases HS2.out j hj with h | h
        · exact hS.out j h
        · exact Nat.le_trans kb.size h
      case measure => simp [intOf]; omega
    · have e : k = n := by omega
      subst e
      have HM := Lib.hid hm
      have HS := Lib.hid hs
      clear hm hs
      go_wp2_with fail
      go_returns
      exact ⟨_, S, rfl, HM.out, HS.out, kb⟩
theorem new_none (w : World) (d : Nat → Int) : Calls Try.prog 7 #[.slice none 0 0] w (Newly w 0 (newF d 0)) := by
  have hmm := @run_makeMap Try.prog
  have hb0 : ((w.alloc (.map #[] 0)).alloc (.cells #[.int .u64 0, .map (some w.heap.size)] 42)).heap[w.heap.size + 1]? = some (.cells #[.int .u64 0, .map (some w.heap.size)] 42 (0, 0)) := by
    have := blk_new (w.alloc (.map #[] 0)) (.cells #[.int .u64 0, .map (some w.heap.size)] 42)
    simpa using this
  have hm0 : ((w.alloc (.map #[] 0)).alloc (.cells #[.int .u64 0, .map (some w.heap.size)] 42)).heap[w.heap.size]? = some (.map #[] 0) := blk_alloc (blk_new w _) _
  have hE := Lib.hid (Mem.empty 0 0 hb0 hm0)
  clear hb0 hm0
  go_enter Try.func7, Try.ntmps7
  go_wp2
  go_rounds 1
  go_returns
  exact ⟨_, _, rfl, by rw [newF_zero]; exact hE.out, (fun j hj => by rcases hj with rfl | rfl <;> omega), below_alloc _ (below_alloc _ (Below.refl _ _))⟩
theorem new_any (w : World) (v : Value) (len n : Nat) (d : Nat → Int) (hn : n = min len 65536) (h : Bytes w v len d) :
    Calls Try.prog 7 #[v] w (Newly w n (newF d n)) := by
  rcases h with ⟨rfl, rfl⟩ | ⟨db, off, cap, rfl, hl, hc, hdb, hd⟩
  · have : n = 0 := by omega
    subst this
    exact new_none w d
  · exact new_walk w db off cap len n d hn hl hc hdb hd
end Go.Proofs.Ythkaachgfiljmaa
