/- A byte is stored in the machine's memory. No condition. -/
import Derived.Test.YthkaachgfiljmaaMem
namespace Go.Proofs.Ythkaachgfiljmaa
open Go.RowKit
set_option linter.unusedVariables false
set_option maxHeartbeats 1000000
/-- behind a store: the same memory but for one function of bytes; only its blocks, and new ones, have turned -/
def Stored (w : World) (b : Nat) (size : Int) (f' : Int → Int) (S : Nat → Prop) (w' : World) : Prop :=
  ∃ S', Mem w' b size f' S' ∧ (∀ k, S' k → S k ∨ w.heap.size ≤ k) ∧ Only S w w'
theorem put_any (w : World) (b : Nat) (size : Int) (f : Int → Int) (S : Nat → Prop) (a c : Int) (h : Mem w b size f S) (ha : InU64 a) (hc : 0 ≤ c ∧ c ≤ 255) :
    Calls Try.prog 14 #[.pointer (some ⟨b, 0, none⟩), .int .u64 a, .int .u8 c] w
      fun e w' => e = .returned (.tuple #[]) ∧ Stored w b size (upd f a c) S w' := by
  obtain ⟨mp, es, clock, l, g, hb, hm, he, hp, hn, sb, sm, sp, hs, hf, ht⟩ := h
  have c1 : w.cell? ⟨b, 1, none⟩ = some (.map (some mp)) := blk_cell hb rfl
  have hlk := Mem.look hm he (a / 4096)
  cases hfi : l.find? (fun p => p.1 == a / 4096) with
  | none =>
    obtain ⟨es', l', g', S', W, hW, hes, hb', hm', he', hp', hn', sb', sm', sp', hs', hf', hfi', hS, hpg, ht'⟩ := Mem.new_page hb hm he hp hn sb sm sp hs hf ht a hfi
    rw [hfi] at hlk
    simp only [] at hlk
    have fin := Lib.hid (Mem.put_there hb' hm' he' hp' hn' sb' sm' sp' hs' hf' ht' a c hc _ hfi')
    have hst := run_store (P := Try.prog) Try.underlying40 Try.underlying23 (w := w.alloc (.cells zpage 46))
      (by rw [Below.heap_alloc _ _ _ (blk_lt hm)]; exact hm) he (a / 4096) (by rw [look_pgs, hfi]; rfl) (.pointer (some ⟨w.heap.size, 0, none⟩))
    have hst2 : (Instr.mapUpdate 40 (.map (some mp)) (.int .u64 (a / 4096)) (.pointer (some ⟨w.heap.size, 0, none⟩))).run Try.prog (w.alloc (.cells zpage 46)) = .ok () W := by
      rw [hst, hW, hes]; rfl
    have c2 : (w.alloc (.cells zpage 46)).cell? ⟨b, 1, none⟩ = some (.map (some mp)) := blk_cell (blk_alloc hb _) rfl
    have c3 : W.cell? ⟨w.heap.size, (a % 4096).toNat, none⟩ = some (.int .u8 0) := blk_cell hpg (zpage_at _ (by omega))
    have c4 : W.frozen? ⟨w.heap.size, (a % 4096).toNat, none⟩ = false := blk_free hpg
    have ho : Only S w W := by
      rw [hW]; exact ((Only.refl S w).alloc _).setBlk (Or.inr sm) _
    have hbd := build_page w
    obtain ⟨h1, h2⟩ := ha
    have HO := Lib.hid ho
    have HS := Lib.hid hS
    clear hst hW hes hb' hm' he' hp' hn' sb' sm' sp' hs' hf' hfi' hpg hb hm he hp hn sb sp hs hf hfi ho hS
    go_enter Try.func14, Try.ntmps14
    go_wp2_with (refine wpList_page rfl rfl ?_)
    go_returns
    exact ⟨rfl, S', fin.out, HS.out, HO.out.setCell (Or.inl (Nat.le_refl _)) _⟩
  | some p =>
    rw [hfi] at hlk
    simp only [] at hlk
    have hpl := List.mem_of_find?_eq_some hfi
    have hpS := Lib.hid (sp p hpl)
    have fin := Lib.hid (Mem.put_there hb hm he hp hn sb sm sp hs hf ht a c hc p hfi)
    obtain ⟨cs, hcs, hsz, hj⟩ := hp p hpl
    have c2 : w.cell? ⟨p.2, (a % 4096).toNat, none⟩ = some (.int .u8 (g p.2 (a % 4096).toNat)) := blk_cell hcs (hj _ (by omega)).1
    have c3 : w.frozen? ⟨p.2, (a % 4096).toNat, none⟩ = false := blk_free hcs
    obtain ⟨h1, h2⟩ := ha
    clear hb hm he hp hn sb sm sp hs hf hfi hcs hsz hj
    go_enter Try.func14, Try.ntmps14
    go_wp2
    go_returns
    exact ⟨rfl, S, fin.out, fun k hk => Or.inl hk, (Only.refl S w).setCell (Or.inr hpS.out) _⟩
end Go.Proofs.Ythkaachgfiljmaa
