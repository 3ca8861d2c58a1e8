/- FlowCopies: flow.Size. No condition. -/
import Derived.Test.YtdaildpfkchbhaaDoorFcA
import Derived.Test.YtdaildpfkchbhaaDoorRv
namespace Go.Proofs.YtdaildpfkchbhaaDoor
open Go.RowKit
set_option linter.unusedVariables false
set_option maxHeartbeats 4000000
/-- what a function shows to Size: its blocks, of each how many instructions -/
def SzB (cs : List Value) (l : Nat) : Prop := ∃ (A : Option Addr) (c : Nat) (t0 t1 t2 t3 t4 t5 t6 t7 : Int), cs = [.slice A l c, .int .i64 t0, .int .i64 t1, .int .i64 t2, .int .i64 t3, .int .i64 t4, .int .i64 t5, .int .i64 t6, .int .i64 t7]
def SzF (w : World) (cs : List Value) (ls : List Nat) : Prop := ∃ (s : ByteArray) (a r : Int) (A1 A2 : Option Addr) (n1 c1 n2 c2 : Nat) (vb : Value), cs = [.string s, .int .i64 a, .slice A1 n1 c1, .int .i64 r, .slice A2 n2 c2, vb] ∧ SlR w 9 SzB vb ls
def sumB : List Nat → Nat
  | [] => 0
  | l :: r => (l + 1) + sumB r
def sumF : List (List Nat) → Nat
  | [] => 0
  | ls :: r => sumB ls + sumF r
theorem sumB_append : ∀ l r, sumB (l ++ r) = sumB l + sumB r
  | [], r => by simp [sumB]
  | a :: l, r => by rw [List.cons_append, sumB, sumB, sumB_append l r]; omega
theorem sumF_append : ∀ l r, sumF (l ++ r) = sumF l + sumF r
  | [], r => by simp [sumF]
  | a :: l, r => by rw [List.cons_append, sumF, sumF, sumF_append l r]; omega
theorem sumB_take (ls : List Nat) (k l : Nat) (h : ls[k]? = some l) : sumB (ls.take (k + 1)) = sumB (ls.take k) + (l + 1) := by
  rw [List.take_add_one, h, sumB_append]; simp [sumB]
theorem sumF_take (ls : List (List Nat)) (k : Nat) (l : List Nat) (h : ls[k]? = some l) : sumF (ls.take (k + 1)) = sumF (ls.take k) + sumB l := by
  rw [List.take_add_one, h, sumF_append]; simp [sumF]
theorem sumB_le (ls : List Nat) (k : Nat) : sumB (ls.take k) ≤ sumB ls := by
  have := sumB_append (ls.take k) (ls.drop k); rw [List.take_append_drop] at this; omega
theorem sumF_le (ls : List (List Nat)) (k : Nat) : sumF (ls.take k) ≤ sumF ls := by
  have := sumF_append (ls.take k) (ls.drop k); rw [List.take_append_drop] at this; omega
set_option maxRecDepth 100000 in
theorem size_any (w : World) (pb : Nat) (v : Value) (lss : List (List Nat)) (hc : w.cell? ⟨pb, 0, none⟩ = some v) (h : SlR w 6 (SzF w) v lss) (hs : sumF lss ≤ 100000000) :
    Calls Tryd.prog 11 #[.pointer (some ⟨pb, 0, none⟩)] w fun e w' => e = .returned (.int .i64 (sumF lss : Nat)) ∧ Below w.heap.size w w' := by
  have HS := Lib.hid h
  obtain ⟨A, cap, rfl, _, hcap, _⟩ := h
  unfold maxLen at hcap
  obtain ⟨n, hn⟩ : ∃ n, n = lss.length := ⟨_, rfl⟩
  rw [← hn] at hc
  have hnl : n ≤ 9223372036854775807 := by omega
  have HN := Lib.hid hn
  have hb0 := World.block_lt_of_cell? _ _ hc
  have HSum := Lib.hid hs
  clear hn hcap hs
  go_enter Tryd.func11, Tryd.ntmps11
  go_wp2_with fail
  go_loopw [3, 13] (fun a i wr => ∃ k : Nat, k ≤ n ∧ i = .int .i64 k ∧ a = .int .i64 (sumF (lss.take k) : Nat) ∧ Below w.heap.size w wr) (fun _ i _ => n - (intOf i).toNat)
  case atStart => exact ⟨0, by omega, rfl, rfl, Below.refl _ _⟩
  case round =>
    obtain ⟨k, hk, rfl, rfl, hb⟩ := hrel
    have HB := Lib.hid hb
    clear hb
    by_cases hlt : k < n
    · have hlk : k < lss.length := by rw [← HN.out]; exact hlt
      obtain ⟨ls, hls⟩ : ∃ ls, lss[k]? = some ls := ⟨_, List.getElem?_eq_getElem hlk⟩
      have HT := Lib.hid (sumF_take lss k ls hls)
      have hle := Nat.le_trans (sumF_le lss (k + 1)) HSum.out
      rw [HT.out] at hle
      obtain ⟨_, _, hA', _, _, hl3⟩ := HS.out.later (by decide) HB.out
      cases hA'
      obtain ⟨lb, lo, cs, rfl, e1, e2, s, a0, r0, A1, A2, n1, c1, n2, c2, vb, e3, e4⟩ := hl3 k ls hls
      subst e3
      have HE := Lib.hid e4
      obtain ⟨BA, cb, rfl, _, hcb, _⟩ := id e4
      unfold maxLen at hcb
      obtain ⟨m, hm⟩ : ∃ m, m = ls.length := ⟨_, rfl⟩
      have q0 : wr.cell? ⟨lb, lo + k * 6, none⟩ = some (.string s) := e2 0 (by omega)
      have q1 := e2 1 (by omega)
      have q2 := e2 2 (by omega)
      have q3 := e2 3 (by omega)
      have q4 := e2 4 (by omega)
      have q5 := e2 5 (by omega)
      rw [← hm] at q5
      have hml : m ≤ 9223372036854775807 := by omega
      have HM := Lib.hid hm
      have hb1 := World.block_lt_of_cell? _ _ q0
      obtain ⟨S0, hS0⟩ : ∃ S0, S0 = sumF (lss.take k) := ⟨_, rfl⟩
      rw [← hS0] at hle HT ⊢
      clear e1 e2 hl3 hlk hls e4 hcb hm hS0
      go_wp2_with fail
      go_loopw [3, 20] (fun a i wx => ∃ j : Nat, j ≤ m ∧ i = .int .i64 j ∧ a = .int .i64 ((S0 + sumB (ls.take j) : Nat) : Int) ∧ Below w.heap.size w wx) (fun _ i _ => m - (intOf i).toNat)
      case atStart => exact ⟨0, by omega, rfl, rfl, below_over HB.out (below_alloc _ (Below.refl _ _))⟩
      case round =>
        obtain ⟨j, hj, rfl, rfl, hb⟩ := hrel
        have HB2 := Lib.hid hb
        clear hb
        by_cases hlj : j < m
        · have hlm : j < ls.length := by rw [← HM.out]; exact hlj
          obtain ⟨l, hl⟩ : ∃ l, ls[j]? = some l := ⟨_, List.getElem?_eq_getElem hlm⟩
          have HT2 := Lib.hid (sumB_take ls j l hl)
          have hle2 := sumB_le ls (j + 1)
          rw [HT2.out] at hle2
          obtain ⟨_, _, hA', _, _, hl3⟩ := HE.out.later (by decide) HB2.out
          cases hA'
          obtain ⟨ib, io, cs, rfl, e1, e2, IA, ic, t0, t1, t2, t3, t4, t5, t6, t7, e3⟩ := hl3 j l hl
          subst e3
          have z0 : wr.cell? ⟨ib, io + j * 9, none⟩ = some (.slice IA l ic) := e2 0 (by omega)
          have z1 := e2 1 (by omega)
          have z2 := e2 2 (by omega)
          have z3 := e2 3 (by omega)
          have z4 := e2 4 (by omega)
          have z5 := e2 5 (by omega)
          have z6 := e2 6 (by omega)
          have z7 := e2 7 (by omega)
          have z8 := e2 8 (by omega)
          have hb2 := World.block_lt_of_cell? _ _ z0
          obtain ⟨S1, hS1⟩ : ∃ S1, S1 = sumB (ls.take j) := ⟨_, rfl⟩
          rw [← hS1] at hle2 HT2 ⊢
          have hl9 : l ≤ 100000000 := by omega
          have hs9 : ((S0 + S1 : Nat) : Int) ≤ 100000000 := by omega
          have hs8 : (0 : Int) ≤ ((S0 + S1 : Nat) : Int) := by omega
          obtain ⟨X, hX⟩ : ∃ X : Int, X = ((S0 + S1 : Nat) : Int) := ⟨_, rfl⟩
          rw [← hX] at hs9 hs8 ⊢
          have HX := Lib.hid hX
          have HBn := Lib.hid (below_over HB2.out (below_alloc (.cells #[.slice IA l ic, .int .i64 t0, .int .i64 t1, .int .i64 t2, .int .i64 t3, .int .i64 t4, .int .i64 t5, .int .i64 t6, .int .i64 t7] 41) (Below.refl wr.heap.size wr)))
          clear e1 e2 hl3 hlm hl hS1 hX hle hle2
          go_wp2_with fail
          go_roundw
          case rel => exact ⟨j + 1, by omega, by go_num, by rw [HX.out, HT2.out]; go_num, HBn.out⟩
          case measure => simp [intOf]; omega
        · have e : j = m := by omega
          subst e
          have HR := Lib.hid (show ((S0 + sumB (ls.take j) : Nat) : Int) = ((sumF (lss.take (k + 1)) : Nat) : Int) by rw [HT.out, HM.out, List.take_length])
          clear hle q0 q1 q2 q3 q4 q5
          go_wp2_with fail
          go_roundw
          case rel => exact ⟨k + 1, by omega, by go_num, by rw [HR.out], HB2.out⟩
          case measure => simp [intOf]; omega
    · have e : k = n := by omega
      subst e
      go_wp2_with fail
      go_returns
      exact ⟨by rw [HN.out, List.take_length]; rfl, HB.out⟩
end Go.Proofs.YtdaildpfkchbhaaDoor
