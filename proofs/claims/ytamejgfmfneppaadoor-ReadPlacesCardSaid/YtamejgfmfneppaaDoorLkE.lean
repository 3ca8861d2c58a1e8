/- ReadPlaces: the law's program, linked, plain. No condition. -/
import Derived.Test.YtamejgfmfneppaaDoorLkP
namespace Go.Proofs.YtamejgfmfneppaaDoor
open Go.RowKit
set_option linter.unusedVariables false
set_option maxRecDepth 100000
def bz : ByteArray := ⟨⟨[]⟩⟩
def startB : ByteArray := ⟨⟨[46, 115, 116, 97, 114, 116]⟩⟩
def fB : ByteArray := ⟨⟨[95, 102]⟩⟩
def gxB : ByteArray := ⟨⟨[103, 95, 120]⟩⟩
def gyB : ByteArray := ⟨⟨[103, 95, 121]⟩⟩
def insI (op dst : Int) (to_ : ByteArray) : XInsD := { op := op, dst := dst, src := 0, imm := 0, size := 0, signed := false, cond := 0, to_ := to_ }
def labI (s : ByteArray) : XItemD := { label := s, ins := insI 0 0 bz }
def opI (op dst : Int) (to_ : ByteArray) : XItemD := { label := bz, ins := insI op dst to_ }
def rowX : List XItemD := [opI 33 0 fB, opI 6 1 gyB, opI 6 2 fB, opI 35 0 startB]
def fenI : XItemD := opI 39 0 bz
def codeB (back : Bool) (b : Nat) : List XItemD := [labI startB] ++ ((if back then rowX else []) ++ (List.replicate b fenI ++ ([labI fB, opI 38 0 bz] ++ (if back then [] else rowX))))
def dataB (n : Nat) : List XDatumD := [{ kind := 5, name := bz, data := [], n := n }, { kind := 0, name := gxB, data := [], n := 0 }, { kind := 5, name := bz, data := [], n := 3 }, { kind := 0, name := gyB, data := [], n := 0 }]
def psD (n : Nat) : Plc := [(nmL gxB, 65536 + (n : Int)), (nmL gyB, 65536 + ((n : Int) + 3))]
theorem data_fold (n : Nat) (hn : n < 50) : (dataB n).foldlM datS (0, []) = .ok ((n : Int) + 3, psD n) := by
  have h1 : datS (0, []) { kind := 5, name := bz, data := [], n := (n : Int) } = .ok ((n : Int), []) := by
    unfold datS datE
    rw [if_neg (show ¬ (5 : Int) = 0 by decide), if_neg (show ¬ (5 : Int) = 1 by decide), if_neg (show ¬ (5 : Int) = 2 by decide), if_neg (by simp only [not_or]; omega), if_neg (by simp only; omega)]
    simp
  have h2 : datS ((n : Int), []) { kind := 0, name := gxB, data := [], n := 0 } = .ok ((n : Int), [(nmL gxB, 65536 + (n : Int))]) := by
    unfold datS datE
    rw [if_pos rfl]
    simp only [lookI_nil]
    rw [if_neg (by omega)]; rfl
  have h3 : datS ((n : Int), [(nmL gxB, 65536 + (n : Int))]) { kind := 5, name := bz, data := [], n := 3 } = .ok ((n : Int) + 3, [(nmL gxB, 65536 + (n : Int))]) := by
    unfold datS datE
    rw [if_neg (by decide), if_neg (by decide), if_neg (by decide), if_neg (by decide), if_neg (by simp only; omega)]
  have h4 : datS ((n : Int) + 3, [(nmL gxB, 65536 + (n : Int))]) { kind := 0, name := gyB, data := [], n := 0 } = .ok ((n : Int) + 3, psD n) := by
    unfold datS datE
    rw [if_pos rfl]
    have h : lookI [(nmL gxB, 65536 + (n : Int))] (nmL gyB) = none := rfl
    simp only [h]
    rw [if_neg (by omega)]; rfl
  unfold dataB
  rw [List.foldlM_cons, h1]
  show (List.foldlM datS _ _ = _)
  rw [List.foldlM_cons, h2]
  show (List.foldlM datS _ _ = _)
  rw [List.foldlM_cons, h3]
  show (List.foldlM datS _ _ = _)
  rw [List.foldlM_cons, h4]
  rfl
theorem it_op (s : Int × Plc × Plc) (op dst : Int) (to_ : ByteArray) : itS s (opI op dst to_) = .ok (s.1 + 1, s.2.1, s.2.2) := rfl
theorem it_rep : ∀ (b : Nat) (s : Int × Plc × Plc), (List.replicate b fenI).foldlM itS s = .ok (s.1 + b, s.2.1, s.2.2)
  | 0, s => by simp [List.foldlM]; rfl
  | b + 1, s => by
    rw [List.replicate_succ, List.foldlM_cons, show fenI = opI 39 0 bz from rfl, it_op]
    show (List.foldlM itS _ _ = _)
    rw [show opI 39 0 bz = fenI from rfl, it_rep b]
    simp only [Int.natCast_add, Int.natCast_one]
    congr 2
    omega
/-- where _f stands -/
def fAt (back : Bool) (b : Nat) : Int := if back then (b : Int) + 4 else b
def psC (back : Bool) (b n : Nat) : Plc := psD n ++ [(nmL startB, 4194304 + 0)] ++ [(nmL fB, 4194304 + fAt back b)]
def csC (back : Bool) (b : Nat) : Plc := [(nmL startB, 0)] ++ [(nmL fB, fAt back b)]
theorem it_f (a : Int) (n : Nat) : itS (a, psD n ++ [(nmL startB, 4194304 + 0)], [(nmL startB, 0)]) (labI fB) = .ok (a, psD n ++ [(nmL startB, 4194304 + 0)] ++ [(nmL fB, 4194304 + a)], [(nmL startB, 0)] ++ [(nmL fB, a)]) := rfl
theorem it_start (n : Nat) : itS (0, psD n, []) (labI startB) = .ok (0, psD n ++ [(nmL startB, 4194304 + 0)], [(nmL startB, 0)]) := rfl
theorem it_rowX (s : Int × Plc × Plc) : rowX.foldlM itS s = .ok (s.1 + 1 + 1 + 1 + 1, s.2.1, s.2.2) := rfl
theorem code_fold (back : Bool) (b n : Nat) : ∃ at_, (codeB back b).foldlM itS (0, psD n, []) = .ok (at_, psC back b n, csC back b) := by
  unfold codeB
  rw [List.foldlM_append, List.foldlM_cons, it_start]
  show ∃ at_, (List.foldlM itS _ _ = _)
  rw [List.foldlM_append]
  cases back with
  | true =>
    rw [if_pos rfl, it_rowX]
    show ∃ at_, (List.foldlM itS _ _ = _)
    rw [List.foldlM_append, it_rep]
    show ∃ at_, (List.foldlM itS _ _ = _)
    rw [if_pos rfl, List.append_nil, List.foldlM_cons, it_f]
    refine ⟨(0 : Int) + 1 + 1 + 1 + 1 + b + 1, ?_⟩
    show (List.foldlM itS _ _ = _)
    rw [List.foldlM_cons, it_op]
    show Except.ok _ = _
    simp only [psC, csC, fAt, if_true]
    rw [show (0 : Int) + 1 + 1 + 1 + 1 + b = b + 4 by omega]
  | false =>
    rw [if_neg (by decide)]
    show ∃ at_, (List.foldlM itS _ _ = _)
    rw [List.foldlM_append, it_rep]
    show ∃ at_, (List.foldlM itS _ _ = _)
    rw [if_neg (by decide), List.foldlM_append, List.foldlM_cons, it_f]
    refine ⟨(0 : Int) + b + 1 + 1 + 1 + 1 + 1, ?_⟩
    show (List.foldlM itS _ _ >>= _ = _)
    rw [List.foldlM_cons, it_op]
    show (List.foldlM itS _ _ = _)
    rw [it_rowX]
    simp only [psC, csC, fAt]
    rw [show (0 : Int) + b = b by omega]
    rfl
/-- what is a call behind -/
theorem ln_sites (right : XInsD → Bool) (ps cs : Plc) : ∀ (l : List XItemD) (s r : List XInsD × List Bool), l.foldlM (lnS right ps cs) s = .ok r → s.2.length = s.1.length → (∀ i, i < s.1.length → s.2[i]? = some (lastCall (s.1.take i))) →
    r.2.length = r.1.length ∧ ∀ i, i < r.1.length → r.2[i]? = some (lastCall (r.1.take i))
  | [], s, r, h, h1, h2 => by
    simp only [List.foldlM_nil] at h
    cases h
    exact ⟨h1, h2⟩
  | x :: l, s, r, h, h1, h2 => by
    rw [List.foldlM_cons] at h
    cases hx : lnS right ps cs s x with
    | error e => rw [hx] at h; cases h
    | ok s1 =>
      rw [hx] at h
      have hp : ∀ y, lnPut s y = .ok s1 → s1.2.length = s1.1.length ∧ ∀ i, i < s1.1.length → s1.2[i]? = some (lastCall (s1.1.take i)) := by
        intro y hy
        unfold lnPut at hy
        cases hy
        refine ⟨by simp [h1], fun i hi => ?_⟩
        simp only [List.length_append, List.length_singleton] at hi
        by_cases hlt : i < s.1.length
        · simp only
          rw [List.getElem?_append_left (by omega), List.take_append_of_le_length (by omega)]
          exact h2 i hlt
        · have e : i = s.1.length := by omega
          subst e
          simp only
          rw [List.getElem?_append_right (by omega), h1, Nat.sub_self, List.take_left']
          · rfl
          · rfl
      have hs : s1.2.length = s1.1.length ∧ ∀ i, i < s1.1.length → s1.2[i]? = some (lastCall (s1.1.take i)) := by
        unfold lnS at hx
        by_cases c1 : nmL x.label ≠ []
        · rw [if_pos c1] at hx; cases hx; exact ⟨h1, h2⟩
        · rw [if_neg c1] at hx
          by_cases c2 : right x.ins = false
          · rw [if_pos c2] at hx; cases hx
          · rw [if_neg c2] at hx
            by_cases c3 : x.ins.op = 6
            · rw [if_pos c3] at hx
              cases hl : lookI ps (nmL x.ins.to_) with
              | none => rw [hl] at hx; cases hx
              | some a => rw [hl] at hx; exact hp _ hx
            · rw [if_neg c3] at hx
              by_cases c4 : x.ins.op = 33 ∨ x.ins.op = 34 ∨ x.ins.op = 35
              · rw [if_pos c4] at hx
                cases hl : lookI cs (nmL x.ins.to_) with
                | none => rw [hl] at hx; cases hx
                | some a => rw [hl] at hx; exact hp _ hx
              · rw [if_neg c4] at hx; exact hp _ hx
      exact ln_sites right ps cs l s1 r h hs.1 hs.2
def rt (x : XInsD) : Bool := true
theorem ln_rep (ps cs : Plc) : ∀ (b : Nat) (s : List XInsD × List Bool), ∃ ss2, (List.replicate b fenI).foldlM (lnS rt ps cs) s = .ok (s.1 ++ List.replicate b fenI.ins, ss2)
  | 0, s => ⟨s.2, by simp only [List.replicate_zero, List.foldlM_nil, List.append_nil]; rfl⟩
  | b + 1, s => by
    obtain ⟨ss2, h⟩ := ln_rep ps cs b (s.1 ++ [fenI.ins], s.2 ++ [lastCall s.1])
    refine ⟨ss2, ?_⟩
    rw [List.replicate_succ, List.foldlM_cons]
    show (List.foldlM (lnS rt ps cs) _ _ = _)
    rw [show (List.foldlM (lnS rt ps cs) (s.1 ++ [fenI.ins], s.2 ++ [lastCall s.1]) (List.replicate b fenI)) = _ from h]
    simp only [List.append_assoc, List.replicate_succ, List.singleton_append]
/-- the row X, linked -/
def rowY (back : Bool) (b n : Nat) : List XInsD := [{ insI 33 0 fB with imm := fAt back b }, { insI 6 1 gyB with imm := 65536 + ((n : Int) + 3) }, { insI 6 2 fB with imm := 4194304 + fAt back b }, { insI 35 0 startB with imm := 0 }]
theorem ln_rowX (back : Bool) (b n : Nat) (s : List XInsD × List Bool) : ∃ ss2, rowX.foldlM (lnS rt (psC back b n) (csC back b)) s = .ok (s.1 ++ rowY back b n, ss2) := by
  refine ⟨s.2 ++ [lastCall s.1] ++ [lastCall (s.1 ++ [{ insI 33 0 fB with imm := fAt back b }])] ++ [lastCall (s.1 ++ [{ insI 33 0 fB with imm := fAt back b }] ++ [{ insI 6 1 gyB with imm := 65536 + ((n : Int) + 3) }])] ++ [lastCall (s.1 ++ [{ insI 33 0 fB with imm := fAt back b }] ++ [{ insI 6 1 gyB with imm := 65536 + ((n : Int) + 3) }] ++ [{ insI 6 2 fB with imm := 4194304 + fAt back b }])], ?_⟩
  rw [show s.1 ++ rowY back b n = s.1 ++ [{ insI 33 0 fB with imm := fAt back b }] ++ [{ insI 6 1 gyB with imm := 65536 + ((n : Int) + 3) }] ++ [{ insI 6 2 fB with imm := 4194304 + fAt back b }] ++ [{ insI 35 0 startB with imm := 0 }] by simp [rowY]]
  rfl
def codeY (back : Bool) (b n : Nat) : List XInsD := (if back then rowY back b n else []) ++ (List.replicate b fenI.ins ++ ([insI 38 0 bz] ++ (if back then [] else rowY back b n)))
theorem ln_fold (back : Bool) (b n : Nat) : ∃ ss, (codeB back b).foldlM (lnS rt (psC back b n) (csC back b)) ([], []) = .ok (codeY back b n, ss) := by
  unfold codeB
  rw [List.foldlM_append, List.foldlM_cons]
  show ∃ ss, (List.foldlM _ _ _ = _)
  rw [List.foldlM_append]
  cases back with
  | true =>
    obtain ⟨s1, h1⟩ := ln_rowX true b n ([], [])
    obtain ⟨s2, h2⟩ := ln_rep (psC true b n) (csC true b) b (rowY true b n, s1)
    rw [if_pos rfl, h1]
    show ∃ ss, (List.foldlM _ _ _ = _)
    rw [List.foldlM_append, show [] ++ rowY true b n = rowY true b n from rfl, h2]
    exact ⟨_, rfl⟩
  | false =>
    obtain ⟨s2, h2⟩ := ln_rep (psC false b n) (csC false b) b ([], [])
    rw [if_neg (by decide)]
    show ∃ ss, (List.foldlM _ _ _ = _)
    rw [List.foldlM_append, h2]
    show ∃ ss, (List.foldlM _ _ _ = _)
    obtain ⟨s3, h3⟩ := ln_rowX false b n ([] ++ List.replicate b fenI.ins ++ [insI 38 0 bz], s2 ++ [lastCall ([] ++ List.replicate b fenI.ins)])
    refine ⟨s3, ?_⟩
    rw [if_neg (by decide), List.foldlM_append]
    show (List.foldlM _ _ _ = _)
    refine Eq.trans h3 ?_
    simp [codeY]
end Go.Proofs.YtamejgfmfneppaaDoor
