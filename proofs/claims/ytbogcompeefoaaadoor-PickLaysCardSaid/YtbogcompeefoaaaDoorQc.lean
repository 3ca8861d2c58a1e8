/- Which instructions may be (what is asked). Walks: an rtl program's arguments, what is read, where ends lead. Walks: what instructions and ends read, where ends lead. pick: lines of code, what the law asks of them, plain. Walks: may a global be?. PickData: what the data's items add up to. Plain. Rows copied into new memory: append(nil, v...). pick: a picker in memory, its lines; one line more. pick: which lines are good, plain. No condition. -/
import Derived.Test.YtbogcompeefoaaaDoorLib
import Derived.Test.YtbogcompeefoaaaDoorChecked
import Derived.Test.YtbogcompeefoaaaDoorRp
import Derived.IntWalk
import Derived.Test.YtbogcompeefoaaaDoorQb
import Derived.Laws.OwnMore
import Derived.OwnWalk
import Derived.Lib.ItoaLen
import Derived.ArgAppend
import Derived.OneCell
namespace Go.Proofs.YtbogcompeefoaaaDoor
open Go.RowKit
set_option linter.unusedVariables false
set_option maxHeartbeats 8000000
/-- the letters of an operation, as conditions on its number -/
def lD (op : Int) : Prop := op ≤ 6 ∨ (7 ≤ op ∧ op ≤ 26) ∨ (28 ≤ op ∧ op ≤ 32) ∨ op = 36 ∨ op = 37 ∨ op = 40
def lS (op : Int) : Prop := op = 1 ∨ (3 ≤ op ∧ op ≤ 5) ∨ (7 ≤ op ∧ op ≤ 13) ∨ op = 30 ∨ op = 32
def lI (op : Int) : Prop := (2 ≤ op ∧ op ≤ 5) ∨ (14 ≤ op ∧ op ≤ 20) ∨ (24 ≤ op ∧ op ≤ 26)
def lZ (op : Int) : Prop := op = 3 ∨ op = 4 ∨ op = 30
def lG (op : Int) : Prop := op = 3 ∨ op = 30
def lC (op : Int) : Prop := op = 31 ∨ op = 32 ∨ op = 34
def lT (op : Int) : Prop := op = 6 ∨ (33 ≤ op ∧ op ≤ 35)
/-- may an instruction be? (s: 1 if it is signed; e: 1 if its label is empty) -/
def RP (op dst src imm size s cond e : Int) : Prop :=
  1 ≤ op ∧ op ≤ 41 ∧ 0 ≤ dst ∧ dst ≤ 15 ∧ 0 ≤ src ∧ src ≤ 15 ∧ (op = 2 ∨ (-2147483648 ≤ imm ∧ imm ≤ 2147483647)) ∧
  (lD op ∨ dst = 0) ∧ (lS op ∨ src = 0) ∧ (lI op ∨ imm = 0) ∧ (lZ op ∨ size = 0) ∧ (lG op ∨ ¬ s = 1) ∧ (lC op ∨ cond = 0) ∧ (lT op ∨ e = 1) ∧
  (¬ lZ op ∨ size = 1 ∨ size = 2 ∨ size = 4 ∨ (size = 8 ∧ ¬ op = 30)) ∧ ¬ (s = 1 ∧ size = 8) ∧ (¬ lC op ∨ (0 ≤ cond ∧ cond ≤ 9)) ∧ (¬ (24 ≤ op ∧ op ≤ 26) ∨ (0 ≤ imm ∧ imm ≤ 63))
def RightIs (R : Prop) (en : Ending) : Prop := ∃ b : Bool, en = .returned (.bool b) ∧ (b = true ↔ R)
theorem ret_rp_true {R : Prop} (h : R) : RightIs R (.returned (.bool true)) := ⟨true, rfl, by simpa using h⟩
theorem ret_rp_false {R : Prop} (h : ¬ R) : RightIs R (.returned (.bool false)) := ⟨false, rfl, by simpa using h⟩
theorem ret_rp {R : Prop} {b : Bool} (h : b = true ↔ R) : RightIs R (.returned (.bool b)) := ⟨b, rfl, h⟩
theorem no_arith {op dst src imm size s cond e : Int} (h : op < 1 ∨ 41 < op ∨ dst < 0 ∨ 15 < dst ∨ src < 0 ∨ 15 < src ∨ (¬ op = 2 ∧ (imm < -2147483648 ∨ 2147483647 < imm))) : ¬ RP op dst src imm size s cond e := by
  unfold RP; omega
end Go.Proofs.YtbogcompeefoaaaDoor
namespace Go.Proofs.YtbogcompeefoaaaDoor
open Go.RowKit
set_option linter.unusedVariables false
set_option maxHeartbeats 1000000
/-- are registers there? -/
def argsB (regs : Int) (l : List ArgD) : Bool := l.all fun a => !(decide (a.reg < -1) || decide (regs ≤ a.reg))
theorem argsB_take (regs : Int) (l : List ArgD) (k : Nat) (a : ArgD) (h : l[k]? = some a) : argsB regs (l.take (k + 1)) = (argsB regs (l.take k) && !(decide (a.reg < -1) || decide (regs ≤ a.reg))) := by
  unfold argsB
  rw [List.take_add_one, h]
  simp
theorem argsB_no (regs : Int) (l : List ArgD) (k : Nat) (a : ArgD) (h : l[k]? = some a) (hn : (decide (a.reg < -1) || decide (regs ≤ a.reg)) = true) : argsB regs l = false := by
  unfold argsB
  rw [List.all_eq_false]
  exact ⟨a, List.mem_of_getElem? h, by rw [hn]; decide⟩
/-- cells that stand, later on -/
theorem later {w w' : World} {a : Addr} {v : Value} (h : w.cell? a = some v) (hb : Below w.heap.size w w') : w'.cell? a = some v := (hb.cell (World.block_lt_of_cell? w _ h)).trans h
theorem SlR.later {α : Type} {w w' : World} {C : Nat} {R : List Value → α → Prop} {v : Value} {xs : List α} (h : SlR w C R v xs) (hC : 0 < C) (hb : Below w.heap.size w w') : SlR w' C R v xs := by
  obtain ⟨A, cap, h1, h2, h3, h4⟩ := h
  refine ⟨A, cap, h1, h2, h3, fun i x hi => ?_⟩
  obtain ⟨b, o, cs, g1, g2, g3, g4⟩ := h4 i x hi
  refine ⟨b, o, cs, g1, g2, fun j hj => ?_, g4⟩
  have hj2 : j < cs.length := by omega
  have e := g3 j hj
  rw [List.getElem?_eq_getElem hj2] at e ⊢
  exact Go.Proofs.YtbogcompeefoaaaDoor.later e hb
set_option maxRecDepth 100000 in
theorem args_any (w : World) (fb fo : Nat) (regs : Int) (v : Value) (l : List ArgD) (hf : w.cell? ⟨fb, fo + 3, none⟩ = some (.int .i64 regs)) (hr : In64 regs) (hl : SlR w 2 ArgR v l) :
    Calls Tryd.prog 29 #[.pointer (some ⟨fb, fo, none⟩), v] w fun e w' => e = .returned (.bool (argsB regs l)) ∧ Below w.heap.size w w' := by
  obtain ⟨A, cap, rfl, hl1, hl2, hl3⟩ := hl
  unfold maxLen at hl2
  have HL := Lib.hid hl3
  have hlen : l.length ≤ 9223372036854775807 := by omega
  obtain ⟨n, hn⟩ : ∃ n, n = l.length := ⟨_, rfl⟩
  rw [← hn] at hlen ⊢
  have HN := Lib.hid hn
  obtain ⟨hr1, hr2⟩ := hr
  clear hl1 hl2 hl3 hn
  go_enter Tryd.func29, Tryd.ntmps29
  go_wp2_with fail
  go_loopw [9] (fun i wr => ∃ k : Nat, k ≤ n ∧ i = .int .i64 k ∧ argsB regs (l.take k) = true ∧ Below w.heap.size w wr) (fun i _ => n - (intOf i).toNat)
  case atStart => exact ⟨0, by omega, rfl, rfl, Below.refl _ _⟩
  case round =>
    obtain ⟨k, hk, rfl, hab, hb⟩ := hrel
    have HA := Lib.hid hab
    have HB := Lib.hid hb
    have hf' := later hf hb
    have hfl := World.block_lt_of_cell? _ _ hf'
    clear hab hb
    by_cases hlt : k < n
    · have hlk : k < l.length := by rw [← HN.out]; exact hlt
      obtain ⟨a, ha⟩ : ∃ a, l[k]? = some a := ⟨_, List.getElem?_eq_getElem hlk⟩
      obtain ⟨lb, lo, cs, rfl, e1, e2, e3, e4, e5⟩ := HL.out k a ha
      subst e3
      have q0 := later (e2 0 (by omega)) HB.out
      have q1 := later (e2 1 (by omega)) HB.out
      rw [Nat.add_zero] at q0
      have HT := Lib.hid (argsB_take regs l k a ha)
      have HNo := Lib.hid (argsB_no regs l k a ha)
      obtain ⟨r1, r2⟩ := e4
      clear e1 e2 e5 hlk ha
      by_cases g1 : a.reg < -1
      · have d1 : decide (a.reg < -1) = true := decide_eq_true g1
        go_wp2_with fail
        go_quiet (fail)
        go_wp2_with fail
        go_returns
        exact ⟨ret_bool (by rw [HNo.out (by rw [d1]; rfl)]), below_drewN (below_alloc _ HB.out) _⟩
      · have d1 : decide (a.reg < -1) = false := decide_eq_false g1
        by_cases g2 : regs ≤ a.reg
        · have d2 : decide (regs ≤ a.reg) = true := decide_eq_true g2
          go_wp2_with fail
          go_quiet (fail)
          go_wp2_with fail
          go_returns
          exact ⟨ret_bool (by rw [HNo.out (by rw [d1, d2]; rfl)]), below_drewN (below_alloc _ HB.out) _⟩
        · have d2 : decide (regs ≤ a.reg) = false := decide_eq_false g2
          go_wp2_with fail
          go_quiet (fail)
          go_wp2_with fail
          go_roundw
          case rel => exact ⟨k + 1, by omega, by go_num, by rw [HT.out, HA.out, d1, d2]; rfl, below_drewN (below_alloc _ HB.out) _⟩
          case measure => simp [intOf]; omega
    · have e : k = n := by omega
      subst e
      go_wp2_with fail
      go_returns
      refine ⟨ret_bool ?_, HB.out⟩
      rw [← HA.out, HN.out, List.take_length]
theorem sized_any (w : World) (n : Int) (hn : In64 n) : Calls Tryd.prog 31 #[.int .i64 n] w fun e w' => e = .returned (.bool (decide (n = 1 ∨ n = 2 ∨ n = 4 ∨ n = 8))) ∧ w = w' := by
  obtain ⟨h1, h2⟩ := hn
  go_enter Tryd.func31, Tryd.ntmps31
  go_wp2
  all_goals go_returns
  all_goals refine ⟨ret_bool ?_, rfl⟩
  all_goals
    rw [Bool.eq_iff_iff]
    simp only [Bool.or_eq_true, beq_iff_eq, decide_eq_true_eq]
    first | omega | (simp_all; done) | (simp_all; omega)
theorem two_any (w : World) (n : Int) (hn : In64 n) : Calls Tryd.prog 61 #[.int .i64 n] w fun e w' => e = .returned (.bool (decide (3 ≤ n ∧ n ≤ 21))) ∧ w = w' := by
  obtain ⟨h1, h2⟩ := hn
  go_enter Tryd.func61, Tryd.ntmps61
  go_wp2
  all_goals go_returns
  all_goals refine ⟨ret_bool ?_, rfl⟩
  all_goals
    rw [Bool.eq_iff_iff]
    simp only [Bool.and_eq_true, decide_eq_true_eq]
    first | omega | (simp_all; done) | (simp_all; omega)
end Go.Proofs.YtbogcompeefoaaaDoor
namespace Go.Proofs.YtbogcompeefoaaaDoor
open Go.RowKit
set_option linter.unusedVariables false
set_option maxHeartbeats 1000000
def flatA (l : List ArgD) : List Value := l.flatMap fun a => [.int .i64 a.reg, .int .i64 a.num]
theorem flatA_length (l : List ArgD) : (flatA l).length = l.length * 2 := by
  induction l with
  | nil => rfl
  | cons a l ih => simp only [flatA, List.flatMap_cons, List.length_append, List.length_cons, List.length_nil] at *; omega
theorem flatA_at : ∀ (l : List ArgD) (i : Nat) (a : ArgD), l[i]? = some a → (flatA l)[i * 2]? = some (.int .i64 a.reg) ∧ (flatA l)[i * 2 + 1]? = some (.int .i64 a.num)
  | [], i, a, h => by simp at h
  | b :: l, 0, a, h => by
    simp only [List.getElem?_cons_zero, Option.some.injEq] at h
    subst h
    exact ⟨rfl, rfl⟩
  | b :: l, i + 1, a, h => by
    have := flatA_at l i a (by simpa using h)
    simp only [flatA, List.flatMap_cons] at *
    rw [show (i + 1) * 2 = i * 2 + 2 by omega]
    exact ⟨by simpa using this.1, by simpa [Nat.add_assoc] using this.2⟩
def ArgsIn (l : List ArgD) : Prop := ∀ a ∈ l, In64 a.reg ∧ In64 a.num
theorem SlR.argsIn {w : World} {v : Value} {l : List ArgD} (h : SlR w 2 ArgR v l) : ArgsIn l := by
  intro a ha
  obtain ⟨A, cap, _, _, _, h4⟩ := h
  obtain ⟨i, hi⟩ := List.getElem?_of_mem ha
  obtain ⟨b, o, cs, _, _, _, e⟩ := h4 i a hi
  exact e.2
theorem own_slR {w : World} {base n : Nat} {e : TypeId} {v : Value} {l : List ArgD} (h : w.ownsRow base e 2 v n (flatA l)) (hn : n = l.length) (hin : ArgsIn l) : SlR w 2 ArgR v l := by
  subst hn
  rcases h.2 with ⟨rfl, h0⟩ | ⟨g, cap, cur, rfl, _, h2, h3, h4, h5, h6⟩
  · exact ⟨none, 0, by rw [h0], by omega, by decide, fun i x hi => by
      have := (List.getElem?_eq_some_iff.1 hi).1
      omega⟩
  · refine ⟨some ⟨g, 0, none⟩, cap, rfl, h3, h4, fun i x hi => ?_⟩
    have hlt := (List.getElem?_eq_some_iff.1 hi).1
    obtain ⟨a1, a2⟩ := flatA_at l i x hi
    refine ⟨g, 0, [.int .i64 x.reg, .int .i64 x.num], rfl, rfl, fun j hj => ?_, rfl, hin x (List.mem_of_getElem? hi)⟩
    match j, hj with
    | 0, _ => rw [Nat.add_zero, Nat.zero_add, h.cellAt _ (by omega), a1]; rfl
    | 1, _ => rw [Nat.zero_add, h.cellAt _ (by omega), a2]; rfl
theorem two_lit (w : World) (g : Nat) (a b : ArgD) (T : TypeId) (hg : g = w.heap.size) (ha : In64 a.reg ∧ In64 a.num) (hb : In64 b.reg ∧ In64 b.num) :
    SlR (w.alloc (.cells #[.int .i64 a.reg, .int .i64 a.num, .int .i64 b.reg, .int .i64 b.num] T)) 2 ArgR (.slice (some ⟨g, 0, none⟩) 2 2) [a, b] := by
  subst hg
  exact own_slR (World.ownsRow_lit (e := T) (size := 2) w #[.int .i64 a.reg, .int .i64 a.num, .int .i64 b.reg, .int .i64 b.num] 2 (Nat.le_refl _) (by decide) rfl) rfl (fun x hx => by
    rcases List.mem_cons.1 hx with rfl | hx
    · exact ha
    · rcases List.mem_cons.1 hx with rfl | hx
      · exact hb
      · cases hx)
theorem one_lit (w : World) (g : Nat) (a : ArgD) (T : TypeId) (hg : g = w.heap.size) (ha : In64 a.reg ∧ In64 a.num) :
    SlR (w.alloc (.cells #[.int .i64 a.reg, .int .i64 a.num] T)) 2 ArgR (.slice (some ⟨g, 0, none⟩) 1 1) [a] := by
  subst hg
  exact own_slR (World.ownsRow_lit (e := T) (size := 2) w #[.int .i64 a.reg, .int .i64 a.num] 1 (Nat.le_refl _) (by decide) rfl) rfl (fun x hx => by
    rcases List.mem_cons.1 hx with rfl | hx
    · exact ha
    · cases hx)
theorem nil_lit {α : Type} (w : World) (C : Nat) (R : List Value → α → Prop) : SlR w C R (.slice none 0 0) [] := ⟨none, 0, rfl, Nat.le_refl _, by decide, fun i x hi => by simp at hi⟩
/-- what an instruction reads -/
def readsD (x : InsD) : List ArgD :=
  if x.op = 28 then x.args else if x.op = 29 then x.a :: x.args else if (3 ≤ x.op ∧ x.op ≤ 21) ∨ x.op = 27 then [x.a, x.b] else if x.op = 23 ∨ x.op = 24 ∨ x.op = 25 then [] else [x.a]
def readsT (t : TermD) : List ArgD := if t.kind = 2 then [t.a, t.b] else if t.kind = 3 then [t.a] else []
def nextT (t : TermD) : List Int := if t.kind = 1 then [t.to_] else if t.kind = 2 then [t.to_, t.els] else []
/-- an instruction as a value -/
abbrev insV (x : InsD) (va : Value) : Value := .agg #[.int .i64 x.op, .int .i64 x.dst, .int .i64 x.a.reg, .int .i64 x.a.num, .int .i64 x.b.reg, .int .i64 x.b.num, .int .i64 x.size, .bool x.signed, .bool x.secret, .int .i64 x.ref, .int .i64 x.off, va]
abbrev termV (t : TermD) : Value := .agg #[.int .i64 t.kind, .int .i64 t.op, .int .i64 t.a.reg, .int .i64 t.a.num, .int .i64 t.b.reg, .int .i64 t.b.num, .int .i64 t.to_, .int .i64 t.els]
/-- a slice of arguments comes back -/
def Args (w : World) (l : List ArgD) (e : Ending) (w' : World) : Prop := ∃ v, e = .returned v ∧ SlR w' 2 ArgR v l ∧ Below w.heap.size w w'
theorem Tryd.infoArg : (Tryd.prog.info? 52).map (fun i => (i.zero, i.size, i.bytes)) = some (some (.agg #[.int .i64 0, .int .i64 0]), 2, 16) := by kernel_rfl
theorem SlR.news {w : World} {A : Option Addr} {n cap : Nat} {l : List ArgD} (h : SlR w 2 ArgR (.slice A n cap) l) (hl : 0 < l.length) :
    ∃ b o, A = some ⟨b, o, none⟩ ∧ ∀ j u, (flatA l)[j]? = some u → w.cell? ((⟨b, o, none⟩ : Addr).add j) = some u := by
  obtain ⟨A', cap', h1, _, _, h4⟩ := h
  simp only [Value.slice.injEq] at h1
  obtain ⟨rfl, rfl, rfl⟩ := h1
  obtain ⟨b, o, _, rfl, _⟩ := h4 0 _ (List.getElem?_eq_getElem hl)
  refine ⟨b, o, rfl, fun j u hj => ?_⟩
  have hlt : j < l.length * 2 := by rw [← flatA_length]; exact (List.getElem?_eq_some_iff.1 hj).1
  have hi : j / 2 < l.length := by omega
  obtain ⟨b', o', cs, e0, e1, e2, e3, _⟩ := h4 (j / 2) _ (List.getElem?_eq_getElem hi)
  simp only [Option.some.injEq, Addr.mk.injEq, and_true] at e0
  obtain ⟨rfl, rfl⟩ := e0
  subst e3
  obtain ⟨a1, a2⟩ := flatA_at l (j / 2) _ (List.getElem?_eq_getElem hi)
  rw [Addr.add_lit]
  rcases Nat.mod_two_eq_zero_or_one j with hm | hm
  · rw [show j / 2 * 2 = j by omega] at a1
    rw [a1] at hj
    have := e2 0 (by omega)
    rw [Nat.add_zero, show j / 2 * 2 = j by omega] at this
    rw [this]; simpa using hj
  · rw [show j / 2 * 2 + 1 = j by omega] at a2
    rw [a2] at hj
    have := e2 1 (by omega)
    rw [Nat.add_assoc, show j / 2 * 2 + 1 = j by omega] at this
    rw [this]; simpa using hj
/-- append to a row of the call's own -/
theorem append_args (w : World) (a : ArgD) (ha : In64 a.reg ∧ In64 a.num) (g : Nat) (hg : w.heap[g]? = some (.cells #[.int .i64 a.reg, .int .i64 a.num] 52 (0, 0))) (v : Value) (l : List ArgD) (h : SlR w 2 ArgR v l) (hl : l.length ≤ 1000000) :
    ∃ v' w', (Builtin.append_ #[72, 72] 72 #[.slice (some ⟨g, 0, none⟩) 1 1, v]).run Tryd.prog w = .ok v' w' ∧ SlR w' 2 ArgR v' (a :: l) ∧ w.grownBy w' (some g) := by
  obtain ⟨i0, hi, hz0, hz1, hz2⟩ := info_parts Tryd.infoArg
  have hown : w.ownsRow g 52 2 (.slice (some ⟨g, 0, none⟩) 1 1) 1 (flatA [a]) :=
    ⟨rfl, .inr ⟨g, 1, _, rfl, Nat.le_refl _, hg, Nat.le_refl _, by decide, rfl, rfl⟩⟩
  have hin : ArgsIn (a :: l) := fun x hx => by
    rcases List.mem_cons.1 hx with rfl | hx
    · exact ha
    · exact h.argsIn x hx
  by_cases h0 : l.length = 0
  · have : l = [] := List.length_eq_zero_iff.1 h0
    subst this
    obtain ⟨A, cap, rfl, _⟩ := h
    refine ⟨.slice (some ⟨g, 0, none⟩) 1 1, w, ?_, own_slR hown rfl hin, ⟨rfl, rfl, rfl, Nat.le_refl _, fun _ _ _ => rfl⟩⟩
    cases A with
    | none => simp [Builtin.append_, run_underlying Tryd.underlying72, sizeOf, typeInfo, hi, Builtin.lenOf, Builtin.firstCells, storeCells]
    | some ad => simp [Builtin.append_, run_underlying Tryd.underlying72, sizeOf, typeInfo, hi, Builtin.lenOf, Builtin.firstCells, storeCells, loadCells, loadCellsFrom]
  · obtain ⟨A, cap, rfl, h1, h2, _⟩ := id h
    obtain ⟨b, o, rfl, hnews⟩ := h.news (by omega)
    obtain ⟨v', w', hr, g1, g2, _⟩ := run_append_own (P := Tryd.prog) w g 72 72 52 i0 _ 2 16 Tryd.underlying72 hi hz0 hz1 hz2 rfl (by decide) _ 1 (flatA [a]) hown ⟨b, o, none⟩ l.length cap (flatA l) (flatA_length l) hnews
      (fun u hu => by
        obtain ⟨x, _, hx⟩ := List.mem_flatMap.1 hu
        rcases List.mem_cons.1 hx with rfl | hx
        · rfl
        · rcases List.mem_cons.1 hx with rfl | hx
          · rfl
          · cases hx) (by unfold maxLen; omega) (by omega) (Nat.le_of_lt (blk_lt hg))
    exact ⟨v', w', hr, own_slR (e := 52) (l := a :: l) g1 (by simp; omega) hin, g2⟩
end Go.Proofs.YtbogcompeefoaaaDoor
namespace Go.Proofs.YtbogcompeefoaaaDoor
open Go.RowKit
set_option linter.unusedVariables false
structure LineD where
  label : List UInt8
  op : Int
  dst : Int
  src : Int
  imm : Int
  size : Int
  signed : Bool
  cond : Int
  to_ : List UInt8
  hot : Bool
  reload : Bool
def oneL (b : Bool) : Int := if b = true then 1 else 0
def empL (l : List UInt8) : Int := if l.isEmpty = true then 1 else 0
def lineC (l : LineD) : List Value := [.string ⟨⟨l.label⟩⟩, .int .i64 l.op, .int .i64 l.dst, .int .i64 l.src, .int .i64 l.imm, .int .i64 l.size, .bool l.signed, .int .i64 l.cond, .string ⟨⟨l.to_⟩⟩, .bool l.hot, .bool l.reload]
/-- a block's label -/
def labB (num b : Nat) : List UInt8 := [46, 76] ++ Lib.itoa (num : Int) ++ [95] ++ Lib.itoa (b : Int)
def fnB (name : List UInt8) : List UInt8 := 95 :: name
/-- an instruction as the law wants it -/
def InsL9 (l : LineD) : Prop :=
  RP l.op l.dst l.src l.imm l.size (oneL l.signed) l.cond (empL l.to_) ∧ In64 l.imm ∧ l.op ≠ 39 ∧ l.op ≠ 41 ∧ l.op ≠ 37 ∧ (l.op = 36 → l.dst = 11) ∧ l.dst ≠ 15 ∧ l.src ≠ 15 ∧
  (l.reload = true ↔ l.op = 3 ∧ l.src = 4) ∧ ((l.op = 3 ∧ l.src = 4) ∨ (l.op = 4 ∧ l.dst = 4) → l.size = 8 ∧ 0 ≤ l.imm ∧ l.hot = false)
/-- lines without labels; jumps lead to blocks; what parts ways is followed by a jump -/
def Seg (num nb : Nat) (s : List LineD) : Prop :=
  ∀ (k : Nat) (l : LineD), s[k]? = some l → l.label = [] ∧ InsL9 l ∧ (l.op = 34 → ∃ l', s[k + 1]? = some l' ∧ l'.op = 33) ∧ (l.op = 33 ∨ l.op = 34 → ∃ b, b < nb ∧ l.to_ = labB num b)
theorem Seg.nil (num nb : Nat) : Seg num nb [] := fun k l h => by simp at h
theorem Seg.append {num nb : Nat} {s t : List LineD} (h1 : Seg num nb s) (h2 : Seg num nb t) : Seg num nb (s ++ t) := by
  intro k l h
  by_cases hk : k < s.length
  · rw [List.getElem?_append_left hk] at h
    obtain ⟨q1, q2, q3, q4⟩ := h1 k l h
    refine ⟨q1, q2, fun ho => ?_, q4⟩
    obtain ⟨l', e1, e2⟩ := q3 ho
    exact ⟨l', by rw [List.getElem?_append_left ((List.getElem?_eq_some_iff.1 e1).1)]; exact e1, e2⟩
  · rw [List.getElem?_append_right (by omega)] at h
    obtain ⟨q1, q2, q3, q4⟩ := h2 _ l h
    refine ⟨q1, q2, fun ho => ?_, q4⟩
    obtain ⟨l', e1, e2⟩ := q3 ho
    exact ⟨l', by rw [List.getElem?_append_right (by omega), show k + 1 - s.length = k - s.length + 1 by omega]; exact e1, e2⟩
/-- one line that neither jumps nor parts ways -/
theorem Seg.one {num nb : Nat} {l : LineD} (h0 : l.label = []) (h : InsL9 l) (h3 : l.op ≠ 33) (h4 : l.op ≠ 34) : Seg num nb [l] := by
  intro k x hx
  match k, hx with
  | 0, hx =>
    obtain rfl := Option.some.inj hx
    exact ⟨h0, h, fun e => absurd e h4, fun e => e.elim (fun e => absurd e h3) (fun e => absurd e h4)⟩
  | k + 1, hx => simp at hx
theorem Seg.jump {num nb b : Nat} {l : LineD} (h0 : l.label = []) (h : InsL9 l) (h3 : l.op = 33) (hb : b < nb) (ht : l.to_ = labB num b) : Seg num nb [l] := by
  intro k x hx
  match k, hx with
  | 0, hx =>
    obtain rfl := Option.some.inj hx
    exact ⟨h0, h, fun e => by omega, fun _ => ⟨b, hb, ht⟩⟩
  | k + 1, hx => simp at hx
theorem Seg.branch {num nb b c : Nat} {l m : LineD} (h0 : l.label = []) (h : InsL9 l) (h3 : l.op = 34) (hb : b < nb) (ht : l.to_ = labB num b) (g0 : m.label = []) (g : InsL9 m) (g3 : m.op = 33) (hc : c < nb) (gt : m.to_ = labB num c) : Seg num nb [l, m] := by
  intro k x hx
  match k, hx with
  | 0, hx =>
    obtain rfl := Option.some.inj hx
    exact ⟨h0, h, fun _ => ⟨m, rfl, g3⟩, fun _ => ⟨b, hb, ht⟩⟩
  | 1, hx =>
    obtain rfl := Option.some.inj hx
    exact ⟨g0, g, fun e => by omega, fun _ => ⟨c, hc, gt⟩⟩
  | k + 2, hx => simp at hx
/-- a function's lines while they are laid: i blocks have begun -/
structure Laid (nm : List UInt8) (num nb i : Nat) (ls : List LineD) : Prop where
  first : ∃ l, ls[0]? = some l ∧ l.label = fnB nm
  lab : ∀ (k : Nat) (l : LineD), ls[k]? = some l → l.label ≠ [] → l.op = 0 ∧ ((k = 0 ∧ l.label = fnB nm) ∨ (0 < k ∧ ∃ b, b < i ∧ l.label = labB num b))
  uniq : ∀ (k k' : Nat) (l l' : LineD), ls[k]? = some l → ls[k']? = some l' → l.label ≠ [] → l.label = l'.label → k = k'
  ins : ∀ (k : Nat) (l : LineD), ls[k]? = some l → l.label = [] → InsL9 l ∧ (l.op = 34 → ∃ l' : LineD, ls[k + 1]? = some l' ∧ l'.op = 33) ∧ (l.op = 33 ∨ l.op = 34 → ∃ b, b < nb ∧ l.to_ = labB num b)
  has : ∀ b, b < i → ∃ l ∈ ls, l.label = labB num b
theorem labB_ne (num b : Nat) : labB num b ≠ [] := by simp [labB]
theorem Laid.seg {nm : List UInt8} {num nb i : Nat} {ls s : List LineD} (h : Laid nm num nb i ls) (hs : Seg num nb s) : Laid nm num nb i (ls ++ s) := by
  have hl : ∀ (k : Nat) (l : LineD), (ls ++ s)[k]? = some l → l.label ≠ [] → k < ls.length ∧ ls[k]? = some l := fun k l hk hn => by
    by_cases hlt : k < ls.length
    · rw [List.getElem?_append_left hlt] at hk; exact ⟨hlt, hk⟩
    · rw [List.getElem?_append_right (by omega)] at hk
      exact absurd (hs _ l hk).1 hn
  refine ⟨?_, fun k l hk hn => h.lab k l (hl k l hk hn).2 hn, fun k k' l l' hk hk' hn he => h.uniq k k' l l' (hl k l hk hn).2 (hl k' l' hk' (he ▸ hn)).2 hn he, fun k l hk hn => ?_, fun b hb => ?_⟩
  · obtain ⟨l, h1, h2⟩ := h.first
    exact ⟨l, by rw [List.getElem?_append_left ((List.getElem?_eq_some_iff.1 h1).1)]; exact h1, h2⟩
  · by_cases hlt : k < ls.length
    · rw [List.getElem?_append_left hlt] at hk
      obtain ⟨q1, q2, q3⟩ := h.ins k l hk hn
      refine ⟨q1, fun ho => ?_, q3⟩
      obtain ⟨l', e1, e2⟩ := q2 ho
      exact ⟨l', by rw [List.getElem?_append_left ((List.getElem?_eq_some_iff.1 e1).1)]; exact e1, e2⟩
    · rw [List.getElem?_append_right (by omega)] at hk
      obtain ⟨_, q1, q2, q3⟩ := hs _ l hk
      refine ⟨q1, fun ho => ?_, q3⟩
      obtain ⟨l', e1, e2⟩ := q2 ho
      exact ⟨l', by rw [List.getElem?_append_right (by omega), show k + 1 - ls.length = k - ls.length + 1 by omega]; exact e1, e2⟩
  · obtain ⟨l, h1, h2⟩ := h.has b hb
    exact ⟨l, List.mem_append.2 (Or.inl h1), h2⟩
theorem Laid.block {nm : List UInt8} {num nb i : Nat} {ls : List LineD} (h : Laid nm num nb i ls) {l : LineD} (hl : l.label = labB num i) (h0 : l.op = 0) (hinj : ∀ b, b < i → labB num b ≠ labB num i) : Laid nm num nb (i + 1) (ls ++ [l]) := by
  have hne : l.label ≠ [] := by rw [hl]; exact labB_ne _ _
  obtain ⟨f0, hf1, hf2⟩ := h.first
  have hpos : 0 < ls.length := (List.getElem?_eq_some_iff.1 hf1).1
  have hold : ∀ (k : Nat) (x : LineD), ls[k]? = some x → x.label ≠ [] → x.label ≠ labB num i := fun k x hk hn e => by
    rcases (h.lab k x hk hn).2 with ⟨_, e2⟩ | ⟨_, b, hb, e2⟩
    · rw [e2] at e
      have := congrArg (fun l => l[0]?) e
      simp [fnB, labB] at this
    · rw [e2] at e; exact hinj b hb e
  have hcase : ∀ (k : Nat) (x : LineD), (ls ++ [l])[k]? = some x → (k < ls.length ∧ ls[k]? = some x) ∨ (k = ls.length ∧ x = l) := fun k x hk => by
    by_cases hlt : k < ls.length
    · rw [List.getElem?_append_left hlt] at hk; exact Or.inl ⟨hlt, hk⟩
    · rw [List.getElem?_append_right (by omega)] at hk
      by_cases e : k = ls.length
      · subst e; simp at hk; exact Or.inr ⟨rfl, hk.symm⟩
      · rw [List.getElem?_eq_none (by simp; omega)] at hk; cases hk
  refine ⟨⟨f0, by rw [List.getElem?_append_left hpos]; exact hf1, hf2⟩, fun k x hk hn => ?_, fun k k' x x' hk hk' hn he => ?_, fun k x hk hn => ?_, fun b hb => ?_⟩
  · rcases hcase k x hk with ⟨_, q⟩ | ⟨rfl, rfl⟩
    · obtain ⟨q1, q2⟩ := h.lab k x q hn
      refine ⟨q1, ?_⟩
      rcases q2 with q2 | ⟨q2, b, q3, q4⟩
      · exact Or.inl q2
      · exact Or.inr ⟨q2, b, by omega, q4⟩
    · exact ⟨h0, Or.inr ⟨hpos, i, by omega, hl⟩⟩
  · rcases hcase k x hk with ⟨k1, q⟩ | ⟨rfl, rfl⟩
    · rcases hcase k' x' hk' with ⟨k2, q'⟩ | ⟨rfl, rfl⟩
      · exact h.uniq k k' x x' q q' hn he
      · exact absurd (he.trans hl) (hold k x q hn)
    · rcases hcase k' x' hk' with ⟨k2, q'⟩ | ⟨rfl, rfl⟩
      · exact absurd (he.symm.trans hl) (hold k' x' q' (he ▸ hn))
      · rfl
  · rcases hcase k x hk with ⟨k1, q⟩ | ⟨rfl, rfl⟩
    · obtain ⟨q1, q2, q3⟩ := h.ins k x q hn
      refine ⟨q1, fun ho => ?_, q3⟩
      obtain ⟨l', e1, e2⟩ := q2 ho
      exact ⟨l', by rw [List.getElem?_append_left ((List.getElem?_eq_some_iff.1 e1).1)]; exact e1, e2⟩
    · exact absurd hn hne
  · by_cases e : b = i
    · subst e; exact ⟨l, List.mem_append.2 (Or.inr (List.mem_singleton.2 rfl)), hl⟩
    · obtain ⟨x, q1, q2⟩ := h.has b (by omega)
      exact ⟨x, List.mem_append.2 (Or.inl q1), q2⟩
theorem Laid.start {nm : List UInt8} {num nb : Nat} {l : LineD} (hl : l.label = fnB nm) (h0 : l.op = 0) : Laid nm num nb 0 [l] := by
  have hc : ∀ (k : Nat) (x : LineD), [l][k]? = some x → k = 0 ∧ x = l := fun k x hk => by
    match k, hk with
    | 0, hk => exact ⟨rfl, (Option.some.inj hk).symm⟩
    | k + 1, hk => simp at hk
  refine ⟨⟨l, rfl, hl⟩, fun k x hk hn => ?_, fun k k' x x' hk hk' _ _ => ?_, fun k x hk hn => ?_, fun b hb => by omega⟩
  · obtain ⟨rfl, rfl⟩ := hc k x hk
    exact ⟨h0, Or.inl ⟨rfl, hl⟩⟩
  · rw [(hc k x hk).1, (hc k' x' hk').1]
  · obtain ⟨rfl, rfl⟩ := hc k x hk
    rw [hl] at hn; simp [fnB] at hn
end Go.Proofs.YtbogcompeefoaaaDoor
namespace Go.Proofs.YtbogcompeefoaaaDoor
open Go.RowKit
set_option linter.unusedVariables false
set_option maxHeartbeats 2000000
/-- a part takes its bytes of what is left -/
def stepP (nf : Int) (left : Int) (y : PartD) : Option Int :=
  if y.kind = 0 then (if (y.data.length : Int) ≤ left then some (left - y.data.length) else none)
  else if y.kind = 1 then (if 0 ≤ y.n ∧ y.n < nf ∧ 8 ≤ left then some (left - 8) else none)
  else if y.kind = 2 ∨ y.kind = 3 then (if 0 ≤ y.n ∧ y.n ≤ left then some (left - y.n) else none)
  else none
def foldP (nf : Int) (left : Option Int) (l : List PartD) : Option Int := l.foldl (fun o y => o.bind fun x => stepP nf x y) left
theorem foldP_take {nf : Int} {left : Option Int} {l : List PartD} {k : Nat} {y : PartD} (h : l[k]? = some y) : foldP nf left (l.take (k + 1)) = (foldP nf left (l.take k)).bind fun x => stepP nf x y := by
  unfold foldP; rw [List.take_add_one, h]; simp
theorem foldP_none (nf : Int) : ∀ l : List PartD, foldP nf none l = none
  | [] => rfl
  | _ :: l => foldP_none nf l
theorem foldP_no {nf : Int} {left : Option Int} {l : List PartD} {k : Nat} (h : foldP nf left (l.take k) = none) : foldP nf left l = none := by
  have e : foldP nf left l = foldP nf (foldP nf left (l.take k)) (l.drop k) := by
    unfold foldP
    rw [← List.foldl_append, List.take_append_drop]
  rw [e, h, foldP_none]
/-- does a global lie in the data, and have as many bytes as its parts? -/
def placedB (data nf : Int) (g : GlobD) : Bool := decide (0 ≤ g.at_ ∧ 0 ≤ g.size ∧ g.size ≤ data ∧ g.at_ ≤ data - g.size ∧ foldP nf (some g.size) g.parts = some 0)
def BoolIs (w : World) (b : Bool) (e : Ending) (w' : World) : Prop := e = .returned (.bool b) ∧ Below w.heap.size w w'
theorem placedB_no {data nf : Int} {g : GlobD} (h : ¬ (0 ≤ g.at_ ∧ 0 ≤ g.size ∧ g.size ≤ data ∧ g.at_ ≤ data - g.size ∧ foldP nf (some g.size) g.parts = some 0)) : placedB data nf g = false := by unfold placedB; exact decide_eq_false h
set_option maxRecDepth 100000 in
theorem placed_iff (W0 w : World) (h0 : Below W0.heap.size W0 w) (pb : Nat) (g : GlobD) (vp : Value) (data : Int) (vf : Value) (fs : List FuncD) (c0 : w.cell? ⟨pb, 0, none⟩ = some vf) (c2 : w.cell? ⟨pb, 2, none⟩ = some (.int .i64 data)) (hd : In64 data)
    (hf : SlR W0 6 (FuncR W0) vf fs) (hat : In64 g.at_) (hsz : In64 g.size) (hp : SlR W0 3 (PartR W0) vp g.parts) (hpl : g.parts.length ≤ 140737488351232) :
    Calls Tryd.prog 17 #[.pointer (some ⟨pb, 0, none⟩), .agg #[.string g.name, .int .i64 g.at_, .int .i64 g.size, vp]] w (BoolIs w (placedB data fs.length g)) := by
  obtain ⟨A, cap, rfl, l1, l2, l3⟩ := hp
  obtain ⟨A2, cap2, rfl, m1, m2, _⟩ := hf
  have hln : fs.length ≤ 9223372036854775807 := by unfold maxLen at m2; omega
  have HL := Lib.hid l3
  have H0 := Lib.hid h0
  obtain ⟨q1, q2⟩ := hat
  obtain ⟨q3, q4⟩ := hsz
  obtain ⟨q5, q6⟩ := hd
  have K0 := Lib.hid c0
  have b0 := World.block_lt_of_cell? _ _ c0
  have hcase : (decide (g.at_ < 0) = true) ∨ (decide (g.at_ < 0) = false ∧ decide (g.size < 0) = true) ∨ (decide (g.at_ < 0) = false ∧ decide (g.size < 0) = false ∧ decide (data < g.size) = true) ∨
      (0 ≤ g.size ∧ g.size ≤ data ∧ decide (g.at_ < 0) = false ∧ decide (g.size < 0) = false ∧ decide (data < g.size) = false ∧ decide (data - g.size < g.at_) = true) ∨ (0 ≤ g.size ∧ g.size ≤ data ∧ decide (g.at_ < 0) = false ∧ decide (g.size < 0) = false ∧ decide (data < g.size) = false ∧ decide (data - g.size < g.at_) = false) := by
    by_cases h1 : g.at_ < 0
    · exact Or.inl (decide_eq_true h1)
    · by_cases h2 : g.size < 0
      · exact Or.inr (Or.inl ⟨decide_eq_false h1, decide_eq_true h2⟩)
      · by_cases h3 : data < g.size
        · exact Or.inr (Or.inr (Or.inl ⟨decide_eq_false h1, decide_eq_false h2, decide_eq_true h3⟩))
        · by_cases h4 : data - g.size < g.at_
          · exact Or.inr (Or.inr (Or.inr (Or.inl ⟨by omega, by omega, decide_eq_false h1, decide_eq_false h2, decide_eq_false h3, decide_eq_true h4⟩)))
          · exact Or.inr (Or.inr (Or.inr (Or.inr ⟨by omega, by omega, decide_eq_false h1, decide_eq_false h2, decide_eq_false h3, decide_eq_false h4⟩)))
  clear l3 h0 l1 m1
  have hsm : ∀ {z : Int}, foldP fs.length (some g.size) g.parts = some z → True := fun _ => trivial
  clear hsm
  rcases hcase with d1 | ⟨d1, d2⟩ | ⟨d1, d2, d3⟩ | ⟨s1, s2, d1, d2, d3, d4⟩ | ⟨s1, s2, d1, d2, d3, d4⟩
  · have hno : placedB data fs.length g = false := placedB_no (fun h => by have := of_decide_eq_true d1; omega)
    rw [hno]
    clear hno
    go_enter Tryd.func17, Tryd.ntmps17
    go_wp2_with fail
    go_quiet (fail)
    go_wp2_with fail
    go_returns
    exact ⟨rfl, below_drewN (below_alloc _ (Below.refl _ _)) _⟩
  · have hno : placedB data fs.length g = false := placedB_no (fun h => by have := of_decide_eq_true d2; omega)
    rw [hno]
    clear hno
    go_enter Tryd.func17, Tryd.ntmps17
    go_wp2_with fail
    go_quiet (fail)
    go_wp2_with fail
    go_returns
    exact ⟨rfl, below_drewN (below_alloc _ (Below.refl _ _)) _⟩
  · have hno : placedB data fs.length g = false := placedB_no (fun h => by have := of_decide_eq_true d3; omega)
    rw [hno]
    clear hno
    go_enter Tryd.func17, Tryd.ntmps17
    go_wp2_with fail
    go_quiet (fail)
    go_wp2_with fail
    go_returns
    exact ⟨rfl, below_drewN (below_alloc _ (Below.refl _ _)) _⟩
  · have hno : placedB data fs.length g = false := placedB_no (fun h => by have := of_decide_eq_true d4; omega)
    rw [hno]
    have hw := IntWalk.i64_in (data - g.size) (by omega)
    clear hno
    go_enter Tryd.func17, Tryd.ntmps17
    go_wp2_with fail
    go_quiet (fail)
    go_wp2_with fail
    go_returns
    exact ⟨rfl, below_drewN (below_alloc _ (Below.refl _ _)) _⟩
  · have hw := IntWalk.i64_in (data - g.size) (by omega)
    obtain ⟨pb0, hpb⟩ : ∃ z, z = placedB data fs.length g := ⟨_, rfl⟩
    have HPB := Lib.hid (show placedB data fs.length g = decide (foldP fs.length (some g.size) g.parts = some 0) by
      unfold placedB
      rw [decide_eq_decide]
      have h1 := of_decide_eq_false d1
      have h4 := of_decide_eq_false d4
      exact ⟨fun h => h.2.2.2.2, fun h => ⟨by omega, s1, s2, by omega, h⟩⟩)
    rw [← hpb] at HPB ⊢
    clear hpb
    obtain ⟨nf, hnf⟩ : ∃ z : Int, z = (fs.length : Int) := ⟨_, rfl⟩
    have HNF := Lib.hid hnf
    rw [← hnf] at HPB
    clear hnf
    go_enter Tryd.func17, Tryd.ntmps17
    go_wp2_with fail
    go_quiet (fail)
    clear hw
    obtain ⟨n, hn⟩ : ∃ n, n = g.parts.length := ⟨_, rfl⟩
    rw [← hn] at hpl ⊢
    have HN := Lib.hid hn
    clear hn
    go_wp2_with fail
    go_loopw [5, 43] (fun l i wr => ∃ (k : Nat) (x : Int), k ≤ n ∧ i = .int .i64 k ∧ l = .int .i64 x ∧ 0 ≤ x ∧ x ≤ g.size ∧ foldP nf (some g.size) (g.parts.take k) = some x ∧ Below w.heap.size w wr) (fun _ i _ => n - (intOf i).toNat)
    case atStart => exact ⟨0, g.size, by omega, rfl, rfl, s1, Int.le_refl _, rfl, below_drewN (below_alloc _ (Below.refl _ _)) _⟩
    case round =>
      obtain ⟨k, x, hk, rfl, rfl, hx0, hxs, hfo, hb⟩ := hrel
      have HB := Lib.hid hb
      have HFo := Lib.hid hfo
      have k0 := later K0.out hb
      have b1 := World.block_lt_of_cell? _ _ k0
      clear hb hfo
      by_cases hlt : k < n
      · obtain ⟨y, hy⟩ : ∃ y, g.parts[k]? = some y := ⟨_, List.getElem?_eq_getElem (by rw [← HN.out]; exact hlt)⟩
        obtain ⟨lb, lo, cs, rfl, e1, e2, vd, e3, n1, n2, n3, n4⟩ := HL.out k y hy
        subst e3
        have HB0 := Lib.hid (H0.out.trans (HB.out.mono H0.out.size))
        have r0 := later (e2 0 (by omega)) HB0.out
        have r1 := later (e2 1 (by omega)) HB0.out
        have r2 := later (e2 2 (by omega)) HB0.out
        rw [Nat.add_zero] at r0
        obtain ⟨A3, cap3, rfl, z1, z2, _⟩ := n2
        have hdl : y.data.length ≤ 9223372036854775807 := by omega
        obtain ⟨n5, n6⟩ := n4
        have HSt := Lib.hid (show foldP nf (some g.size) (g.parts.take (k + 1)) = stepP nf x y by rw [foldP_take hy, HFo.out]; rfl)
        have HNo := Lib.hid (fun h : stepP nf x y = none => show pb0 = false by
          rw [HPB.out, foldP_no (HSt.out.trans h)]; rfl)
        clear e1 e2 hy z1 z2
        have hkind : y.kind = 0 ∨ y.kind = 1 ∨ y.kind = 2 ∨ y.kind = 3 ∨ ((y.kind == 0) = false ∧ (y.kind == 1) = false ∧ (y.kind == 2) = false ∧ (y.kind == 3) = false) := by simp; omega
        have hnfl : nf = (fs.length : Int) := HNF.out
        have HQ := Lib.hid hnfl
        rcases hkind with hk1 | hk1 | hk1 | hk1 | ⟨q0, q1, q2, q3⟩
        · have HK := Lib.hid hk1
          rw [hk1] at r0
          clear hk1 hnfl
          by_cases h : (y.data.length : Int) ≤ x
          · have H := Lib.hid h
            have HS := Lib.hid (show foldP nf (some g.size) (g.parts.take (k + 1)) = some (x - y.data.length) by rw [HSt.out]; unfold stepP; rw [if_pos HK.out, if_pos h])
            clear HNo HSt
            go_wp2_with fail
            go_roundw
            case rel => exact ⟨k + 1, _, by omega, by go_num, rfl, by omega, by omega, HS.out, below_alloc _ HB.out⟩
            case measure => simp [intOf]; omega
          · have H := Lib.hid h
            have HS := Lib.hid (HNo.out (by unfold stepP; rw [if_pos HK.out, if_neg h]))
            clear HNo HSt
            go_wp2_with fail
            go_returns
            exact ⟨ret_bool HS.out.symm, below_alloc _ HB.out⟩
        · have HK := Lib.hid hk1
          have HK0 := Lib.hid (show ¬ y.kind = 0 by omega)
          rw [hk1] at r0
          clear hk1
          by_cases h1 : y.n < 0
          · have H := Lib.hid h1
            clear hnfl
            have HS := Lib.hid (HNo.out (by unfold stepP; rw [if_neg HK0.out, if_pos HK.out, if_neg (by have := H.out; omega)]))
            clear HNo HSt
            go_wp2_with fail
            go_returns
            exact ⟨ret_bool HS.out.symm, below_alloc _ HB.out⟩
          · by_cases h2 : (fs.length : Int) ≤ y.n
            · have H := Lib.hid h2
              clear hnfl
              have HS := Lib.hid (HNo.out (by unfold stepP; rw [if_neg HK0.out, if_pos HK.out, if_neg (by have := H.out; have := HQ.out; omega)]))
              clear HNo HSt
              go_wp2_with fail
              go_returns
              exact ⟨ret_bool HS.out.symm, below_alloc _ HB.out⟩
            · by_cases h3 : 8 ≤ x
              · have H := Lib.hid (And.intro h1 (And.intro h2 h3))
                clear hnfl
                have HS := Lib.hid (show foldP nf (some g.size) (g.parts.take (k + 1)) = some (x - 8) by rw [HSt.out]; unfold stepP; rw [if_neg HK0.out, if_pos HK.out, if_pos (by have := H.out; have := HQ.out; omega)])
                clear HNo HSt
                go_wp2_with fail
                go_roundw
                case rel => exact ⟨k + 1, _, by omega, by go_num, rfl, by omega, by omega, HS.out, below_alloc _ HB.out⟩
                case measure => simp [intOf]; omega
              · have H := Lib.hid h3
                clear hnfl
                have HS := Lib.hid (HNo.out (by unfold stepP; rw [if_neg HK0.out, if_pos HK.out, if_neg (by have := H.out; omega)]))
                clear HNo HSt
                go_wp2_with fail
                go_returns
                exact ⟨ret_bool HS.out.symm, below_alloc _ HB.out⟩
        · have HK := Lib.hid hk1
          have HK0 := Lib.hid (show ¬ y.kind = 0 ∧ ¬ y.kind = 1 by omega)
          rw [hk1] at r0
          clear hk1 hnfl
          by_cases h1 : y.n < 0
          · have H := Lib.hid h1
            have HS := Lib.hid (HNo.out (by unfold stepP; rw [if_neg HK0.out.1, if_neg HK0.out.2, if_pos (Or.inl HK.out), if_neg (by have := H.out; omega)]))
            clear HNo HSt
            go_wp2_with fail
            go_returns
            exact ⟨ret_bool HS.out.symm, below_alloc _ HB.out⟩
          · by_cases h2 : y.n ≤ x
            · have H := Lib.hid (And.intro h1 h2)
              have HS := Lib.hid (show foldP nf (some g.size) (g.parts.take (k + 1)) = some (x - y.n) by rw [HSt.out]; unfold stepP; rw [if_neg HK0.out.1, if_neg HK0.out.2, if_pos (Or.inl HK.out), if_pos (by have := H.out; omega)])
              clear HNo HSt
              go_wp2_with fail
              go_roundw
              case rel => exact ⟨k + 1, _, by omega, by go_num, rfl, by omega, by omega, HS.out, below_alloc _ HB.out⟩
              case measure => simp [intOf]; omega
            · have H := Lib.hid h2
              have HS := Lib.hid (HNo.out (by unfold stepP; rw [if_neg HK0.out.1, if_neg HK0.out.2, if_pos (Or.inl HK.out), if_neg (by have := H.out; omega)]))
              clear HNo HSt
              go_wp2_with fail
              go_returns
              exact ⟨ret_bool HS.out.symm, below_alloc _ HB.out⟩
        · have HK := Lib.hid hk1
          have HK0 := Lib.hid (show ¬ y.kind = 0 ∧ ¬ y.kind = 1 by omega)
          rw [hk1] at r0
          clear hk1 hnfl
          by_cases h1 : y.n < 0
          · have H := Lib.hid h1
            have HS := Lib.hid (HNo.out (by unfold stepP; rw [if_neg HK0.out.1, if_neg HK0.out.2, if_pos (Or.inr HK.out), if_neg (by have := H.out; omega)]))
            clear HNo HSt
            go_wp2_with fail
            go_returns
            exact ⟨ret_bool HS.out.symm, below_alloc _ HB.out⟩
          · by_cases h2 : y.n ≤ x
            · have H := Lib.hid (And.intro h1 h2)
              have HS := Lib.hid (show foldP nf (some g.size) (g.parts.take (k + 1)) = some (x - y.n) by rw [HSt.out]; unfold stepP; rw [if_neg HK0.out.1, if_neg HK0.out.2, if_pos (Or.inr HK.out), if_pos (by have := H.out; omega)])
              clear HNo HSt
              go_wp2_with fail
              go_roundw
              case rel => exact ⟨k + 1, _, by omega, by go_num, rfl, by omega, by omega, HS.out, below_alloc _ HB.out⟩
              case measure => simp [intOf]; omega
            · have H := Lib.hid h2
              have HS := Lib.hid (HNo.out (by unfold stepP; rw [if_neg HK0.out.1, if_neg HK0.out.2, if_pos (Or.inr HK.out), if_neg (by have := H.out; omega)]))
              clear HNo HSt
              go_wp2_with fail
              go_returns
              exact ⟨ret_bool HS.out.symm, below_alloc _ HB.out⟩
        · have HK := Lib.hid (show ¬ y.kind = 0 ∧ ¬ y.kind = 1 ∧ ¬ (y.kind = 2 ∨ y.kind = 3) by simp at q0 q1 q2 q3; omega)
          clear hnfl
          have HS := Lib.hid (HNo.out (by unfold stepP; rw [if_neg HK.out.1, if_neg HK.out.2.1, if_neg HK.out.2.2]))
          clear HNo HSt
          go_wp2_with fail
          go_returns
          exact ⟨ret_bool HS.out.symm, below_alloc _ HB.out⟩
      · have e : k = n := by omega
        have HEn := Lib.hid (show pb0 = (x == 0) by
          rw [HPB.out]
          have := HFo.out
          rw [e, HN.out, List.take_length] at this
          rw [this, Bool.eq_iff_iff]
          simp)
        subst e
        go_wp2_with fail
        go_returns
        exact ⟨ret_bool HEn.out.symm, HB.out⟩
end Go.Proofs.YtbogcompeefoaaaDoor
namespace Go.Proofs.YtbogcompeefoaaaDoor
open Go.RowKit
set_option linter.unusedVariables false
/-- an item of the data: its kind, its name, how many bytes it has, its number -/
structure DatD where
  kind : Int
  name : ByteArray
  len : Nat
  n : Int
structure StD where
  at_ : Int
  next : Nat
  pub : Int
  sec : Int
def gLabel (s : ByteArray) : ByteArray := ⟨#[103, 95]⟩ ++ s
/-- what the law does with an item -/
def stepD (gs : List GlobD) (s : StD) (d : DatD) : Option StD :=
  if d.kind = 0 then (match gs[s.next]? with
    | some g => if g.at_ = s.at_ ∧ d.name = gLabel g.name then some ⟨s.at_, s.next + 1, s.pub, s.sec⟩ else none
    | none => none)
  else if d.kind = 1 then some ⟨s.at_ + d.len, s.next, s.pub, s.sec⟩
  else if d.kind = 2 then some ⟨s.at_ + 8, s.next, s.pub, s.sec⟩
  else if d.kind = 3 then some ⟨s.at_ + d.n, s.next, s.pub + d.n, s.sec⟩
  else if d.kind = 4 then some ⟨s.at_ + d.n, s.next, s.pub, s.sec + d.n⟩
  else some ⟨s.at_ + d.n, s.next, s.pub, s.sec⟩
def runD (gs : List GlobD) (ds : List DatD) : Option StD := ds.foldl (fun o d => o.bind fun s => stepD gs s d) (some ⟨0, 0, 0, 0⟩)
theorem runD_snoc (gs : List GlobD) (ds : List DatD) (d : DatD) : runD gs (ds ++ [d]) = (runD gs ds).bind fun s => stepD gs s d := by
  unfold runD
  rw [List.foldl_append]; rfl
theorem fold_none (gs : List GlobD) : ∀ ds : List DatD, ds.foldl (fun o d => o.bind fun s => stepD gs s d) (none : Option StD) = none
  | [] => rfl
  | d :: ds => fold_none gs ds
theorem runD_take {gs : List GlobD} {ds : List DatD} {s : StD} (h : runD gs ds = some s) (j : Nat) : ∃ t, runD gs (ds.take j) = some t := by
  cases e : runD gs (ds.take j) with
  | some t => exact ⟨t, rfl⟩
  | none =>
    have : runD gs ds = (ds.drop j).foldl (fun o d => o.bind fun s => stepD gs s d) (runD gs (ds.take j)) := by
      unfold runD
      rw [← List.foldl_append, List.take_append_drop]
    rw [this, e, fold_none] at h
    cases h
theorem take_moreD {α : Type} {xs : List α} {i : Nat} {x : α} (h : xs[i]? = some x) : xs.take (i + 1) = xs.take i ++ [x] := by
  rw [List.take_add_one, h]; rfl
theorem runD_next {gs : List GlobD} {ds : List DatD} {j : Nat} {d : DatD} {s : StD} (hd : ds[j]? = some d) (h : runD gs (ds.take j) = some s) : runD gs (ds.take (j + 1)) = stepD gs s d := by
  rw [take_moreD hd, runD_snoc, h]; rfl
/-- items that add nothing below zero -/
def NnD (d : DatD) : Prop := 0 ≤ d.n
/-- what is kept in between -/
def StOk (s : StD) : Prop := 0 ≤ s.pub ∧ s.pub ≤ s.at_ ∧ 0 ≤ s.sec ∧ s.sec ≤ s.at_
theorem stepD_ok {gs : List GlobD} {s t : StD} {d : DatD} (h : stepD gs s d = some t) (hn : NnD d) (hs : StOk s) : StOk t ∧ s.at_ ≤ t.at_ := by
  unfold NnD at hn
  obtain ⟨h1, h2, h3, h4⟩ := hs
  unfold stepD at h
  split at h
  · split at h
    · split at h
      · cases h; exact ⟨⟨h1, h2, h3, h4⟩, Int.le_refl _⟩
      · cases h
    · cases h
  · split at h
    · cases h; unfold StOk; simp only; omega
    · split at h
      · cases h; unfold StOk; simp only; omega
      · split at h
        · cases h; unfold StOk; simp only; omega
        · split at h
          · cases h; unfold StOk; simp only; omega
          · cases h; unfold StOk; simp only; omega
theorem runD_ok {gs : List GlobD} {ds : List DatD} (hn : ∀ d ∈ ds, NnD d) : ∀ (j : Nat) (s : StD), runD gs (ds.take j) = some s → StOk s
  | 0, s, h => by
    rw [List.take_zero] at h
    cases h
    exact ⟨Int.le_refl _, Int.le_refl _, Int.le_refl _, Int.le_refl _⟩
  | j + 1, s, h => by
    cases hd : ds[j]? with
    | none =>
      rw [List.take_of_length_le (by have := List.getElem?_eq_none_iff.1 hd; omega)] at h
      have : ds = ds.take j := by rw [List.take_of_length_le (List.getElem?_eq_none_iff.1 hd)]
      rw [this] at h
      exact runD_ok hn j s h
    | some d =>
      obtain ⟨t, ht⟩ := runD_take h j
      rw [List.take_take, Nat.min_eq_left (by omega)] at ht
      rw [runD_next hd ht] at h
      exact (stepD_ok h (hn d (List.mem_of_getElem? hd)) (runD_ok hn j t ht)).1
theorem runD_mono {gs : List GlobD} {ds : List DatD} (hn : ∀ d ∈ ds, NnD d) {s : StD} (h : runD gs ds = some s) : ∀ (k j : Nat) (t : StD), j + k = ds.length → runD gs (ds.take j) = some t → t.at_ ≤ s.at_
  | 0, j, t, hj, ht => by
    rw [List.take_of_length_le (by omega), h] at ht
    cases ht; exact Int.le_refl _
  | k + 1, j, t, hj, ht => by
    obtain ⟨d, hd⟩ : ∃ d, ds[j]? = some d := ⟨_, List.getElem?_eq_getElem (by omega)⟩
    obtain ⟨u, hu⟩ := runD_take h (j + 1)
    have h1 := runD_mono hn h k (j + 1) u (by omega) hu
    rw [runD_next hd ht] at hu
    have := (stepD_ok hu (hn d (List.mem_of_getElem? hd)) (runD_ok hn j t ht)).2
    omega
/-- public, secret bytes of parts; of globals -/
def kindP (k : Int) (l : List PartD) : Int := (l.map fun y => if y.kind = k then y.n else 0).sum
def kindG (k : Int) (gs : List GlobD) : Int := (gs.map fun g => kindP k g.parts).sum
theorem kindP_take {k : Int} {l : List PartD} {q : Nat} {y : PartD} (h : l[q]? = some y) : kindP k (l.take (q + 1)) = kindP k (l.take q) + if y.kind = k then y.n else 0 := by
  unfold kindP
  rw [take_moreD h, List.map_append, List.sum_append]
  simp
theorem kindG_take {k : Int} {gs : List GlobD} {i : Nat} {g : GlobD} (h : gs[i]? = some g) : kindG k (gs.take (i + 1)) = kindG k (gs.take i) + kindP k g.parts := by
  unfold kindG
  rw [take_moreD h, List.map_append, List.sum_append]
  simp
/-- where globals end -/
def endG (gs : List GlobD) : Int := gs.foldl (fun _ g => g.at_ + g.size) 0
theorem endG_take {gs : List GlobD} {i : Nat} {g : GlobD} (h : gs[i]? = some g) : endG (gs.take (i + 1)) = g.at_ + g.size := by
  unfold endG
  rw [take_moreD h, List.foldl_append]; rfl
def Ordered (gs : List GlobD) (n : Nat) : Prop := ∀ i g, i < n → gs[i]? = some g → endG (gs.take i) ≤ g.at_
/-- a part, and the item that is made of it -/
def PartOf (y : PartD) (d : DatD) : Prop :=
  (y.kind = 0 ∧ ((d.kind = 1 ∧ d.len = y.data.length ∧ d.n = 0) ∨ (d.kind = 5 ∧ d.n = y.data.length))) ∨ (y.kind = 1 ∧ d.kind = 2 ∧ d.n = 0) ∨ (y.kind = 2 ∧ d.kind = 3 ∧ d.n = y.n) ∨ (y.kind = 3 ∧ d.kind = 4 ∧ d.n = y.n)
theorem PartOf.step {gs : List GlobD} {y : PartD} {d : DatD} {nf left l2 : Int} (h : PartOf y d) (hs : stepP nf left y = some l2) (s : StD) : stepD gs s d = some ⟨s.at_ + (left - l2), s.next, s.pub + (if y.kind = 2 then y.n else 0), s.sec + (if y.kind = 3 then y.n else 0)⟩ ∧ NnD d ∧ l2 ≤ left ∧ 0 ≤ l2 := by
  obtain ⟨a, b, c, e⟩ := s
  unfold stepP at hs
  unfold stepD NnD
  rcases h with ⟨k0, ⟨h1, h2, h3⟩ | ⟨h1, h2⟩⟩ | ⟨k1, h1, h2⟩ | ⟨k2, h1, h2⟩ | ⟨k3, h1, h2⟩
  · rw [if_pos k0] at hs
    split at hs
    · cases hs
      simp [k0, h1, h2, h3]; omega
    · cases hs
  · rw [if_pos k0] at hs
    split at hs
    · cases hs
      simp [k0, h1, h2]; omega
    · cases hs
  · rw [if_neg (by omega), if_pos k1] at hs
    split at hs
    · cases hs
      simp [k1, h1, h2]; omega
    · cases hs
  · rw [if_neg (by omega), if_neg (by omega), if_pos (Or.inl k2)] at hs
    split at hs
    · cases hs
      simp [k2, h1, h2]; omega
    · cases hs
  · rw [if_neg (by omega), if_neg (by omega), if_pos (Or.inr k3)] at hs
    split at hs
    · cases hs
      simp [k3, h1, h2]; omega
    · cases hs
end Go.Proofs.YtbogcompeefoaaaDoor
namespace Go.Proofs.YtbogcompeefoaaaDoor
open Go.RowKit
set_option linter.unusedVariables false
set_option maxHeartbeats 2000000
theorem flatten_at (C : Nat) : ∀ (css : List (List Value)) (i j : Nat) (cs : List Value), (∀ cs ∈ css, cs.length = C) → css[i]? = some cs → j < C → css.flatten[i * C + j]? = cs[j]?
  | [], i, j, cs, _, h, _ => by simp at h
  | c :: css, 0, j, cs, hl, h, hj => by
    obtain rfl : c = cs := by simpa using h
    have := hl c List.mem_cons_self
    rw [List.flatten_cons, Nat.zero_mul, Nat.zero_add, List.getElem?_append_left (by omega)]
  | c :: css, i + 1, j, cs, hl, h, hj => by
    have h0 := hl c List.mem_cons_self
    rw [List.flatten_cons, List.getElem?_append_right (by rw [Nat.add_mul, Nat.one_mul]; omega), show (i + 1) * C + j - c.length = i * C + j by rw [Nat.add_mul, Nat.one_mul]; omega]
    exact flatten_at C css i j cs (fun x hx => hl x (List.mem_cons_of_mem _ hx)) (by simpa using h) hj
theorem flatten_len (C : Nat) : ∀ (css : List (List Value)), (∀ cs ∈ css, cs.length = C) → css.flatten.length = css.length * C
  | [], _ => by simp
  | c :: css, h => by
    rw [List.flatten_cons, List.length_append, h c List.mem_cons_self, flatten_len C css (fun x hx => h x (List.mem_cons_of_mem _ hx)), List.length_cons, Nat.add_mul, Nat.one_mul, Nat.add_comm]
/-- what a slice that reads has for cells -/
theorem SlR.css {α : Type} {w : World} {C : Nat} {R : List Value → α → Prop} {v : Value} {xs : List α} (h : SlR w C R v xs) (hC : 0 < C) :
    ∃ css : List (List Value), css.length = xs.length ∧ (∀ cs ∈ css, cs.length = C) ∧ (∀ (i : Nat) cs x, css[i]? = some cs → xs[i]? = some x → R cs x) ∧
      ∃ A cap, v = .slice A xs.length cap ∧ (0 < xs.length → ∃ b o, A = some ⟨b, o, none⟩ ∧ ∀ j u, css.flatten[j]? = some u → w.cell? ⟨b, o + j, none⟩ = some u) := by
  obtain ⟨A, cap, rfl, h1, h2, h3⟩ := h
  obtain ⟨css, k1, k2⟩ := choose_list (p := fun i cs => ∃ x b o, xs[i]? = some x ∧ A = some ⟨b, o, none⟩ ∧ cs.length = C ∧ (∀ j, j < C → w.cell? ⟨b, o + i * C + j, none⟩ = cs[j]?) ∧ R cs x) xs.length (fun i hi => by
    obtain ⟨b, o, cs, e1, e2, e3, e4⟩ := h3 i xs[i] (List.getElem?_eq_getElem hi)
    exact ⟨cs, _, b, o, List.getElem?_eq_getElem hi, e1, e2, e3, e4⟩)
  have hlen : ∀ cs ∈ css, cs.length = C := fun cs hcs => by
    obtain ⟨i, hi⟩ := List.mem_iff_getElem?.1 hcs
    obtain ⟨x, b, o, _, _, e, _⟩ := k2 i cs hi
    exact e
  refine ⟨css, k1, hlen, fun i cs x hi hx => ?_, A, cap, rfl, fun h0 => ?_⟩
  · obtain ⟨y, b, o, e1, _, _, _, e5⟩ := k2 i cs hi
    rw [hx] at e1
    rw [Option.some.inj e1]; exact e5
  · obtain ⟨cs0, hcs0⟩ : ∃ cs, css[0]? = some cs := ⟨_, List.getElem?_eq_getElem (by omega)⟩
    obtain ⟨y, b, o, _, e2, _⟩ := k2 0 cs0 hcs0
    refine ⟨b, o, e2, fun j u hj => ?_⟩
    have hjl : j < css.length * C := by
      have := (List.getElem?_eq_some_iff.1 hj).1
      rwa [flatten_len C css hlen] at this
    have hdiv : j / C < css.length := by rw [Nat.div_lt_iff_lt_mul hC]; exact hjl
    obtain ⟨cs, hcs⟩ : ∃ cs, css[j / C]? = some cs := ⟨_, List.getElem?_eq_getElem hdiv⟩
    obtain ⟨x, b', o', _, e3, e4, e5, _⟩ := k2 _ cs hcs
    rw [e2] at e3
    obtain ⟨rfl, rfl⟩ : b = b' ∧ o = o' := by simpa using e3
    have hmod : j % C < C := Nat.mod_lt _ hC
    have hj2 : j / C * C + j % C = j := by rw [Nat.mul_comm]; exact Nat.div_add_mod j C
    have e6 := flatten_at C css (j / C) (j % C) cs hlen hcs hmod
    rw [hj2, hj] at e6
    have e7 := e5 _ hmod
    rw [← e6, show o + j / C * C + j % C = o + j by omega] at e7
    exact e7
/-- a row copied into new memory: 'append(nil, v...)' -/
theorem copy_row {P : Program} {α : Type} {w : World} {C : Nat} {R : List Value → α → Prop} {v : Value} {xs : List α} (t T : TypeId) (i : TypeInfo) (z : Value) (bytes : Nat) (ht : P.underlying t = some (.slice T)) (hi : P.info? T = some i) (hz : i.zero = some z)
    (hsize : i.size = C) (hby : i.bytes = bytes) (hzs : z.cells.size = C) (hC : 0 < C) (h : SlR w C R v xs) (h1 : ∀ cs x, R cs x → ∀ u ∈ cs, u.oneCell' = true) (h63 : xs.length ≤ maxLen) (hbytes : xs.length * bytes ≤ 140737488355328) :
    ∃ (v' : Value) (w' : World) (css : List (List Value)), (Builtin.append_ #[t, t] t #[.slice none 0 0, v]).run P w = .ok v' w' ∧ w'.ownsRow w.heap.size T C v' xs.length css.flatten ∧ css.length = xs.length ∧ (∀ cs ∈ css, cs.length = C) ∧
      (∀ (i : Nat) cs x, css[i]? = some cs → xs[i]? = some x → R cs x) ∧ Below w.heap.size w w' := by
  obtain ⟨css, k1, k2, k3, A, cap, rfl, k4⟩ := h.css hC
  by_cases h0 : xs.length = 0
  · have hn : css = [] := by apply List.length_eq_zero_iff.1; omega
    subst hn
    refine ⟨.slice none 0 0, w, [], ?_, by rw [h0]; exact World.ownsRow_nil _ _ _ _, by simp [h0], (fun _ h => by cases h), (fun i cs x h => by simp at h), Below.refl _ _⟩
    rw [h0]
    cases A with
    | none => exact run_append_owned_none (P := P) w 0 t t T i C ht hi _ 0 [] (World.ownsRow_nil _ _ _ _)
    | some a => simp [Builtin.append_, run_underlying ht, sizeOf, typeInfo, hi, Builtin.lenOf, Builtin.firstCells, loadCells, loadCellsFrom]
  · obtain ⟨b, o, rfl, k5⟩ := k4 (by omega)
    obtain ⟨v', w', hr, g1, g2, g3⟩ := run_append_own (P := P) (w := w) w.heap.size t t T i z C bytes ht hi hz hsize hby hzs hC _ 0 [] (World.ownsRow_nil _ _ _ _) ⟨b, o, none⟩ xs.length cap css.flatten (by rw [flatten_len C css k2, k1])
      (fun j u hu => by rw [Addr.add_lit]; exact k5 j u hu) (fun u hu => by
        obtain ⟨cs, hcs, hu2⟩ := List.mem_flatten.1 hu
        obtain ⟨i, hi⟩ := List.mem_iff_getElem?.1 hcs
        have hil := (List.getElem?_eq_some_iff.1 hi).1
        exact h1 cs xs[i] (k3 i cs _ hi (List.getElem?_eq_getElem (by omega))) u hu2) (by omega) (by rw [Nat.zero_add]; exact hbytes) (Nat.le_refl _)
    rw [Nat.zero_add, List.nil_append] at g1
    exact ⟨v', w', css, hr, g1, k1, k2, k3, ⟨g2.os, g2.tape, g2.output, g2.size, fun k hk => g2.block k hk (by simp [Value.ownBlock])⟩⟩
theorem info_partsC {P : Program} {T : TypeId} {C B : Nat} (h : (P.info? T).map (fun i => (i.zero.map (·.cells.size), i.size, i.bytes)) = some (some C, C, B)) : ∃ i z, P.info? T = some i ∧ i.zero = some z ∧ z.cells.size = C ∧ i.size = C ∧ i.bytes = B := by
  cases hi : P.info? T with
  | none => rw [hi] at h; cases h
  | some i =>
    rw [hi] at h
    simp only [Option.map_some, Option.some.injEq, Prod.mk.injEq] at h
    obtain ⟨h1, h2, h3⟩ := h
    cases hz : i.zero with
    | none => rw [hz] at h1; cases h1
    | some z => rw [hz] at h1; exact ⟨i, z, rfl, hz, by simpa using h1, h2, h3⟩
theorem wpList_append_runC {P : Program} (w : World) {ops : Array Oper} {rest : List Oper} {o : Oper} {a : Act} {Q : Exit → Act → World → Prop} (hgd : o.guard = none) (s x : Operand) (t : TypeId)
    (ho : o.op = .call { callee := .builtin .append, args := #[s, x], argTypes := #[t, t] }) (v u v' : Value) (w' : World) (hs : a.eval s = v) (hx : a.eval x = u)
    (hr : (Builtin.append_ #[t, t] o.type #[v, u]).run P w = .ok v' w') (h : wpList P ops Q rest (a.put o.dst v') w') : wpList P ops Q (o :: rest) a w :=
  wpList_plain hgd fun _ hK => by
    unfold Oper.wp execOp
    simp only [ho, resolve, invoke, builtin, Sem.run_bind, Sem.run_pure, Result.andThen_ok, List.map_toArray, List.map_cons, List.map_nil, hs, hx, hr]
    exact hK _ _ h
theorem row_slR {α : Type} {w w' : World} {B C : Nat} {T : TypeId} {v : Value} {css : List (List Value)} {R : List Value → α → Prop} {xs : List α} (h : w.ownsRow B T C v xs.length css.flatten) (hl : css.length = xs.length) (he : ∀ cs ∈ css, cs.length = C) (hR : ∀ (i : Nat) cs x, css[i]? = some cs → xs[i]? = some x → R cs x)
    (hw : ∀ b, v.ownBlock = some b → w'.heap[b]? = w.heap[b]?) : SlR w' C R v xs := by
  rcases h.2 with ⟨rfl, e⟩ | ⟨g, cap, cur, rfl, h1, h2, h3, h4, _⟩
  · exact ⟨none, 0, by rw [e], by omega, by decide, fun i x hi => by have := (List.getElem?_eq_some_iff.1 hi).1; omega⟩
  · refine ⟨_, cap, rfl, h3, h4, fun i x hi => ?_⟩
    have hlt : i < xs.length := (List.getElem?_eq_some_iff.1 hi).1
    obtain ⟨cs, hcs⟩ : ∃ cs, css[i]? = some cs := ⟨_, List.getElem?_eq_getElem (by omega)⟩
    refine ⟨g, 0, cs, rfl, he cs (List.mem_of_getElem? hcs), fun j hj => ?_, hR i cs x hcs hi⟩
    have hk : i * C + j < xs.length * C := by
      have : (i + 1) * C ≤ xs.length * C := Nat.mul_le_mul_right C (by omega)
      rw [Nat.add_mul, Nat.one_mul] at this
      omega
    rw [Nat.zero_add]
    have e : w'.cell? ⟨g, i * C + j, none⟩ = w.cell? ⟨g, i * C + j, none⟩ := World.cell?_of_block (w := w) (a := ⟨g, i * C + j, none⟩) (hw g rfl)
    rw [e, World.ownsRow.cellAt h (i * C + j) hk]
    exact flatten_at C css i j cs he hcs hj
end Go.Proofs.YtbogcompeefoaaaDoor
namespace Go.Proofs.YtbogcompeefoaaaDoor
open Go.RowKit
set_option linter.unusedVariables false
set_option maxHeartbeats 2000000
theorem grown_set (w : World) (b j : Nat) (v : Value) : w.grownBy (w.setCell ⟨b, j, none⟩ v) (some b) := ⟨rfl, rfl, rfl, by simp [World.setCell], fun k hk hne => Below.heap_setCell w ⟨b, j, none⟩ v k (fun e => hne (by rw [e]))⟩
theorem below_set {B : Nat} {w0 w : World} (h : Below B w0 w) (g j : Nat) (v : Value) (hB : B ≤ g) : Below B w0 (w.setCell ⟨g, j, none⟩ v) :=
  ⟨h.os, h.tape, h.output, by simpa [World.setCell] using h.size, fun k hk => (Below.heap_setCell w ⟨g, j, none⟩ v k (fun e => by have : k = g := e; omega)).trans (h.block k hk)⟩
theorem below_over {w w1 w2 : World} (h1 : Below w.heap.size w w1) (h2 : Below w1.heap.size w1 w2) : Below w.heap.size w w2 := h1.trans (h2.mono h1.size)
/-- blocks of other types stand -/
def KeptL (w w' : World) : Prop := w.heap.size ≤ w'.heap.size ∧ ∀ (b : Nat) (cs : Array Value) (T : TypeId) (fr : Nat × Nat), w.heap[b]? = some (.cells cs T fr) → T ≠ 46 → T ≠ 85 → w'.heap[b]? = some (.cells cs T fr)
theorem KeptL.refl (w : World) : KeptL w w := ⟨Nat.le_refl _, fun _ _ _ _ h _ _ => h⟩
theorem KeptL.trans {w w1 w2 : World} (h : KeptL w w1) (k : KeptL w1 w2) : KeptL w w2 := ⟨Nat.le_trans h.1 k.1, fun b cs T fr hb h1 h2 => k.2 b cs T fr (h.2 b cs T fr hb h1 h2) h1 h2⟩
theorem KeptL.of_below {w w' : World} (hb : Below w.heap.size w w') : KeptL w w' := ⟨hb.size, fun b cs T fr h _ _ => blk_below h hb⟩
theorem KeptL.own {w w' : World} (h : KeptL w w') {B C n : Nat} {T : TypeId} {v : Value} {xs : List Value} (ho : w.ownsRow B T C v n xs) (h1 : T ≠ 46) (h2 : T ≠ 85) : w'.ownsRow B T C v n xs :=
  ⟨ho.1, by
    rcases ho.2 with e | ⟨g, cap, cur, e1, e2, e3, e4⟩
    · exact Or.inl e
    · exact Or.inr ⟨g, cap, cur, e1, e2, h.2 _ _ _ _ e3 h1 h2, e4⟩⟩
/-- what a picker holds beside its lines -/
structure PK where
  pp : Value
  ff : Value
  place : Value
  ac : Int
  mi : Value
  me : Value
  any_ : Bool
  num : Nat
  slots : Value
  cells : Int
  frame : Int
def PK.cs (k : PK) (out : Value) : Array Value := #[k.pp, k.ff, k.place, .int .i64 k.ac, k.mi, k.me, .bool k.any_, .int .i64 (k.num : Nat), k.slots, .int .i64 k.cells, .int .i64 k.frame, out]
def flatL (ls : List LineD) : List Value := ls.flatMap lineC
theorem flatL_length (ls : List LineD) : (flatL ls).length = ls.length * 11 := by
  induction ls with
  | nil => rfl
  | cons l r ih => rw [flatL, List.flatMap_cons, List.length_append]; rw [flatL] at ih; rw [ih, List.length_cons]; simp [lineC]; omega
def ivL (l : List Int) : List Value := l.map (Value.int .i64)
/-- a picker -/
structure PS (W0 : World) (gk : Nat) (k : PK) (pl sl : List Int) (ls : List LineD) (w : World) : Prop where
  bel : Below W0.heap.size W0 w
  gke : W0.heap.size ≤ gk
  box : ∃ A c, w.heap[gk]? = some (.cells (k.cs (.slice A ls.length c)) 85 (0, 0)) ∧ w.ownsRow W0.heap.size 46 11 (.slice A ls.length c) ls.length (flatL ls)
  plc : w.ownsRow 0 3 1 k.place pl.length (ivL pl)
  slt : w.ownsRow W0.heap.size 2 1 k.slots sl.length (ivL sl)
theorem PS.later {W0 : World} {gk : Nat} {k : PK} {pl sl : List Int} {ls : List LineD} {w w' : World} (h : PS W0 gk k pl sl ls w) (hb : Below w.heap.size w w') : PS W0 gk k pl sl ls w' := by
  obtain ⟨h1, h2, ⟨A, c, h3, h4⟩, h5, h6⟩ := h
  exact ⟨below_over h1 hb, h2, ⟨A, c, blk_below h3 hb, own_below h4 hb⟩, own_below h5 hb, own_below h6 hb⟩
theorem Tryd.infoLine : (Tryd.prog.info? 46).map (fun i => (i.zero.map (·.cells.size), i.size, i.bytes)) = some (some 11, 11, 96) := by kernel_rfl
theorem lineC_one (l : LineD) : ∀ u ∈ lineC l, u.oneCell' = true := by
  intro u hu
  simp only [lineC, List.mem_cons, List.not_mem_nil, or_false] at hu
  rcases hu with e | e | e | e | e | e | e | e | e | e | e <;> subst e <;> rfl
/-- one line more -/
theorem PS.push {W0 : World} {gk : Nat} {k : PK} {pl sl : List Int} {ls : List LineD} {w w2 : World} (h : PS W0 gk k pl sl ls w) (hb : Below w.heap.size w w2) (l : LineD) (hl : ls.length ≤ 1000000000) {A : Option Addr} {c : Nat} (hA : w.heap[gk]? = some (.cells (k.cs (.slice A ls.length c)) 85 (0, 0))) :
    ∃ A' c' w', (Builtin.append_ #[33, 33] 33 #[.slice A ls.length c, .slice (some ⟨w2.heap.size, 0, none⟩) 1 1]).run Tryd.prog (w2.alloc (.cells (lineC l).toArray 46)) = .ok (.slice A' (ls.length + 1) c') w' ∧
      w'.heap[gk]? = some (.cells (k.cs (.slice A ls.length c)) 85 (0, 0)) ∧ KeptL w w' ∧ PS W0 gk k pl sl (ls ++ [l]) (w'.setCell ⟨gk, 11, none⟩ (.slice A' (ls.length + 1) c')) ∧ KeptL w (w'.setCell ⟨gk, 11, none⟩ (.slice A' (ls.length + 1) c')) := by
  have h' := h.later hb
  obtain ⟨A0, c0, b1, b2⟩ := h'.box
  have e0 := blk_below hA hb
  rw [b1] at e0
  have e1 : A0 = A ∧ c0 = c := by
    simp only [PK.cs, Option.some.injEq, Obj.cells.injEq, Array.mk.injEq, List.cons.injEq, Value.slice.injEq, and_true, true_and] at e0
    exact e0
  obtain ⟨rfl, rfl⟩ := e1
  obtain ⟨i0, z0, q1, q2, q3, q4, q5⟩ := info_partsC Tryd.infoLine
  obtain ⟨v', w', r1, r2, r3, r4⟩ := append_oneC (P := Tryd.prog) W0.heap.size 33 46 i0 z0 11 96 Tryd.underlying33 q1 q2 q4 q5 q3 (by decide) (.slice A0 ls.length c0) ls.length (flatL ls) b2 (lineC l).toArray rfl w2.heap.size rfl (fun u hu => lineC_one l u hu) (by unfold maxLen; omega) (by omega) h'.bel.size
  obtain ⟨A', c', rfl, _⟩ := own_slice r2
  have hg := grown_set w' gk 11 (.slice A' (ls.length + 1) c')
  have kb := blk_kept b1 r3 (own_blk b2 b1 (by decide))
  have kbel := below_of_grown h'.bel (Nat.le_refl _) r3 (fun j hj => (b2.lt j hj).1)
  have r2' := r2.kept hg (own_blk r2 kb (by decide))
  have p1 := h'.plc.kept r3 (own_ne h'.plc b2 (by decide))
  have s1 := h'.slt.kept r3 (own_ne h'.slt b2 (by decide))
  have hk1 : KeptL w w' := ⟨Nat.le_trans hb.size r3.size, fun b cs T fr hb2 h1 _ => blk_kept (blk_below hb2 hb) r3 (own_blk b2 (blk_below hb2 hb) (fun e => h1 e.symm))⟩
  refine ⟨A', c', w', r1, kb, hk1, ⟨below_set kbel _ _ _ h.gke, h.gke, ⟨A', c', ?_, ?_⟩, p1.kept hg (own_blk p1 kb (by decide)), s1.kept hg (own_blk s1 kb (by decide))⟩, ?_, ?_⟩
  · rw [List.length_append, List.length_singleton]; exact blk_setCell kb _
  · rw [List.length_append, List.length_singleton, show flatL (ls ++ [l]) = flatL ls ++ (lineC l).toArray.toList by simp [flatL]]; exact r2'
  · exact Nat.le_trans hb.size (Nat.le_trans r3.size hg.size)
  · intro b cs T fr hb2 h1 h2
    have hb3 := blk_below hb2 hb
    have hb4 := blk_kept hb3 r3 (own_blk b2 hb3 (fun e => h1 e.symm))
    exact (hg.block b (blk_lt hb4) (fun e => by
      have e2 := Option.some.inj e
      subst e2
      rw [kb] at hb4
      simp only [Option.some.injEq, Obj.cells.injEq] at hb4
      exact h2 hb4.2.1.symm)).trans hb4
/-- lines laid behind ls0, no more than n -/
def PSeg (W0 : World) (gk : Nat) (k : PK) (pl sl : List Int) (nb : Nat) (ls0 : List LineD) (n : Nat) (w : World) : Prop := ls0.length ≤ 100000000 ∧ ∃ s, s.length ≤ n ∧ Seg k.num nb s ∧ PS W0 gk k pl sl (ls0 ++ s) w
theorem PSeg.later {W0 : World} {gk : Nat} {k : PK} {pl sl : List Int} {nb n : Nat} {ls : List LineD} {w w' : World} (h : PSeg W0 gk k pl sl nb ls n w) (hb : Below w.heap.size w w') : PSeg W0 gk k pl sl nb ls n w' := by
  obtain ⟨h0, s, h1, h2, h3⟩ := h
  exact ⟨h0, s, h1, h2, h3.later hb⟩
theorem PSeg.le {W0 : World} {gk : Nat} {k : PK} {pl sl : List Int} {nb n m : Nat} {ls : List LineD} {w : World} (h : PSeg W0 gk k pl sl nb ls n w) (hm : n ≤ m) : PSeg W0 gk k pl sl nb ls m w := by
  obtain ⟨h0, s, h1, h2, h3⟩ := h
  exact ⟨h0, s, by omega, h2, h3⟩
/-- what a method does: lines laid behind, a value answered -/
def Lays (W0 : World) (gk : Nat) (k : PK) (pl sl : List Int) (nb : Nat) (ls0 : List LineD) (n : Nat) (w : World) (v : Value) (e : Ending) (w' : World) : Prop :=
  e = .returned v ∧ PSeg W0 gk k pl sl nb ls0 n w' ∧ KeptL w w'
end Go.Proofs.YtbogcompeefoaaaDoor
namespace Go.Proofs.YtbogcompeefoaaaDoor
open Go.RowKit
set_option linter.unusedVariables false
/-- a register of the machine that is free to use -/
def RR (r : Int) : Prop := 0 ≤ r ∧ r ≤ 14 ∧ r ≠ 4
theorem insL9_of {op dst src imm size : Int} {sg : Bool} {cond : Int} {to_ : List UInt8} {hb rl : Bool}
    (h1 : RP op dst src imm size (oneL sg) cond (empL to_)) (h2 : In64 imm) (h3 : op ≠ 39 ∧ op ≠ 41 ∧ op ≠ 37) (h4 : op = 36 → dst = 11) (h5 : dst ≠ 15) (h6 : src ≠ 15)
    (h7 : rl = true ↔ op = 3 ∧ src = 4) (h8 : (op = 3 ∧ src = 4) ∨ (op = 4 ∧ dst = 4) → size = 8 ∧ 0 ≤ imm ∧ hb = false) : InsL9 ⟨[], op, dst, src, imm, size, sg, cond, to_, hb, rl⟩ :=
  ⟨h1, h2, h3.1, h3.2.1, h3.2.2, h4, h5, h6, h7, h8⟩
theorem one_f : oneL false = 0 := rfl
theorem emp_nil : empL [] = 1 := rfl
theorem emp_ne {l : List UInt8} (h : l ≠ []) : empL l = 0 := by cases l with | nil => exact absurd rfl h | cons a r => rfl
/-- registers alone: one or two -/
theorem two_ok {op dst src : Int} (ho : op = 1 ∨ (7 ≤ op ∧ op ≤ 13)) (hd : RR dst) (hs : RR src) : InsL9 ⟨[], op, dst, src, 0, 0, false, 0, [], false, false⟩ := by
  obtain ⟨d1, d2, d3⟩ := hd
  obtain ⟨s1, s2, s3⟩ := hs
  refine insL9_of ?_ ⟨by decide, by decide⟩ (by omega) (by omega) (by omega) (by omega) ⟨fun h => (by cases h), fun h => by omega⟩ (by omega)
  rw [one_f, emp_nil]; unfold RP lD lS lI lZ lG lC lT; omega
theorem one_ok {op dst : Int} {hb : Bool} (ho : (21 ≤ op ∧ op ≤ 23) ∨ op = 28 ∨ op = 29 ∨ op = 40 ∨ (op = 36 ∧ dst = 11)) (hd : RR dst) : InsL9 ⟨[], op, dst, 0, 0, 0, false, 0, [], hb, false⟩ := by
  obtain ⟨d1, d2, d3⟩ := hd
  refine insL9_of ?_ ⟨by decide, by decide⟩ (by omega) (by omega) (by omega) (by omega) ⟨fun h => (by cases h), fun h => by omega⟩ (by omega)
  rw [one_f, emp_nil]; unfold RP lD lS lI lZ lG lC lT; omega
/-- no operand -/
theorem none_ok {op : Int} (ho : op = 27 ∨ op = 38) : InsL9 ⟨[], op, 0, 0, 0, 0, false, 0, [], false, false⟩ := by
  refine insL9_of ?_ ⟨by decide, by decide⟩ (by omega) (by omega) (by omega) (by omega) ⟨fun h => (by cases h), fun h => by omega⟩ (by omega)
  rw [one_f, emp_nil]; unfold RP lD lS lI lZ lG lC lT; omega
theorem movi_ok {dst imm : Int} (hd : RR dst) (hi : In64 imm) : InsL9 ⟨[], 2, dst, 0, imm, 0, false, 0, [], false, false⟩ := by
  obtain ⟨d1, d2, d3⟩ := hd
  refine insL9_of ?_ hi (by omega) (by omega) (by omega) (by omega) ⟨fun h => (by cases h), fun h => by omega⟩ (by omega)
  rw [one_f, emp_nil]; unfold RP lD lS lI lZ lG lC lT; omega
/-- a number in the instruction -/
theorem num_ok {op dst imm : Int} (ho : 14 ≤ op ∧ op ≤ 20) (hd : RR dst ∨ dst = 4) (h1 : -2147483648 ≤ imm) (h2 : imm ≤ 2147483647) : InsL9 ⟨[], op, dst, 0, imm, 0, false, 0, [], false, false⟩ := by
  have hd' : 0 ≤ dst ∧ dst ≤ 14 := by rcases hd with ⟨a, b, _⟩ | rfl <;> omega
  refine insL9_of ?_ ⟨by omega, by omega⟩ (by omega) (by omega) (by omega) (by omega) ⟨fun h => (by cases h), fun h => by omega⟩ (by omega)
  rw [one_f, emp_nil]; unfold RP lD lS lI lZ lG lC lT; omega
theorem shift_ok {op dst imm : Int} (ho : 24 ≤ op ∧ op ≤ 26) (hd : RR dst) (h1 : 0 ≤ imm) (h2 : imm ≤ 63) : InsL9 ⟨[], op, dst, 0, imm, 0, false, 0, [], false, false⟩ := by
  obtain ⟨d1, d2, d3⟩ := hd
  refine insL9_of ?_ ⟨by omega, by omega⟩ (by omega) (by omega) (by omega) (by omega) ⟨fun h => (by cases h), fun h => by omega⟩ (by omega)
  rw [one_f, emp_nil]; unfold RP lD lS lI lZ lG lC lT; omega
/-- a cell that is fetched, one that is kept -/
theorem fetch_ok {dst imm : Int} (hd : RR dst) (h1 : 0 ≤ imm) (h2 : imm ≤ 2147483647) : InsL9 ⟨[], 3, dst, 4, imm, 8, false, 0, [], false, true⟩ := by
  obtain ⟨d1, d2, d3⟩ := hd
  refine insL9_of ?_ ⟨by omega, by omega⟩ (by omega) (by omega) (by omega) (by omega) ⟨fun _ => ⟨rfl, rfl⟩, fun _ => rfl⟩ (fun _ => ⟨rfl, h1, rfl⟩)
  rw [one_f, emp_nil]; unfold RP lD lS lI lZ lG lC lT; omega
theorem keep_ok {src imm : Int} (hs : RR src) (h1 : 0 ≤ imm) (h2 : imm ≤ 2147483647) : InsL9 ⟨[], 4, 4, src, imm, 8, false, 0, [], false, false⟩ := by
  obtain ⟨d1, d2, d3⟩ := hs
  refine insL9_of ?_ ⟨by omega, by omega⟩ (by omega) (by omega) (by omega) (by omega) ⟨fun h => (by cases h), fun h => by omega⟩ (fun _ => ⟨rfl, h1, rfl⟩)
  rw [one_f, emp_nil]; unfold RP lD lS lI lZ lG lC lT; omega
/-- memory -/
theorem load_ok {dst src imm size : Int} {sg hb : Bool} (hd : RR dst) (hs : RR src) (h1 : -2147483648 ≤ imm) (h2 : imm ≤ 2147483647) (hz : size = 1 ∨ size = 2 ∨ size = 4 ∨ size = 8) (hg : sg = true → size ≠ 8) : InsL9 ⟨[], 3, dst, src, imm, size, sg, 0, [], hb, false⟩ := by
  obtain ⟨d1, d2, d3⟩ := hd
  obtain ⟨s1, s2, s3⟩ := hs
  have ho : oneL sg = 0 ∨ (oneL sg = 1 ∧ size ≠ 8) := by cases sg <;> simp_all [oneL]
  refine insL9_of ?_ ⟨by omega, by omega⟩ (by omega) (by omega) (by omega) (by omega) ⟨fun h => (by cases h), fun h => by omega⟩ (by omega)
  rw [emp_nil]; unfold RP lD lS lI lZ lG lC lT; omega
theorem store_ok {dst src imm size : Int} {hb : Bool} (hd : RR dst) (hs : RR src) (h1 : -2147483648 ≤ imm) (h2 : imm ≤ 2147483647) (hz : size = 1 ∨ size = 2 ∨ size = 4 ∨ size = 8) : InsL9 ⟨[], 4, dst, src, imm, size, false, 0, [], hb, false⟩ := by
  obtain ⟨d1, d2, d3⟩ := hd
  obtain ⟨s1, s2, s3⟩ := hs
  refine insL9_of ?_ ⟨by omega, by omega⟩ (by omega) (by omega) (by omega) (by omega) ⟨fun h => (by cases h), fun h => by omega⟩ (by omega)
  rw [one_f, emp_nil]; unfold RP lD lS lI lZ lG lC lT; omega
theorem ext_ok {dst src size : Int} {sg : Bool} (hd : RR dst) (hs : RR src) (hz : size = 1 ∨ size = 2 ∨ size = 4) : InsL9 ⟨[], 30, dst, src, 0, size, sg, 0, [], false, false⟩ := by
  obtain ⟨d1, d2, d3⟩ := hd
  obtain ⟨s1, s2, s3⟩ := hs
  have ho : oneL sg = 0 ∨ oneL sg = 1 := by cases sg <;> simp [oneL]
  refine insL9_of ?_ ⟨by omega, by omega⟩ (by omega) (by omega) (by omega) (by omega) ⟨fun h => (by cases h), fun h => by omega⟩ (by omega)
  rw [emp_nil]; unfold RP lD lS lI lZ lG lC lT; omega
theorem lea_ok {dst src imm : Int} (hd : RR dst) (hs : RR src ∨ src = 4) (h1 : -2147483648 ≤ imm) (h2 : imm ≤ 2147483647) : InsL9 ⟨[], 5, dst, src, imm, 0, false, 0, [], false, false⟩ := by
  obtain ⟨d1, d2, d3⟩ := hd
  have hs' : 0 ≤ src ∧ src ≤ 14 := by rcases hs with ⟨a, b, _⟩ | rfl <;> omega
  refine insL9_of ?_ ⟨by omega, by omega⟩ (by omega) (by omega) (by omega) (by omega) ⟨fun h => (by cases h), fun h => by omega⟩ (by omega)
  rw [one_f, emp_nil]; unfold RP lD lS lI lZ lG lC lT; omega
theorem set_ok {dst cond : Int} (hd : RR dst) (hc : 0 ≤ cond ∧ cond ≤ 9) : InsL9 ⟨[], 31, dst, 0, 0, 0, false, cond, [], false, false⟩ := by
  obtain ⟨d1, d2, d3⟩ := hd
  refine insL9_of ?_ ⟨by omega, by omega⟩ (by omega) (by omega) (by omega) (by omega) ⟨fun h => (by cases h), fun h => by omega⟩ (by omega)
  rw [one_f, emp_nil]; unfold RP lD lS lI lZ lG lC lT; omega
/-- labels -/
theorem leal_ok {dst : Int} {l : List UInt8} (hd : RR dst) (hl : l ≠ []) : InsL9 ⟨[], 6, dst, 0, 0, 0, false, 0, l, false, false⟩ := by
  obtain ⟨d1, d2, d3⟩ := hd
  refine insL9_of ?_ ⟨by omega, by omega⟩ (by omega) (by omega) (by omega) (by omega) ⟨fun h => (by cases h), fun h => by omega⟩ (by omega)
  rw [one_f, emp_ne hl]; unfold RP lD lS lI lZ lG lC lT; omega
theorem to_ok {op cond : Int} {l : List UInt8} {hb : Bool} (ho : op = 33 ∨ op = 34 ∨ op = 35) (hc : (op = 34 ∧ 0 ≤ cond ∧ cond ≤ 9) ∨ cond = 0) (hl : l ≠ []) : InsL9 ⟨[], op, 0, 0, 0, 0, false, cond, l, hb, false⟩ := by
  refine insL9_of ?_ ⟨by omega, by omega⟩ (by omega) (by omega) (by omega) (by omega) ⟨fun h => (by cases h), fun h => by omega⟩ (by omega)
  rw [one_f, emp_ne hl]; unfold RP lD lS lI lZ lG lC lT; omega
end Go.Proofs.YtbogcompeefoaaaDoor
