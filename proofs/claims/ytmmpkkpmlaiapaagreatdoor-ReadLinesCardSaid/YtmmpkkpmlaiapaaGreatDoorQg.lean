/- Walks: which instructions may be (what is asked; the first refusals). What an instruction's line rests on. What is known of an instruction's fields, and of the letters. Walks: which instructions may be (the first refusals). No condition. -/
import Derived.Test.YtmmpkkpmlaiapaaGreatDoorCpuU
import Derived.Test.YtmmpkkpmlaiapaaGreatDoorAsB
import Derived.Test.YtmmpkkpmlaiapaaGreatDoorQc
namespace Go.Proofs.YtmmpkkpmlaiapaaGreatDoor
open Go.RowKit
set_option linter.unusedVariables false
set_option maxHeartbeats 8000000
def lD (op : Int) : Prop := op ≤ 6 ∨ (7 ≤ op ∧ op ≤ 26) ∨ (28 ≤ op ∧ op ≤ 32) ∨ op = 36 ∨ op = 37 ∨ op = 40
def lS (op : Int) : Prop := op = 1 ∨ (3 ≤ op ∧ op ≤ 5) ∨ (7 ≤ op ∧ op ≤ 13) ∨ op = 30 ∨ op = 32
def lI (op : Int) : Prop := (2 ≤ op ∧ op ≤ 5) ∨ (14 ≤ op ∧ op ≤ 20) ∨ (24 ≤ op ∧ op ≤ 26)
def lZ (op : Int) : Prop := op = 3 ∨ op = 4 ∨ op = 30
def lG (op : Int) : Prop := op = 3 ∨ op = 30
def lC (op : Int) : Prop := op = 31 ∨ op = 32 ∨ op = 34
def lT (op : Int) : Prop := op = 6 ∨ (33 ≤ op ∧ op ≤ 35)
def RP (op dst src imm size s cond e : Int) : Prop :=
  1 ≤ op ∧ op ≤ 41 ∧ 0 ≤ dst ∧ dst ≤ 15 ∧ 0 ≤ src ∧ src ≤ 15 ∧ (op = 2 ∨ (-2147483648 ≤ imm ∧ imm ≤ 2147483647)) ∧
  (lD op ∨ dst = 0) ∧ (lS op ∨ src = 0) ∧ (lI op ∨ imm = 0) ∧ (lZ op ∨ size = 0) ∧ (lG op ∨ ¬ s = 1) ∧ (lC op ∨ cond = 0) ∧ (lT op ∨ e = 1) ∧
  (¬ lZ op ∨ size = 1 ∨ size = 2 ∨ size = 4 ∨ (size = 8 ∧ ¬ op = 30)) ∧ ¬ (s = 1 ∧ size = 8) ∧ (¬ lC op ∨ (0 ≤ cond ∧ cond ≤ 9)) ∧ (¬ (24 ≤ op ∧ op ≤ 26) ∨ (0 ≤ imm ∧ imm ≤ 63))
def RightIs (R : Prop) (en : Ending) : Prop := ∃ b : Bool, en = .returned (.bool b) ∧ (b = true ↔ R)
theorem ret_rp_true {R : Prop} (h : R) : RightIs R (.returned (.bool true)) := ⟨true, rfl, by simpa using h⟩
theorem ret_rp_false {R : Prop} (h : ¬ R) : RightIs R (.returned (.bool false)) := ⟨false, rfl, by simpa using h⟩
theorem ret_rp {R : Prop} {b : Bool} (h : b = true ↔ R) : RightIs R (.returned (.bool b)) := ⟨b, rfl, h⟩
theorem no_arith {op dst src imm size s cond e : Int} (h : op < 1 ∨ 41 < op ∨ dst < 0 ∨ 15 < dst ∨ src < 0 ∨ 15 < src ∨ (¬ op = 2 ∧ (imm < -2147483648 ∨ 2147483647 < imm))) : ¬ RP op dst src imm size s cond e := by
  unfold RP; omega
end Go.Proofs.YtmmpkkpmlaiapaaGreatDoor
namespace Go.Proofs.YtmmpkkpmlaiapaaGreatDoor
open Go.RowKit
set_option linter.unusedVariables false
def cB (c : Int) : ByteArray := ⟨⟨condF c⟩⟩
def mvB (k : Nat) (g : Bool) : ByteArray := ⟨⟨(moveF k g).1⟩⟩
def mvN (k : Nat) (g : Bool) : Int := (moveF k g).2
def leL (k : Nat) : List UInt8 := match k with | 0 => [98] | 1 => [119] | 2 => [108] | _ => [113]
def leB (k : Nat) : ByteArray := ⟨⟨leL k⟩⟩
def movB (k : Nat) : ByteArray := match k with | 0 => ⟨#[109, 111, 118, 98, 32]⟩ | 1 => ⟨#[109, 111, 118, 119, 32]⟩ | 2 => ⟨#[109, 111, 118, 108, 32]⟩ | _ => ⟨#[109, 111, 118, 113, 32]⟩
theorem cB_size (c : Int) : (cB c).size ≤ 2 := cond_len c
theorem mvB_size (k : Nat) (g : Bool) : (mvB k g).size ≤ 6 := move_len k g
theorem leB_size (k : Nat) : (leB k).size ≤ 1 := by unfold leB leL; rw [size_mk]; split <;> decide
theorem movB_size (k : Nat) : (movB k).size ≤ 5 := by unfold movB; split <;> decide
theorem cond_b (w : World) (hN : GsOk w) (c : Int) : Calls Tryz.prog 71 #[.int .i64 c] w fun e w' => e = .returned (.string (cB c)) ∧ Below w.heap.size w w' := cond_all w hN c
theorem rcond_b (w : World) (hN : GsOk w) (c : Int) (h : 0 ≤ c ∧ c ≤ 9) : Calls Tryz.prog 22 #[.int .i64 c] w fun e w' => e = .returned (.string (cB c)) ∧ Below w.heap.size w w' := rcond_all w hN c h
theorem move_b (w : World) (hN : GsOk w) (k : Nat) (g : Bool) (hk : k < 4) : Calls Tryz.prog 53 #[.int .i64 ((2 ^ k : Nat) : Int), .bool g] w fun e w' => e = .returned (.tuple #[.string (mvB k g), .int .i64 (mvN k g)]) ∧ Below w.heap.size w w' := move_all w hN k g hk
theorem wide_b (w : World) (hN : GsOk w) (k : Nat) (g : Bool) (hk : k < 4) : Calls Tryz.prog 20 #[.int .i64 ((2 ^ k : Nat) : Int), .bool g] w fun e w' => e = .returned (.tuple #[.string (mvB k g), .int .i64 (mvN k g)]) ∧ Below w.heap.size w w' := wide_all w hN k g hk
theorem letter_b (w : World) (hN : GsOk w) (k : Nat) (hk : k < 4) : Calls Tryz.prog 56 #[.int .i64 ((2 ^ k : Nat) : Int)] w fun e w' => e = .returned (.string (leB k)) ∧ Below w.heap.size w w' :=
  match k, hk with
  | 0, _ => letter_1 w hN
  | 1, _ => letter_2 w hN
  | 2, _ => letter_4 w hN
  | 3, _ => letter_8 w hN
  | k + 4, h => by omega
theorem mvN_cases (k : Nat) (g : Bool) : mvN k g = 8 ∨ mvN k g = 4 ∨ mvN k g = 2 ∨ mvN k g = 1 := by unfold mvN moveF; split <;> simp
theorem size_cases {size : Int} (k : Nat) (hk : k < 4) (h : size = ((2 ^ k : Nat) : Int)) : size = 8 ∨ size = 4 ∨ size = 2 ∨ size = 1 := by
  have : k = 0 ∨ k = 1 ∨ k = 2 ∨ k = 3 := by omega
  rcases this with rfl | rfl | rfl | rfl <;> (rw [h]; decide)
theorem rr_i (w : World) (hN : GsOk w) (n s : Int) (hn : 0 ≤ n ∧ n ≤ 15) (hs : s = 8 ∨ s = 4 ∨ s = 2 ∨ s = 1) : Calls Tryz.prog 18 #[.int .i64 n, .int .i64 s] w fun e w' => e = .returned (.string (pS n s)) ∧ Below w.heap.size w w' := by
  obtain ⟨m, rfl⟩ : ∃ m : Nat, n = m := ⟨n.toNat, by omega⟩
  exact rr_any w hN m (by omega) s hs
theorem rat_i (w : World) (hN : GsOk w) (b : Int) (hb : 0 ≤ b ∧ b ≤ 15) (n : Int) (hn : In64 n) : Calls Tryz.prog 21 #[.int .i64 b, .int .i64 n] w fun e w' => e = .returned (.string (atB b n)) ∧ Below w.heap.size w w' := by
  obtain ⟨m, rfl⟩ : ∃ m : Nat, b = m := ⟨b.toNat, by omega⟩
  exact rat_any w hN m (by omega) n hn
def RX (op dst src imm size : Int) (g : Bool) (cond : Int) (to_ : ByteArray) : Prop := ∀ W : World, Calls Tryz.prog 49 #[.agg #[.int .i64 op, .int .i64 dst, .int .i64 src, .int .i64 imm, .int .i64 size, .bool g, .int .i64 cond, .string to_]] W fun en w' => en = .returned (.bool true) ∧ Below W.heap.size W w'
def RR (op dst src imm size : Int) (g : Bool) (cond : Int) (to_ : ByteArray) : Prop := ∀ W : World, Calls Tryz.prog 9 #[.agg #[.int .i64 op, .int .i64 dst, .int .i64 src, .int .i64 imm, .int .i64 size, .bool g, .int .i64 cond, .string to_]] W fun en w' => en = .returned (.bool true) ∧ Below W.heap.size W w'
end Go.Proofs.YtmmpkkpmlaiapaaGreatDoor
namespace Go.Proofs.YtmmpkkpmlaiapaaGreatDoor
open Go.RowKit
set_option linter.unusedVariables false
theorem mixedR : Tryz.prog.follows .mixedOrders = true := by kernel_rfl
def Tab.fn (P : Program) (g : FuncId) (F : List Value → Option Value) (hF : ∀ xs v, F xs = some v → pf v = true ∧ pfs xs = true ∧ ∀ w, Calls P g xs.toArray w fun e w' => e = .returned v ∧ Below w.heap.size w w') : Tab P :=
  ⟨fun f' xs => bif f'.beq g then F xs else Option.none, [], [], fun f' xs v hv => by
    cases hb : Nat.beq f' g with
    | false => rw [hb] at hv; cases hv
    | true =>
      rw [hb] at hv
      simp only [cond_true] at hv
      have := Nat.eq_of_beq_eq_true hb
      subst this
      obtain ⟨h1, h2, h3⟩ := hF xs v hv
      refine ⟨h1, fun D β xs' w _ hl => ?_⟩
      rw [pfs_LR_eq h2 hl]
      exact h3 w⟩
def usesF : List Value → Option Value
  | [.int k op] => if k = .i64 ∧ 1 ≤ op ∧ op ≤ 41 then some (.string (usesS op)) else Option.none
  | _ => Option.none
def hasF : List Value → Option Value
  | [.string s, .int k c] => if k = .u8 ∧ s.size ≤ 100 then some (.bool (hasL s c)) else Option.none
  | _ => Option.none
theorem usesF_ok : ∀ xs v, usesF xs = some v → pf v = true ∧ pfs xs = true ∧ ∀ w, Calls Tryz.prog 28 xs.toArray w fun e w' => e = .returned v ∧ Below w.heap.size w w' := by
  intro xs v hv
  unfold usesF at hv
  split at hv
  · split at hv
    · rename_i h
      simp only [Option.some.injEq] at hv
      subst hv
      obtain ⟨rfl, h1, h2⟩ := h
      refine ⟨rfl, rfl, fun w => (uses_walk _ w ⟨h1, h2⟩).mono ?_⟩
      rintro e w' ⟨rfl, rfl⟩
      exact ⟨rfl, Below.refl _ _⟩
    · cases hv
  · cases hv
theorem hasF_ok : ∀ xs v, hasF xs = some v → pf v = true ∧ pfs xs = true ∧ ∀ w, Calls Tryz.prog 29 xs.toArray w fun e w' => e = .returned v ∧ Below w.heap.size w w' := by
  intro xs v hv
  unfold hasF at hv
  split at hv
  · split at hv
    · rename_i h
      simp only [Option.some.injEq] at hv
      subst hv
      obtain ⟨rfl, h1⟩ := h
      refine ⟨rfl, rfl, fun w => (has_walk _ _ w h1).mono ?_⟩
      rintro e w' ⟨rfl, rfl⟩
      exact ⟨rfl, Below.refl _ _⟩
    · cases hv
  · cases hv
noncomputable def tabR : Tab Tryz.prog := Tab.and (Tab.fn Tryz.prog 28 usesF usesF_ok) (Tab.fn Tryz.prog 29 hasF hasF_ok) rfl
def m5 (d s i z c : Int) : Int → Int := fun k => if k = 0 then d else if k = 1 then s else if k = 2 then i else if k = 3 then z else c
def argR (op : Int) (sg : Bool) (to_ : ByteArray) : Value := .agg #[.int .i64 op, mark .i64 0, mark .i64 1, mark .i64 2, mark .i64 3, .bool sg, mark .i64 4, .string to_]
theorem argR_vr (op : Int) (sg : Bool) (to_ : ByteArray) (d s i z c : Int) (β : Place) : VR (den (m5 d s i z c)) β (argR op sg to_) (.agg #[.int .i64 op, .int .i64 d, .int .i64 s, .int .i64 i, .int .i64 z, .bool sg, .int .i64 c, .string to_]) := by
  refine .agg [.int .i64 op, mark .i64 0, mark .i64 1, mark .i64 2, mark .i64 3, .bool sg, mark .i64 4, .string to_] [.int .i64 op, .int .i64 d, .int .i64 s, .int .i64 i, .int .i64 z, .bool sg, .int .i64 c, .string to_] rfl ?_
  intro j x y hx hy
  match j, hx, hy with
  | 0, hx, hy => cases hx; cases hy; exact .int .i64 op
  | 1, hx, hy => cases hx; cases hy; exact mark_vr (m5 d s i z c) β .i64 0
  | 2, hx, hy => cases hx; cases hy; exact mark_vr (m5 d s i z c) β .i64 1
  | 3, hx, hy => cases hx; cases hy; exact mark_vr (m5 d s i z c) β .i64 2
  | 4, hx, hy => cases hx; cases hy; exact mark_vr (m5 d s i z c) β .i64 3
  | 5, hx, hy => cases hx; cases hy; exact .bool sg
  | 6, hx, hy => cases hx; cases hy; exact mark_vr (m5 d s i z c) β .i64 4
  | 7, hx, hy => cases hx; cases hy; exact .string to_
theorem rr_of {d s i z c : Int} (H : Know) (hH : KnowOk (m5 d s i z c) H) (op : Int) (sg : Bool) (to_ : ByteArray) (b : Bool) (h : (vcall (Sy.ints Tryz.prog (m5 d s i z c) H hH tabR) 100000 60 0 9 [argR op sg to_] (globW 0 [])).map (·.1) = some (.bool b)) (w : World) :
    Calls Tryz.prog 9 #[.agg #[.int .i64 op, .int .i64 d, .int .i64 s, .int .i64 i, .int .i64 z, .bool sg, .int .i64 c, .string to_]] w fun e w' => e = .returned (.bool b) ∧ Below w.heap.size w w' :=
  vrunS _ (fun _ => rfl) mixedR 100000 60 9 _ [.agg #[.int .i64 op, .int .i64 d, .int .i64 s, .int .i64 i, .int .i64 z, .bool sg, .int .i64 c, .string to_]] (.bool b) (fun β => LR.cons (argR_vr op sg to_ d s i z c β) LR.nil) rfl h w
theorem kn_nil (ρ : Int → Int) : KnowOk ρ [] := fun p hp => by cases hp
theorem kn_cons {ρ : Int → Int} {n : Value} {b : Bool} {H : Know} (h : den ρ n = some (.bool b)) (hH : KnowOk ρ H) : KnowOk ρ ((n, .bool b) :: H) := by
  intro p hp
  rcases List.mem_cons.1 hp with rfl | hp
  · exact ⟨h, rfl⟩
  · exact hH p hp
theorem kn_lss {ρ : Int → Int} (m l : Int) (b : Bool) (h : decide (ρ m < l) = b) : den ρ (symNode .lss .i64 (mark .i64 m) (.int .i64 l)) = some (.bool b) := den_cmp rfl (den_mark _ _ _) (den_lit _ _ _) (by simp only [evB2, isShift, evB, h]; rfl)
theorem kn_gtr {ρ : Int → Int} (m l : Int) (b : Bool) (h : decide (ρ m > l) = b) : den ρ (symNode .gtr .i64 (mark .i64 m) (.int .i64 l)) = some (.bool b) := den_cmp rfl (den_mark _ _ _) (den_lit _ _ _) (by simp only [evB2, isShift, evB, h]; rfl)
theorem kn_geq {ρ : Int → Int} (m l : Int) (b : Bool) (h : decide (ρ m ≥ l) = b) : den ρ (symNode .geq .i64 (mark .i64 m) (.int .i64 l)) = some (.bool b) := den_cmp rfl (den_mark _ _ _) (den_lit _ _ _) (by simp only [evB2, isShift, evB, h]; rfl)
theorem kn_leq {ρ : Int → Int} (m l : Int) (b : Bool) (h : decide (ρ m ≤ l) = b) : den ρ (symNode .leq .i64 (mark .i64 m) (.int .i64 l)) = some (.bool b) := den_cmp rfl (den_mark _ _ _) (den_lit _ _ _) (by simp only [evB2, isShift, evB, h]; rfl)
theorem kn_neq {ρ : Int → Int} (m l : Int) (b : Bool) (h : decide (ρ m ≠ l) = b) : den ρ (symNode .neq .i64 (mark .i64 m) (.int .i64 l)) = some (.bool b) := den_cmp rfl (den_mark _ _ _) (den_lit _ _ _) (by subst h; by_cases hh : ρ m = l <;> simp [evB2, isShift, evB, hh])
theorem kn_eql {ρ : Int → Int} (m l : Int) (b : Bool) (h : decide (ρ m = l) = b) : den ρ (symNode .eql .i64 (mark .i64 m) (.int .i64 l)) = some (.bool b) := den_cmp rfl (den_mark _ _ _) (den_lit _ _ _) (by subst h; by_cases hh : ρ m = l <;> simp [evB2, isShift, evB, hh])
theorem nT {ρ : Int → Int} {H : Know} (m l : Int) (h : ρ m ≠ l) (hH : KnowOk ρ H) : KnowOk ρ ((symNode .neq .i64 (mark .i64 m) (.int .i64 l), .bool true) :: H) := kn_cons (kn_neq m l true (decide_eq_true h)) hH
theorem nF {ρ : Int → Int} {H : Know} (m l : Int) (h : ¬ ρ m ≠ l) (hH : KnowOk ρ H) : KnowOk ρ ((symNode .neq .i64 (mark .i64 m) (.int .i64 l), .bool false) :: H) := kn_cons (kn_neq m l false (decide_eq_false h)) hH
theorem rbase (dst src imm size cond : Int) (d1 : 0 ≤ dst) (d2 : dst ≤ 15) (s1 : 0 ≤ src) (s2 : src ≤ 15) (i1 : -2147483648 ≤ imm) (i2 : imm ≤ 2147483647) :
    KnowOk (m5 dst src imm size cond) [(symNode .lss .i64 (mark .i64 0) (.int .i64 0), .bool false), (symNode .gtr .i64 (mark .i64 0) (.int .i64 15), .bool false), (symNode .lss .i64 (mark .i64 1) (.int .i64 0), .bool false), (symNode .gtr .i64 (mark .i64 1) (.int .i64 15), .bool false), (symNode .lss .i64 (mark .i64 2) (.int .i64 (-2147483648)), .bool false), (symNode .gtr .i64 (mark .i64 2) (.int .i64 2147483647), .bool false)] := (kn_cons (kn_lss 0 0 false (decide_eq_false (show ¬ (dst < 0) by omega))) (kn_cons (kn_gtr 0 15 false (decide_eq_false (show ¬ (dst > 15) by omega))) (kn_cons (kn_lss 1 0 false (decide_eq_false (show ¬ (src < 0) by omega))) (kn_cons (kn_gtr 1 15 false (decide_eq_false (show ¬ (src > 15) by omega))) (kn_cons (kn_lss 2 (-2147483648) false (decide_eq_false (show ¬ (imm < (-2147483648)) by omega))) (kn_cons (kn_gtr 2 2147483647 false (decide_eq_false (show ¬ (imm > 2147483647) by omega))) (kn_nil (m5 dst src imm size cond))))))))
theorem fin_true {args : Array Value} {f : FuncId} {w : World} {n : Nat} {R : Prop} (h : Calls Tryz.prog f args w fun e w' => e = .returned (.bool true) ∧ Below n w w') (hr : R) : Calls Tryz.prog f args w fun e w' => RightIs R e ∧ Below n w w' := h.mono fun _ _ hh => ⟨by rw [hh.1]; exact ret_rp_true hr, hh.2⟩
theorem fin_false {args : Array Value} {f : FuncId} {w : World} {n : Nat} {R : Prop} (h : Calls Tryz.prog f args w fun e w' => e = .returned (.bool false) ∧ Below n w w') (hr : ¬ R) : Calls Tryz.prog f args w fun e w' => RightIs R e ∧ Below n w w' := h.mono fun _ _ hh => ⟨by rw [hh.1]; exact ret_rp_false hr, hh.2⟩
def RrG (op d s i z c s1 e : Int) (sg : Bool) (to_ : ByteArray) (w : World) : Prop := Calls Tryz.prog 9 #[.agg #[.int .i64 op, .int .i64 d, .int .i64 s, .int .i64 i, .int .i64 z, .bool sg, .int .i64 c, .string to_]] w fun en w' => RightIs (RP op d s i z s1 c e) en ∧ Below w.heap.size w w'
theorem rz0 {d s i z c op s1 e : Int} {sg : Bool} {to_ : ByteArray} {w : World} {H : Know} (hH : KnowOk (m5 d s i z c) H) (h : (vcall (Sy.ints Tryz.prog (m5 d s i z c) H hH tabR) 100000 60 0 9 [argR op sg to_] (globW 0 [])).map (·.1) = some (.bool false) := by kernel_rfl) (hr : ¬ RP op d s i z s1 c e := by unfold RP lD lS lI lZ lG lC lT; omega) : RrG op d s i z c s1 e sg to_ w := fin_false (rr_of _ hH op sg to_ false h w) hr
theorem rz1 {d s i z c op s1 e : Int} {sg : Bool} {to_ : ByteArray} {w : World} {H : Know} (hH : KnowOk (m5 d s i z c) H) (h : (vcall (Sy.ints Tryz.prog (m5 d s i z c) H hH tabR) 100000 60 0 9 [argR op sg to_] (globW 0 [])).map (·.1) = some (.bool true) := by kernel_rfl) (hr : RP op d s i z s1 c e := by unfold RP lD lS lI lZ lG lC lT; omega) : RrG op d s i z c s1 e sg to_ w := fin_true (rr_of _ hH op sg to_ true h w) hr
theorem rbase4 (dst src imm size cond : Int) (d1 : 0 ≤ dst) (d2 : dst ≤ 15) (s1 : 0 ≤ src) (s2 : src ≤ 15) :
    KnowOk (m5 dst src imm size cond) [(symNode .lss .i64 (mark .i64 0) (.int .i64 0), .bool false), (symNode .gtr .i64 (mark .i64 0) (.int .i64 15), .bool false), (symNode .lss .i64 (mark .i64 1) (.int .i64 0), .bool false), (symNode .gtr .i64 (mark .i64 1) (.int .i64 15), .bool false)] := (kn_cons (kn_lss 0 0 false (decide_eq_false (show ¬ (dst < 0) by omega))) (kn_cons (kn_gtr 0 15 false (decide_eq_false (show ¬ (dst > 15) by omega))) (kn_cons (kn_lss 1 0 false (decide_eq_false (show ¬ (src < 0) by omega))) (kn_cons (kn_gtr 1 15 false (decide_eq_false (show ¬ (src > 15) by omega))) (kn_nil (m5 dst src imm size cond))))))
end Go.Proofs.YtmmpkkpmlaiapaaGreatDoor
namespace Go.Proofs.YtmmpkkpmlaiapaaGreatDoor
open Go.RowKit
set_option linter.unusedVariables false
set_option maxHeartbeats 8000000
set_option maxRecDepth 100000 in
theorem first_r (op dst src imm size s cond e : Int) (to_ : ByteArray) (w : World) (hi : In64 imm) (h : op < 1 ∨ (1 ≤ op ∧ 41 < op) ∨ (1 ≤ op ∧ op ≤ 41 ∧ dst < 0) ∨ (1 ≤ op ∧ op ≤ 41 ∧ 0 ≤ dst ∧ 15 < dst) ∨ (1 ≤ op ∧ op ≤ 41 ∧ 0 ≤ dst ∧ dst ≤ 15 ∧ src < 0) ∨ (1 ≤ op ∧ op ≤ 41 ∧ 0 ≤ dst ∧ dst ≤ 15 ∧ 0 ≤ src ∧ 15 < src) ∨
      (1 ≤ op ∧ op ≤ 41 ∧ 0 ≤ dst ∧ dst ≤ 15 ∧ 0 ≤ src ∧ src ≤ 15 ∧ (op != 2) = true ∧ imm < -2147483648) ∨ (1 ≤ op ∧ op ≤ 41 ∧ 0 ≤ dst ∧ dst ≤ 15 ∧ 0 ≤ src ∧ src ≤ 15 ∧ (op != 2) = true ∧ 2147483647 < imm)) :
    Calls Tryz.prog 9 #[.agg #[.int .i64 op, .int .i64 dst, .int .i64 src, .int .i64 imm, .int .i64 size, .bool (decide (s = 1)), .int .i64 cond, .string to_]] w fun en w' => RightIs (RP op dst src imm size s cond e) en ∧ Below w.heap.size w w' := by
  have hn0 : ¬ RP op dst src imm size s cond e := no_arith (by simp only [bne_iff_ne, ne_eq] at h; omega)
  have hn := Lib.hid hn0
  clear hn0
  generalize RP op dst src imm size s cond e = R at *
  obtain ⟨hi1, hi2⟩ := hi
  rcases h with h | ⟨h1, h⟩ | ⟨h1, h2, h⟩ | ⟨h1, h2, h3, h⟩ | ⟨h1, h2, h3, h4, h⟩ | ⟨h1, h2, h3, h4, h5, h⟩ | ⟨h1, h2, h3, h4, h5, h6, h7, h⟩ | ⟨h1, h2, h3, h4, h5, h6, h7, h⟩
  all_goals
    go_enter Tryz.func9, Tryz.ntmps9
    go_wp2
    all_goals go_returns
    all_goals refine ⟨ret_rp_false hn.out, ?_⟩
    all_goals go_grown
end Go.Proofs.YtmmpkkpmlaiapaaGreatDoor
