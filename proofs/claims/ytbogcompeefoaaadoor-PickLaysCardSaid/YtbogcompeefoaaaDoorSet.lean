/- Walks: sets of numbers, as words of 64 bits. No condition. -/
import Derived.Test.YtbogcompeefoaaaDoorLib
import Derived.Test.YtbogcompeefoaaaDoorQa
import Derived.Test.YtbogcompeefoaaaDoorChecked
import Derived.Laws.OwnMore
import Derived.OwnWalk
import Derived.IntWalk
namespace Go.Proofs.YtbogcompeefoaaaDoor
open Go.RowKit
set_option linter.unusedVariables false
set_option maxHeartbeats 1000000
def wv (l : List Nat) : List Value := l.map fun x => .int .u64 ((x : Nat) : Int)
/-- a slice's value is a set of these words, in a block of the call's own (from base on) -/
def SetR (w : World) (base : Nat) (v : Value) (l : List Nat) : Prop := w.ownsRow base 127 1 v l.length (wv l) ∧ ∀ x ∈ l, x < 2 ^ 64
theorem wv_at (l : List Nat) {j : Nat} (hj : j < l.length) : (wv l)[j]? = some (.int .u64 ((l.getD j 0 : Nat) : Int)) := by
  simp [wv, List.getD_eq_getElem?_getD, hj]
theorem wv_set (l : List Nat) (j x : Nat) : (wv l).set j (.int .u64 ((x : Nat) : Int)) = wv (l.set j x) := by simp [wv, List.map_set]
theorem SetR.lt64 {w : World} {base : Nat} {v : Value} {l : List Nat} (h : SetR w base v l) (j : Nat) : l.getD j 0 < 2 ^ 64 := by
  rw [List.getD_eq_getElem?_getD]
  cases e : l[j]? with
  | none => simp
  | some x => simpa using h.2 x (List.mem_of_getElem? e)
theorem SetR.form {w : World} {base : Nat} {v : Value} {l : List Nat} (h : SetR w base v l) {j : Nat} (hj : j < l.length) :
    ∃ g cap, v = .slice (some ⟨g, 0, none⟩) l.length cap ∧ l.length ≤ cap ∧ cap ≤ maxLen ∧ base ≤ g ∧ g < w.heap.size := by
  rcases h.1.2 with ⟨rfl, e⟩ | ⟨g, cap, cur, rfl, h1, h2, h3, h4, _⟩
  · omega
  · exact ⟨g, cap, rfl, h3, h4, h1, blk_lt h2⟩
theorem SetR.nil_ {w : World} {base : Nat} {v : Value} (h : SetR w base v []) : ∃ A cap, v = .slice A 0 cap := by
  rcases h.1.2 with ⟨rfl, e⟩ | ⟨g, cap, cur, rfl, h1, h2, h3, h4, _⟩
  · exact ⟨_, _, rfl⟩
  · exact ⟨_, _, rfl⟩
theorem SetR.slice_ {w : World} {base : Nat} {v : Value} {l : List Nat} (h : SetR w base v l) : ∃ A cap, v = .slice A l.length cap ∧ l.length ≤ maxLen := by
  rcases h.1.2 with ⟨rfl, e⟩ | ⟨g, cap, cur, rfl, h1, h2, h3, h4, _⟩
  · exact ⟨_, _, by rw [e], by rw [e]; decide⟩
  · exact ⟨_, _, rfl, by omega⟩
/-! ### Has -/
theorem shr_and (x r : Nat) (hx : x < 2 ^ 64) : bits .and .u64 ((x : Int) / 2 ^ r) 1 = if x.testBit r then 1 else 0 := by
  have e : ((x : Int) / 2 ^ r) = ((x / 2 ^ r : Nat) : Int) := by rw [Int.natCast_ediv, Int.natCast_pow]; rfl
  rw [e]
  have h2 : (BitVec.ofInt 64 ((x / 2 ^ r : Nat) : Int) &&& BitVec.ofInt 64 1).toNat = (x / 2 ^ r) % 2 := by
    rw [BitVec.ofInt_natCast, BitVec.toNat_and]
    have : (BitVec.ofInt 64 1).toNat = 1 := rfl
    rw [this, Nat.and_one_is_mod, BitVec.toNat_ofNat]
    have := Nat.div_le_self x (2 ^ r)
    omega
  change IntKind.u64.wrap ((BitVec.ofInt 64 ((x / 2 ^ r : Nat) : Int) &&& BitVec.ofInt 64 1).toNat : Nat) = _
  rw [h2, Nat.testBit_eq_decide_div_mod_eq]
  rcases Nat.mod_two_eq_zero_or_one (x / 2 ^ r) with h | h <;> rw [h] <;> decide
theorem has_neg (w : World) (v : Value) (i : Int) (hi : i < 0) : Calls Tryd.prog 38 #[v, .int .i64 i] w fun e w' => e = .returned (.bool false) ∧ w = w' := by
  go_enter Tryd.func38, Tryd.ntmps38
  go_wp2
  go_returns
  exact ⟨rfl, rfl⟩
theorem has_out (w : World) (A : Option Addr) (n cap k : Nat) (hk : n ≤ k / 64) (hk2 : k ≤ 9223372036854775807) : Calls Tryd.prog 38 #[.slice A n cap, .int .i64 (k : Nat)] w fun e w' => e = .returned (.bool false) ∧ w = w' := by
  go_enter Tryd.func38, Tryd.ntmps38
  go_wp2
  all_goals go_returns
  all_goals exact ⟨rfl, rfl⟩
theorem has_in (w : World) (g n cap k x : Nat) (hk : k / 64 < n) (hn : n ≤ cap) (hk2 : k ≤ 9223372036854775807) (hx : x < 2 ^ 64) (hc : w.cell? ⟨g, k / 64, none⟩ = some (.int .u64 ((x : Nat) : Int))) :
    Calls Tryd.prog 38 #[.slice (some ⟨g, 0, none⟩) n cap, .int .i64 (k : Nat)] w fun e w' => e = .returned (.bool (x.testBit (k % 64))) ∧ w = w' := by
  have HX := Lib.hid (shr_and x (k % 64) hx)
  clear hx
  go_enter Tryd.func38, Tryd.ntmps38
  go_wp2
  go_returns
  refine ⟨ret_bool ?_, rfl⟩
  show (bits BinOp.and IntKind.u64 (↑x / 2 ^ (k % 64)) 1 == 1) = _
  rw [HX.out]
  cases x.testBit (k % 64) <;> rfl
theorem has_any (w : World) (base : Nat) (v : Value) (l : List Nat) (i : Int) (h : SetR w base v l) (hi : i ≤ 9223372036854775807) :
    Calls Tryd.prog 38 #[v, .int .i64 i] w fun e w' => e = .returned (.bool (hasL l i)) ∧ w = w' := by
  by_cases h0 : i < 0
  · rw [show hasL l i = false by unfold hasL; rw [decide_eq_false (by omega)]; rfl]
    exact has_neg w v i h0
  · obtain ⟨k, rfl⟩ : ∃ k : Nat, i = k := ⟨i.toNat, by omega⟩
    have e : hasL l (k : Int) = bitL l k := by unfold hasL; rw [decide_eq_true (by omega)]; rfl
    rw [e]
    by_cases hk : k / 64 < l.length
    · obtain ⟨g, cap, rfl, h1, h2, h3, h4⟩ := h.form hk
      exact has_in w g _ cap k _ hk h1 (by omega) (h.lt64 _) ((h.1.cellAt _ (by simpa using hk)).trans (wv_at l hk))
    · rw [bitL_out l k (by omega)]
      obtain ⟨A, cap, rfl, _⟩ := h.slice_
      exact has_out w A _ cap k (by omega) (by omega)
/-! ### Put, Out -/
theorem bits_u64 (x y : Nat) (hx : x < 2 ^ 64) (hy : y < 2 ^ 64) : bits .or .u64 (x : Int) (y : Int) = ((x ||| y : Nat) : Int) := by
  change IntKind.u64.wrap ((BitVec.ofInt 64 (x : Int) ||| BitVec.ofInt 64 (y : Int)).toNat : Nat) = _
  rw [BitVec.ofInt_natCast, BitVec.ofInt_natCast, BitVec.toNat_or, BitVec.toNat_ofNat, BitVec.toNat_ofNat, Nat.mod_eq_of_lt hx, Nat.mod_eq_of_lt hy]
  have := Nat.or_lt_two_pow hx hy
  exact IntWalk.u64_in _ (by omega)
theorem pow_in (r : Nat) (hr : r < 64) : IntKind.u64.wrap ((2 : Int) ^ r) = ((2 ^ r : Nat) : Int) := by
  have e : ((2 : Int) ^ r) = ((2 ^ r : Nat) : Int) := by rw [Int.natCast_pow]; rfl
  have := Nat.pow_lt_pow_right (a := 2) (by decide) hr
  rw [e]
  generalize 2 ^ r = p at *
  exact IntWalk.u64_in _ (by omega)
theorem or_bit (x r : Nat) (hx : x < 2 ^ 64) (hr : r < 64) : bits .or .u64 (x : Int) (IntKind.u64.wrap (2 ^ r)) = ((x ||| 2 ^ r : Nat) : Int) := by
  rw [pow_in r hr]; exact bits_u64 x _ hx (Nat.pow_lt_pow_right (by decide) hr)
theorem not_bit (x r : Nat) (hx : x < 2 ^ 64) (hr : r < 64) : bits .andNot .u64 (x : Int) (IntKind.u64.wrap (2 ^ r)) = ((x &&& (maskL ^^^ 2 ^ r) : Nat) : Int) := by
  rw [pow_in r hr]
  change IntKind.u64.wrap ((BitVec.ofInt 64 (x : Int) &&& ~~~BitVec.ofInt 64 ((2 ^ r : Nat) : Int)).toNat : Nat) = _
  have hp : 2 ^ r < 2 ^ 64 := Nat.pow_lt_pow_right (by decide) hr
  have e : (~~~BitVec.ofInt 64 ((2 ^ r : Nat) : Int)).toNat = maskL ^^^ 2 ^ r := by
    rw [BitVec.ofInt_natCast, BitVec.not_def, BitVec.toNat_xor, BitVec.toNat_allOnes, BitVec.toNat_ofNat, Nat.mod_eq_of_lt hp]
    rfl
  rw [BitVec.toNat_and, e, BitVec.ofInt_natCast, BitVec.toNat_ofNat, Nat.mod_eq_of_lt hx]
  have : x &&& (maskL ^^^ 2 ^ r) ≤ x := Nat.and_le_left
  exact IntWalk.u64_in _ (by omega)
theorem SetR.put {w : World} {base g n cap j x : Nat} {l : List Nat} (h : SetR w base (.slice (some ⟨g, 0, none⟩) n cap) l) (hn : n = l.length) (hx : x < 2 ^ 64) :
    SetR (w.setCell ⟨g, j, none⟩ (.int .u64 ((x : Nat) : Int))) base (.slice (some ⟨g, 0, none⟩) n cap) (l.set j x) ∧ w.grownBy (w.setCell ⟨g, j, none⟩ (.int .u64 ((x : Nat) : Int))) (some g) := by
  subst hn
  obtain ⟨h1, h2⟩ := h.1.stored j (.int .u64 ((x : Nat) : Int))
  rw [wv_set] at h1
  refine ⟨⟨by simpa using h1, fun y hy => ?_⟩, h2⟩
  rcases List.mem_or_eq_of_mem_set hy with h3 | h3
  · exact h.2 y h3
  · rw [h3]; exact hx
/-- what may have become of a set -/
def SetTo (w : World) (base : Nat) (v : Value) (l : List Nat) (e : Ending) (w' : World) : Prop :=
  e = .returned (.tuple #[]) ∧ SetR w' base v l ∧ w.grownBy w' v.ownBlock
theorem grownBy_refl (w : World) (r : Option Nat) : w.grownBy w r := ⟨rfl, rfl, rfl, Nat.le_refl _, fun _ _ _ => rfl⟩
theorem grownBy_drew {w w' : World} {r : Option Nat} (h : w.grownBy w' r) : w.grownBy w'.drew r := ⟨h.os, h.tape, h.output, h.size, h.block⟩
theorem put_in (w : World) (base g n cap k : Nat) (l : List Nat) (hk : k / 64 < n) (hn : n ≤ cap) (hk2 : k ≤ 9223372036854775807) (hl : n = l.length) (h : SetR w base (.slice (some ⟨g, 0, none⟩) n cap) l) :
    Calls Tryd.prog 56 #[.slice (some ⟨g, 0, none⟩) n cap, .int .i64 (k : Nat)] w (SetTo w base (.slice (some ⟨g, 0, none⟩) n cap) (putL l k)) := by
  subst hl
  have hx := h.lt64 (k / 64)
  have hc := (h.1.cellAt (cap := cap) (k / 64) (by omega)).trans (wv_at l (by omega))
  have hf := h.1.frozenAt (k / 64)
  have HX := Lib.hid (or_bit _ (k % 64) hx (by omega))
  have HP := Lib.hid (SetR.put (j := k / 64) h rfl (or_lt64 hx (show k % 64 < 64 by omega)))
  have HL := Lib.hid (show putL l k = l.set (k / 64) (l.getD (k / 64) 0 ||| 2 ^ (k % 64)) by unfold putL; rw [if_pos (by omega)]; simp)
  clear h hx
  generalize hxe : l.getD (k / 64) 0 = x at *
  clear hxe
  go_enter Tryd.func56, Tryd.ntmps56
  go_wp2
  go_region
  go_wp2
  go_returns
  rw [HX.out, HL.out]
  exact ⟨rfl, HP.out.1, grownBy_drew HP.out.2⟩
theorem put_neg (w : World) (v : Value) (i : Int) (hi : i < 0) : Calls Tryd.prog 56 #[v, .int .i64 i] w fun e w' => e = .returned (.tuple #[]) ∧ w = w' := by
  go_enter Tryd.func56, Tryd.ntmps56
  go_wp2
  go_returns
  exact ⟨rfl, rfl⟩
theorem put_out (w : World) (A : Option Addr) (n cap k : Nat) (hk : n ≤ k / 64) (hk2 : k ≤ 9223372036854775807) : Calls Tryd.prog 56 #[.slice A n cap, .int .i64 (k : Nat)] w fun e w' => e = .returned (.tuple #[]) ∧ w = w' := by
  go_enter Tryd.func56, Tryd.ntmps56
  go_wp2
  all_goals go_returns
  all_goals exact ⟨rfl, rfl⟩
theorem put_any (w : World) (base : Nat) (v : Value) (l : List Nat) (i : Int) (h : SetR w base v l) (hi : i ≤ 9223372036854775807) :
    Calls Tryd.prog 56 #[v, .int .i64 i] w (SetTo w base v (putL l i)) := by
  by_cases h0 : i < 0
  · refine (put_neg w v i h0).mono ?_
    rintro e w' ⟨rfl, rfl⟩
    exact ⟨rfl, by unfold putL; rw [if_neg (by omega)]; exact h, grownBy_refl _ _⟩
  · obtain ⟨k, rfl⟩ : ∃ k : Nat, i = k := ⟨i.toNat, by omega⟩
    by_cases hk : k / 64 < l.length
    · obtain ⟨g, cap, rfl, h1, h2, h3, h4⟩ := h.form hk
      exact put_in w base g _ cap k l hk h1 (by omega) rfl h
    · obtain ⟨A, cap, rfl, _⟩ := h.slice_
      refine (put_out w A _ cap k (by omega) (by omega)).mono ?_
      rintro e w' ⟨rfl, rfl⟩
      exact ⟨rfl, by unfold putL; rw [if_neg (by omega)]; exact h, grownBy_refl _ _⟩
theorem out_in (w : World) (base g n cap k : Nat) (l : List Nat) (hk : k / 64 < n) (hn : n ≤ cap) (hk2 : k ≤ 9223372036854775807) (hl : n = l.length) (h : SetR w base (.slice (some ⟨g, 0, none⟩) n cap) l) :
    Calls Tryd.prog 59 #[.slice (some ⟨g, 0, none⟩) n cap, .int .i64 (k : Nat)] w (SetTo w base (.slice (some ⟨g, 0, none⟩) n cap) (outL l k)) := by
  subst hl
  have hx := h.lt64 (k / 64)
  have hc := (h.1.cellAt (cap := cap) (k / 64) (by omega)).trans (wv_at l (by omega))
  have hf := h.1.frozenAt (k / 64)
  have HX := Lib.hid (not_bit _ (k % 64) hx (by omega))
  have HP := Lib.hid (SetR.put (j := k / 64) (x := l.getD (k / 64) 0 &&& (maskL ^^^ 2 ^ (k % 64))) h rfl (Nat.lt_of_le_of_lt Nat.and_le_left hx))
  have HL := Lib.hid (show outL l k = l.set (k / 64) (l.getD (k / 64) 0 &&& (maskL ^^^ 2 ^ (k % 64))) by unfold outL; rw [if_pos (by omega)]; simp)
  clear h hx
  generalize hxe : l.getD (k / 64) 0 = x at *
  clear hxe
  go_enter Tryd.func59, Tryd.ntmps59
  go_wp2
  go_region
  go_wp2
  go_returns
  rw [HX.out, HL.out]
  exact ⟨rfl, HP.out.1, grownBy_drew HP.out.2⟩
theorem out_neg (w : World) (v : Value) (i : Int) (hi : i < 0) : Calls Tryd.prog 59 #[v, .int .i64 i] w fun e w' => e = .returned (.tuple #[]) ∧ w = w' := by
  go_enter Tryd.func59, Tryd.ntmps59
  go_wp2
  go_returns
  exact ⟨rfl, rfl⟩
theorem out_out (w : World) (A : Option Addr) (n cap k : Nat) (hk : n ≤ k / 64) (hk2 : k ≤ 9223372036854775807) : Calls Tryd.prog 59 #[.slice A n cap, .int .i64 (k : Nat)] w fun e w' => e = .returned (.tuple #[]) ∧ w = w' := by
  go_enter Tryd.func59, Tryd.ntmps59
  go_wp2
  all_goals go_returns
  all_goals exact ⟨rfl, rfl⟩
theorem out_any (w : World) (base : Nat) (v : Value) (l : List Nat) (i : Int) (h : SetR w base v l) (hi : i ≤ 9223372036854775807) :
    Calls Tryd.prog 59 #[v, .int .i64 i] w (SetTo w base v (outL l i)) := by
  by_cases h0 : i < 0
  · refine (out_neg w v i h0).mono ?_
    rintro e w' ⟨rfl, rfl⟩
    exact ⟨rfl, by unfold outL; rw [if_neg (by omega)]; exact h, grownBy_refl _ _⟩
  · obtain ⟨k, rfl⟩ : ∃ k : Nat, i = k := ⟨i.toNat, by omega⟩
    by_cases hk : k / 64 < l.length
    · obtain ⟨g, cap, rfl, h1, h2, h3, h4⟩ := h.form hk
      exact out_in w base g _ cap k l hk h1 (by omega) rfl h
    · obtain ⟨A, cap, rfl, _⟩ := h.slice_
      refine (out_out w A _ cap k (by omega) (by omega)).mono ?_
      rintro e w' ⟨rfl, rfl⟩
      exact ⟨rfl, by unfold outL; rw [if_neg (by omega)]; exact h, grownBy_refl _ _⟩
/-! ### Empty, Copy -/
theorem Tryd.infoU64 : (Tryd.prog.info? 127).map (fun i => (i.zero, i.size, i.bytes)) = some (some (.int .u64 0), 1, 8) := by kernel_rfl
/-- a new set -/
def SetNew (w : World) (l : List Nat) (e : Ending) (w' : World) : Prop := ∃ v, e = .returned v ∧ SetR w' w.heap.size v l ∧ Below w.heap.size w w'
theorem wv_zero (n : Nat) : (madeCells #[Value.int IntKind.u64 0] (n * 1)).toList = wv (List.replicate n 0) := by
  rw [Nat.mul_one, toList_madeCells_one]; simp [wv]
theorem below_grown {w w' : World} (h : w.grownBy w' none) : Below w.heap.size w w' := ⟨h.os, h.tape, h.output, h.size, fun k hk => h.block k hk (by simp)⟩
theorem empty_any (w : World) (n : Nat) (hn : n ≤ 1000000) : Calls Tryd.prog 51 #[.int .i64 (n : Nat)] w (SetNew w (List.replicate ((n + 63) / 64) 0)) := by
  obtain ⟨i0, hi, hz0, hz1, hz2⟩ := info_parts Tryd.infoU64
  have hmax : (Builtin.max_ #[3, 3] 3 #[.int .i64 (n : Nat), .int .i64 0]).run Tryd.prog w = .ok (.int .i64 (n : Nat)) w := by
    by_cases h : (0 : Int) < n
    · have h3 : ¬ (n : Int) < 0 := by omega
      simp only [Builtin.max_, List.foldlM_cons, List.foldlM_nil, Builtin.max2, if_neg h3, if_pos h]
      rfl
    · have : n = 0 := by omega
      subst this
      rfl
  obtain ⟨w2, hr, hown, hg⟩ := run_make_full (P := Tryd.prog) w w.heap.size 103 127 i0 (.int .u64 0) 1 Tryd.underlying103 hi hz0 hz1 .i64 .i64 ((n + 63) / 64) (by rw [hz2]; omega) (by unfold maxLen; omega) (Nat.le_refl _)
  have e1 : ((((n + 63) / 64 : Nat) : Int)) = ((n : Int) + 63) / 64 := by omega
  rw [e1] at hr
  rw [show (Value.int .u64 0).cells = #[.int .u64 0] from rfl, wv_zero] at hown
  have HO := Lib.hid (show SetR w2 w.heap.size _ (List.replicate ((n + 63) / 64) 0) from ⟨by simpa using hown, fun x hx => by rw [(List.mem_replicate.1 hx).2]; decide⟩)
  have HB := Lib.hid (below_grown hg)
  clear hown hg e1 hi hz0 hz1 hz2
  go_enter Tryd.func51, Tryd.ntmps51
  go_wp2
  go_returns
  exact ⟨_, rfl, HO.out, HB.out⟩
theorem wpList_append_run {P : Program} (w : World) {ops : Array Oper} {rest : List Oper} {o : Oper} {a : Act} {Q : Exit → Act → World → Prop} (hgd : o.guard = none) (s x : Operand) (t : TypeId)
    (ho : o.op = .call { callee := .builtin .append, args := #[s, x], argTypes := #[t, t] }) (v u v' : Value) (w' : World) (hs : a.eval s = v) (hx : a.eval x = u)
    (hr : (Builtin.append_ #[t, t] o.type #[v, u]).run P w = .ok v' w') (h : wpList P ops Q rest (a.put o.dst v') w') : wpList P ops Q (o :: rest) a w :=
  wpList_plain hgd fun _ hK => by
    unfold Oper.wp execOp
    simp only [ho, resolve, invoke, builtin, Sem.run_bind, Sem.run_pure, Result.andThen_ok, List.map_toArray, List.map_cons, List.map_nil, hs, hx, hr]
    exact hK _ _ h
theorem copy_any (w : World) (base : Nat) (v : Value) (l : List Nat) (h : SetR w base v l) (hl : l.length ≤ 1000000) : Calls Tryd.prog 35 #[v] w (SetNew w l) := by
  obtain ⟨i0, hi, hz0, hz1, hz2⟩ := info_parts Tryd.infoU64
  by_cases h0 : l.length = 0
  · have : l = [] := List.length_eq_zero_iff.1 h0
    subst this
    have key : ∃ v', (Builtin.append_ #[103, 103] 103 #[.slice none 0 0, v]).run Tryd.prog w = .ok v' w ∧ v' = .slice none 0 0 := by
      rcases h.1.2 with ⟨rfl, e⟩ | ⟨g, cap, cur, rfl, h1, h2, h3, h4, h5, h6⟩
      · exact ⟨_, run_append_owned_none (P := Tryd.prog) w 0 103 103 127 i0 1 Tryd.underlying103 hi _ 0 [] (World.ownsRow_nil _ _ _ _), rfl⟩
      · obtain ⟨v', w', hr, g1, g2, g3⟩ := run_append_own (P := Tryd.prog) w 0 103 103 127 i0 _ 1 8 Tryd.underlying103 hi hz0 hz1 hz2 rfl (by decide) _ 0 [] (World.ownsRow_nil _ _ _ _) ⟨g, 0, none⟩ 0 cap [] rfl (by simp) (by simp) (by decide) (by decide) (Nat.zero_le _)
        have := g3.2 ⟨rfl, rfl⟩
        subst this
        refine ⟨_, ?_, rfl⟩
        have hr2 : (Builtin.append_ #[103, 103] 103 #[.slice none 0 0, .slice (some ⟨g, 0, none⟩) 0 cap]).run Tryd.prog w = .ok (.slice none 0 0) w := by
          simp [Builtin.append_, run_underlying Tryd.underlying103, sizeOf, typeInfo, hi, Builtin.lenOf, Builtin.firstCells, loadCells, loadCellsFrom]
        exact hr2
    obtain ⟨v', hr, rfl⟩ := key
    have HO := Lib.hid (show SetR w w.heap.size (.slice none 0 0) [] from ⟨World.ownsRow_nil _ _ _ _, fun x hx => by cases hx⟩)
    clear h hi hz0 hz1 hz2 h0 hl
    go_enter Tryd.func35, Tryd.ntmps35
    go_wp2_with (at_builtin; refine wpList_append_run _ rfl _ _ _ rfl _ _ _ _ rfl rfl hr ?_)
    go_returns
    exact ⟨_, rfl, HO.out, Below.refl _ _⟩
  · obtain ⟨g, cap, rfl, h1, h2, h3, h4⟩ := h.form (j := 0) (by omega)
    obtain ⟨v', w', hr, g1, g2, g3⟩ := run_append_own (P := Tryd.prog) w w.heap.size 103 103 127 i0 _ 1 8 Tryd.underlying103 hi hz0 hz1 hz2 rfl (by decide) _ 0 [] (World.ownsRow_nil _ _ _ _) ⟨g, 0, none⟩ l.length cap (wv l) (by simp [wv])
      (fun j u hu => by
        have hj : j < l.length := by have := (List.getElem?_eq_some_iff.1 hu).1; simpa [wv] using this
        rw [Addr.add_lit]
        simp only [Nat.zero_add]
        rw [h.1.cellAt j (by omega)]; exact hu) (fun u hu => by obtain ⟨x, _, rfl⟩ := List.mem_map.1 hu; rfl) (by unfold maxLen; omega) (by omega) (Nat.le_refl _)
    rw [Nat.zero_add, List.nil_append] at g1
    have HO := Lib.hid (show SetR w' w.heap.size v' l from ⟨g1, h.2⟩)
    have HB := Lib.hid (below_grown (show w.grownBy w' none from g2))
    clear h hi hz0 hz1 hz2 h0 hl g1 g2 g3 h1 h2 h3 h4
    go_enter Tryd.func35, Tryd.ntmps35
    go_wp2_with (at_builtin; refine wpList_append_run _ rfl _ _ _ rfl _ _ _ _ rfl rfl hr ?_)
    go_returns
    exact ⟨_, rfl, HO.out, HB.out⟩
/-! ### Join -/
theorem own_kept {w w' : World} {base : Nat} {v : Value} {l : List Nat} {r : Option Nat} (h : SetR w base v l) (hg : w.grownBy w' r) (hd : v.ownBlock = none ∨ v.ownBlock ≠ r) : SetR w' base v l := ⟨h.1.kept hg hd, h.2⟩
/-- what Join has done, and says -/
def SetJoined (w : World) (base : Nat) (v : Value) (l : List Nat) (more : Bool) (e : Ending) (w' : World) : Prop :=
  e = .returned (.bool more) ∧ SetR w' base v l ∧ w.grownBy w' v.ownBlock
theorem min_n (w : World) (a b : Nat) : (Builtin.min_ #[3, 3] 3 #[.int .i64 (a : Nat), .int .i64 (b : Nat)]).run Tryd.prog w = .ok (.int .i64 ((min a b : Nat) : Int)) w := by
  by_cases h : (b : Int) < a
  · have : min a b = b := by omega
    rw [this]
    simp only [Builtin.min_, List.foldlM_cons, List.foldlM_nil, Builtin.min2, if_pos h]
    rfl
  · have : min a b = a := by omega
    rw [this]
    simp only [Builtin.min_, List.foldlM_cons, List.foldlM_nil, Builtin.min2, if_neg h]
    rfl
theorem SetR.cell {w : World} {base g n cap j : Nat} {l : List Nat} (h : SetR w base (.slice (some ⟨g, 0, none⟩) n cap) l) (hn : n = l.length) (hj : j < n) :
    w.cell? ⟨g, j, none⟩ = some (.int .u64 ((l.getD j 0 : Nat) : Int)) ∧ w.frozen? ⟨g, j, none⟩ = false := by
  subst hn
  exact ⟨(h.1.cellAt j (by omega)).trans (wv_at l hj), h.1.frozenAt j⟩
theorem join_some (w : World) (base base2 g g2 n n2 cap cap2 : Nat) (l o : List Nat) (hn : n = l.length) (hn2 : n2 = o.length) (hc : n ≤ cap) (hc2 : n2 ≤ cap2) (hm : n ≤ maxLen) (hm2 : n2 ≤ maxLen)
    (h : SetR w base (.slice (some ⟨g, 0, none⟩) n cap) l) (ho : SetR w base2 (.slice (some ⟨g2, 0, none⟩) n2 cap2) o) (hd : g ≠ g2) :
    Calls Tryd.prog 62 #[.slice (some ⟨g, 0, none⟩) n cap, .slice (some ⟨g2, 0, none⟩) n2 cap2] w (SetJoined w base (.slice (some ⟨g, 0, none⟩) n cap) (joinK l o (min n n2)) (moreK l o (min n n2))) := by
  have hmin := min_n w n n2
  obtain ⟨k0, hk0⟩ : ∃ k0, k0 = min n n2 := ⟨_, rfl⟩
  rw [← hk0] at hmin
  rw [← hk0]
  have hkn : k0 ≤ n := by omega
  have hkn2 : k0 ≤ n2 := by omega
  unfold maxLen at hm hm2
  have H0 := Lib.hid (show SetR w base (.slice (some ⟨g, 0, none⟩) n cap) (joinK l o 0) by rw [joinK_zero]; exact h)
  have HO := Lib.hid ho
  have HX := Lib.hid h.lt64
  have HY := Lib.hid ho.lt64
  have HL := Lib.hid hn
  have HL2 := Lib.hid hn2
  clear h ho hk0 hn hn2
  go_enter Tryd.func62, Tryd.ntmps62
  go_wp2
  go_loopw [5, 13] (fun m i wr => ∃ j : Nat, j ≤ k0 ∧ i = .int .i64 j ∧ m = .bool (moreK l o j) ∧ SetR wr base (.slice (some ⟨g, 0, none⟩) n cap) (joinK l o j) ∧ w.grownBy wr (some g)) (fun _ i _ => k0 - (intOf i).toNat)
  case atStart => exact ⟨0, by omega, rfl, rfl, H0.out, grownBy_refl _ _⟩
  case round =>
    obtain ⟨j, hj, rfl, rfl, hs, hg⟩ := hrel
    by_cases hlt : j < k0
    · have hln := HL.out
      have hln2 := HL2.out
      have hso := own_kept HO.out hg (Or.inr (by simpa [Value.ownBlock] using Ne.symm hd))
      have hjl : (joinK l o j).getD j 0 = l.getD j 0 := by rw [joinK_at, if_neg (by omega)]
      have hlj : n = (joinK l o j).length := by rw [joinK_length]; exact hln
      obtain ⟨c1, f1⟩ := hs.cell hlj (show j < n by omega)
      rw [hjl] at c1
      obtain ⟨c2, f2⟩ := hso.cell hln2 (show j < n2 by omega)
      have hx := HX.out j
      have hy := HY.out j
      have HB := Lib.hid (bits_u64 _ _ hx hy)
      have HP := Lib.hid (hs.put (j := j) hlj (Nat.or_lt_two_pow hx hy))
      have HN := Lib.hid (joinK_succ l o j (by omega))
      have HE := Lib.hid (joinK_same l o j (by omega))
      have HM := Lib.hid (moreK_succ l o j)
      have HG := Lib.hid hg
      clear hx hy hlj
      have HS := Lib.hid hs
      clear hs hg f2 hln hln2 hso hjl
      generalize l.getD j 0 = x at *
      generalize o.getD j 0 = y at *
      go_wp2
      go_quiet (fail)
      go_wp2
      · have hne : (bits BinOp.or IntKind.u64 ↑x ↑y != ↑x) = true := by assumption
        rw [HB.out] at hne
        have hne' : x ||| y ≠ x := fun e => by rw [e] at hne; simp at hne
        go_roundw
        case rel =>
          rw [HB.out]
          refine ⟨j + 1, by omega, by go_num, ?_, ?_, ?_⟩
          · rw [HM.out]; simp [hne']
          · rw [HN.out]; exact HP.out.1
          · exact ⟨HG.out.os, HG.out.tape, HG.out.output, Nat.le_trans HG.out.size HP.out.2.size, fun k hk hne => (HP.out.2.block k (by have := HG.out.size; omega) hne).trans (HG.out.block k hk hne)⟩
        case measure => simp [intOf]; omega
      · have hne : (bits BinOp.or IntKind.u64 ↑x ↑y != ↑x) = false := by assumption
        rw [HB.out] at hne
        have hne' : x ||| y = x := by
          simp only [bne_eq_false_iff_eq] at hne
          omega
        go_roundw
        case rel =>
          refine ⟨j + 1, by omega, by go_num, ?_, ?_, ?_⟩
          · rw [HM.out]; simp [hne']
          · rw [HE.out hne']; exact HS.out
          · exact ⟨HG.out.os, HG.out.tape, HG.out.output, HG.out.size, HG.out.block⟩
        case measure => simp [intOf]; omega
    · have e : j = k0 := by omega
      subst e
      have HS := Lib.hid hs
      have HG := Lib.hid hg
      clear hs hg
      go_wp2
      go_returns
      exact ⟨rfl, HS.out, HG.out⟩
theorem join_none (w : World) (A B : Option Addr) (n n2 cap cap2 : Nat) (h0 : min n n2 = 0) (hm : n ≤ maxLen) (hm2 : n2 ≤ maxLen) :
    Calls Tryd.prog 62 #[.slice A n cap, .slice B n2 cap2] w fun e w' => e = .returned (.bool false) ∧ w = w' := by
  have hmin := min_n w n n2
  rw [h0] at hmin
  unfold maxLen at hm hm2
  clear h0
  go_enter Tryd.func62, Tryd.ntmps62
  go_wp2
  go_rounds 1
  go_returns
  exact ⟨rfl, rfl⟩
theorem joinK_zero' (l o : List Nat) (k : Nat) (h : k = 0) : joinK l o k = l ∧ moreK l o k = false := by subst h; exact ⟨joinK_zero l o, rfl⟩
theorem join_any (w : World) (base base2 : Nat) (v v2 : Value) (l o : List Nat) (h : SetR w base v l) (ho : SetR w base2 v2 o) (hd : v2.ownBlock = none ∨ v2.ownBlock ≠ v.ownBlock) :
    Calls Tryd.prog 62 #[v, v2] w (SetJoined w base v (joinK l o (min l.length o.length)) (moreK l o (min l.length o.length))) := by
  by_cases h0 : min l.length o.length = 0
  · obtain ⟨A, cap, rfl, hm⟩ := h.slice_
    obtain ⟨B, cap2, rfl, hm2⟩ := ho.slice_
    obtain ⟨e1, e2⟩ := joinK_zero' l o _ h0
    rw [e1, e2]
    refine (join_none w A B _ _ cap cap2 h0 hm hm2).mono ?_
    rintro e w' ⟨rfl, rfl⟩
    exact ⟨rfl, h, grownBy_refl _ _⟩
  · obtain ⟨g, cap, rfl, h1, h2, h3, h4⟩ := h.form (j := 0) (by omega)
    obtain ⟨g2, cap2, rfl, k1, k2, k3, k4⟩ := ho.form (j := 0) (by omega)
    exact join_some w base base2 g g2 _ _ cap cap2 l o rfl rfl h1 k1 (by omega) (by omega) h ho (by rintro rfl; rcases hd with e | e <;> simp [Value.ownBlock] at e)
end Go.Proofs.YtbogcompeefoaaaDoor
