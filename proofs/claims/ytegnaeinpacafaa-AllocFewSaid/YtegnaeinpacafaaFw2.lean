/- Rows of instructions that the call itself has built, read as what came in. No condition. -/
import Derived.Test.YtegnaeinpacafaaFw1
import Derived.Test.YtegnaeinpacafaaOc
namespace Go.Proofs.Ytegnaeinpacafaa
open Go.RowKit
set_option linter.unusedVariables false
def insFew (x : InsD) : List Value := [.int .i64 x.op, .int .i64 x.dst, .int .i64 x.a.reg, .int .i64 x.a.num, .int .i64 x.b.reg, .int .i64 x.b.num, .int .i64 x.size, .bool x.signed, .bool x.secret, .int .i64 x.ref, .int .i64 x.off, .slice none 0 0]
def flatI : List InsD → List Value
  | [] => []
  | x :: xs => insFew x ++ flatI xs
theorem flatI_snoc (x : InsD) : ∀ l, flatI (l ++ [x]) = flatI l ++ insFew x
  | [] => by simp [flatI]
  | y :: ys => by simp [flatI, flatI_snoc x ys]
theorem flatI_at : ∀ (l : List InsD) (i : Nat) (x : InsD) (j : Nat), l[i]? = some x → j < 12 → (flatI l)[i * 12 + j]? = (insFew x)[j]?
  | [], i, x, j, h, hj => by simp at h
  | y :: ys, 0, x, j, h, hj => by
    obtain rfl : y = x := by simpa using h
    unfold flatI
    rw [List.getElem?_append_left (by show 0 * 12 + j < 12; omega), Nat.zero_mul, Nat.zero_add]
  | y :: ys, i + 1, x, j, h, hj => by
    unfold flatI
    rw [List.getElem?_append_right (by show 12 ≤ (i + 1) * 12 + j; omega), show (i + 1) * 12 + j - (insFew y).length = i * 12 + j by show (i + 1) * 12 + j - 12 = _; omega]
    exact flatI_at ys i x j (by simpa using h) hj
theorem sl_none (w : World) : SlR w 2 ArgR (.slice none 0 0) [] := ⟨none, 0, rfl, by simp, by unfold maxLen; omega, fun i x h => by simp at h⟩
/-- a row that the call owns reads as a slice that came in -/
theorem own_SlR {α : Type} {w : World} {B C n : Nat} {T : TypeId} {v : Value} {xs : List Value} {R : List Value → α → Prop} {l : List α} (h : w.ownsRow B T C v n xs) (hn : l.length = n) (h0 : 0 < n) (hx : ∀ i x, l[i]? = some x → ∃ cs : List Value, cs.length = C ∧ (∀ j, j < C → xs[i * C + j]? = cs[j]?) ∧ R cs x) : SlR w C R v l := by
  obtain ⟨g, cap, rfl, h1, h2, h3, h4⟩ := own_form h h0
  refine ⟨_, cap, by rw [hn], by omega, h2, fun i x hi => ?_⟩
  obtain ⟨cs, k1, k2, k3⟩ := hx i x hi
  have hil : i < n := by rw [← hn]; exact (List.getElem?_eq_some_iff.1 hi).1
  refine ⟨g, 0, cs, rfl, k1, fun j hj => ?_, k3⟩
  have hlt : i * C + j < n * C := by
    have : (i + 1) * C ≤ n * C := Nat.mul_le_mul_right C (by omega)
    rw [Nat.add_mul, Nat.one_mul] at this
    omega
  rw [Nat.zero_add, World.ownsRow.cellAt h (i * C + j) hlt, k2 j hj]
theorem in64_lit {x : Int} (h : -1000 ≤ x ∧ x ≤ 1000) : In64 x := ⟨by omega, by omega⟩
theorem few_ins (w : World) {n : Nat} (hn : n ≤ 60) (x : InsD) (hx : x ∈ fewL n) : InsR w (insFew x) x := by
  rcases fewL_mem n x hx with rfl | ⟨i, hi, rfl⟩
  · exact ⟨_, rfl, in64_lit (by decide), in64_lit (by decide), in64_lit (by decide), in64_lit (by decide), in64_lit (by decide), in64_lit (by decide), in64_lit (by decide), in64_lit (by decide), in64_lit (by decide), sl_none w, by simp [fewI0]⟩
  · refine ⟨_, rfl, in64_lit ?_, in64_lit ?_, in64_lit ?_, in64_lit ?_, in64_lit ?_, in64_lit ?_, in64_lit ?_, in64_lit ?_, in64_lit ?_, sl_none w, by simp [fewI]⟩ <;> (simp only [fewI]; constructor <;> omega)
theorem few_row {w : World} {B n : Nat} {v : Value} (hn : n ≤ 60) (h : w.ownsRow B 28 12 v (n + 1) (flatI (fewL n))) : SlR w 12 (InsR w) v (fewL n) :=
  own_SlR h (fewL_len n) (by omega) fun i x hi => ⟨insFew x, rfl, fun j hj => flatI_at (fewL n) i x j hi hj, few_ins w hn x (List.mem_of_getElem? hi)⟩
/-- the block's own row: one element -/
theorem few_block {nm : ByteArray} {w : World} {B n gb cap : Nat} {v : Value} {T : TypeId} (hn : n ≤ 60) (h : w.ownsRow B 28 12 v (n + 1) (flatI (fewL n))) (hcap : cap = 1)
    (hb : w.heap[gb]? = some (.cells #[v, .int .i64 3, .int .i64 0, .int .i64 (n : Nat), .int .i64 0, .int .i64 0, .int .i64 0, .int .i64 0, .int .i64 0] T (0, 0))) :
    SlR w 9 (BlockR w) (.slice (some ⟨gb, 0, none⟩) 1 cap) (fewF nm n).blocks := by
  subst hcap
  refine ⟨_, 1, rfl, Nat.le_refl _, by unfold maxLen; omega, fun i x hi => ?_⟩
  have h0 : i = 0 := by
    have : i < 1 := (List.getElem?_eq_some_iff.1 hi).1
    omega
  subst h0
  obtain rfl : x = ⟨fewL n, fewT n⟩ := by
    have : some (⟨fewL n, fewT n⟩ : BlockD) = some x := hi
    exact (Option.some.inj this).symm
  refine ⟨gb, 0, [v, .int .i64 3, .int .i64 0, .int .i64 (n : Nat), .int .i64 0, .int .i64 0, .int .i64 0, .int .i64 0, .int .i64 0], rfl, rfl, fun j hj => ?_, v, rfl, few_row hn h, by show (fewL n).length ≤ _; rw [fewL_len]; omega, ?_, ?_, ?_, ?_, ?_, ?_, ?_, ?_⟩
  · rw [Nat.zero_mul, Nat.zero_add]
    match j, hj with
    | 0, _ => exact blk_cell hb rfl
    | 1, _ => exact blk_cell hb rfl
    | 2, _ => exact blk_cell hb rfl
    | 3, _ => exact blk_cell hb rfl
    | 4, _ => exact blk_cell hb rfl
    | 5, _ => exact blk_cell hb rfl
    | 6, _ => exact blk_cell hb rfl
    | 7, _ => exact blk_cell hb rfl
    | 8, _ => exact blk_cell hb rfl
  all_goals (refine in64_lit ?_; simp only [fewT]; constructor <;> omega)
end Go.Proofs.Ytegnaeinpacafaa
