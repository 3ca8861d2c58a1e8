/- Which instructions may be: a number that is too wide is refused; run by the machine. No condition. -/
import Derived.Test.YtmmpkkpmlaiapaaGreatDoorQf
namespace Go.Proofs.YtmmpkkpmlaiapaaGreatDoor
open Go.RowKit
set_option linter.unusedVariables false
def m6 (d s i z c op : Int) : Int → Int := fun k => if k = 0 then d else if k = 1 then s else if k = 2 then i else if k = 3 then z else if k = 4 then c else op
def argP (sg : Bool) (to_ : ByteArray) : Value := .agg #[mark .i64 5, mark .i64 0, mark .i64 1, mark .i64 2, mark .i64 3, .bool sg, mark .i64 4, .string to_]
theorem argP_vr (op : Int) (sg : Bool) (to_ : ByteArray) (d s i z c : Int) (β : Place) : VR (den (m6 d s i z c op)) β (argP sg to_) (.agg #[.int .i64 op, .int .i64 d, .int .i64 s, .int .i64 i, .int .i64 z, .bool sg, .int .i64 c, .string to_]) := by
  refine .agg [mark .i64 5, mark .i64 0, mark .i64 1, mark .i64 2, mark .i64 3, .bool sg, mark .i64 4, .string to_] [.int .i64 op, .int .i64 d, .int .i64 s, .int .i64 i, .int .i64 z, .bool sg, .int .i64 c, .string to_] rfl ?_
  intro j x y hx hy
  match j, hx, hy with
  | 0, hx, hy => cases hx; cases hy; exact mark_vr (m6 d s i z c op) β .i64 5
  | 1, hx, hy => cases hx; cases hy; exact mark_vr (m6 d s i z c op) β .i64 0
  | 2, hx, hy => cases hx; cases hy; exact mark_vr (m6 d s i z c op) β .i64 1
  | 3, hx, hy => cases hx; cases hy; exact mark_vr (m6 d s i z c op) β .i64 2
  | 4, hx, hy => cases hx; cases hy; exact mark_vr (m6 d s i z c op) β .i64 3
  | 5, hx, hy => cases hx; cases hy; exact .bool sg
  | 6, hx, hy => cases hx; cases hy; exact mark_vr (m6 d s i z c op) β .i64 4
  | 7, hx, hy => cases hx; cases hy; exact .string to_
theorem rp_of {d s i z c op : Int} (H : Know) (hH : KnowOk (m6 d s i z c op) H) (sg : Bool) (to_ : ByteArray) (b : Bool) (h : (vcall (Sy.ints Tryz.prog (m6 d s i z c op) H hH tabR) 100000 60 0 49 [argP sg to_] (globW 0 [])).map (·.1) = some (.bool b)) (w : World) :
    Calls Tryz.prog 49 #[.agg #[.int .i64 op, .int .i64 d, .int .i64 s, .int .i64 i, .int .i64 z, .bool sg, .int .i64 c, .string to_]] w fun e w' => e = .returned (.bool b) ∧ Below w.heap.size w w' :=
  vrunS _ (fun _ => rfl) mixedR 100000 60 49 _ [.agg #[.int .i64 op, .int .i64 d, .int .i64 s, .int .i64 i, .int .i64 z, .bool sg, .int .i64 c, .string to_]] (.bool b) (fun β => LR.cons (argP_vr op sg to_ d s i z c β) LR.nil) rfl h w
def wide (x : Value) : Value := cv .i64 (cv .i32 x)
theorem kn_wide {ρ : Int → Int} (m : Int) (h : ρ m < -2147483648 ∨ 2147483647 < ρ m) : den ρ (symNode .neq .i64 (mark .i64 m) (wide (mark .i64 m))) = some (.bool true) := by
  refine den_cmp rfl (den_mark _ _ _) (den_cv (den_cv (den_mark _ _ _))) ?_
  have : ¬ ρ m = IntKind.i64.wrap (IntKind.i32.wrap (ρ m)) := by
    simp only [IntKind.wrap, IntKind.signed, IntKind.bits]
    simp
    omega
  simp [evB2, isShift, evB, this]
theorem wide_x (op dst src imm size cond : Int) (sg : Bool) (to_ : ByteArray) (w : World) (h1 : 1 ≤ op) (h2 : op ≤ 41) (h3 : 0 ≤ dst) (h4 : dst ≤ 15) (h5 : 0 ≤ src) (h6 : src ≤ 15) (h7 : op ≠ 2) (h : imm < -2147483648 ∨ 2147483647 < imm) :
    Calls Tryz.prog 49 #[.agg #[.int .i64 op, .int .i64 dst, .int .i64 src, .int .i64 imm, .int .i64 size, .bool sg, .int .i64 cond, .string to_]] w fun e w' => e = .returned (.bool false) ∧ Below w.heap.size w w' := by
  have base := (kn_cons (kn_wide 2 h) (kn_cons (kn_lss 5 1 false (decide_eq_false (show ¬ (op < 1) by omega))) (kn_cons (kn_gtr 5 41 false (decide_eq_false (show ¬ (op > 41) by omega))) (kn_cons (kn_neq 5 2 true (decide_eq_true h7)) (kn_cons (kn_lss 0 0 false (decide_eq_false (show ¬ (dst < 0) by omega))) (kn_cons (kn_gtr 0 15 false (decide_eq_false (show ¬ (dst > 15) by omega))) (kn_cons (kn_lss 1 0 false (decide_eq_false (show ¬ (src < 0) by omega))) (kn_cons (kn_gtr 1 15 false (decide_eq_false (show ¬ (src > 15) by omega))) (kn_nil (m6 dst src imm size cond op))))))))))
  exact rp_of _ base sg to_ false (by cases sg <;> kernel_rfl) w
end Go.Proofs.YtmmpkkpmlaiapaaGreatDoor
