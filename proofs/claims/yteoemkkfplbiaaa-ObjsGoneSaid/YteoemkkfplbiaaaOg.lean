/- ObjsGone: the law run. No condition. -/
import Derived.Test.YteoemkkfplbiaaaObK
import Derived.Test.YteoemkkfplbiaaaVmC
namespace Go.Proofs.Yteoemkkfplbiaaa
open Go.RowKit
set_option linter.unusedVariables false
def knowG : Know := [(eqT 8 true, .bool true)]
theorem knowG_ok {a b n : Int} (hn : In64 n) : KnowOk (three a b n) knowG := by
  intro p hp
  simp only [knowG, List.mem_cons, List.mem_nil_iff, or_false] at hp
  subst hp
  exact ⟨den_eqT 8 true (Or.inr (Or.inr (Or.inr rfl))) hn, rfl⟩
theorem pair_lr (a n : Int) (f : Bool) (β : Place) : LR (den (three a a n)) β [.agg #[mark .i64 0, mark .i64 2], .bool f] [.agg #[.int .i64 a, .int .i64 n], .bool f] := by
  refine LR.cons (.agg [mark .i64 0, mark .i64 2] [.int .i64 a, .int .i64 n] rfl ?_) (LR.cons (.bool f) LR.nil)
  intro i x y hx hy
  match i, hx, hy with
  | 0, hx, hy => cases hx; cases hy; exact mark_vr (three a a n) β .i64 0
  | 1, hx, hy => cases hx; cases hy; exact mark_vr (three a a n) β .i64 2
theorem gone_of (a n : Int) (f : Bool) (w : World) (hn : In64 n) (h : vtop (Sy.ints Try.prog (three a a n) knowG (knowG_ok hn) fitTab) 100000 60 0 5 [.agg #[mark .i64 0, mark .i64 2], .bool f] (globW 0 []) = true) :
    Calls Try.prog 5 #[.agg #[.int .i64 a, .int .i64 n], .bool f] w fun e w' => e = .returned (.bool true) ∧ Below w.heap.size w w' :=
  vrunT _ mixed 100000 60 5 0 [] _ [.agg #[.int .i64 a, .int .i64 n], .bool f] (fun g hg => by cases hg) w (Nat.zero_le _) (fun g hg => by cases hg) (fun g hg => by cases hg) (pair_lr a n f) h
theorem gone_t (a n : Int) (w : World) (hn : In64 n) : Calls Try.prog 5 #[.agg #[.int .i64 a, .int .i64 n], .bool true] w fun e w' => e = .returned (.bool true) ∧ Below w.heap.size w w' := gone_of a n true w hn (by kernel_rfl)
theorem gone_f (a n : Int) (w : World) (hn : In64 n) : Calls Try.prog 5 #[.agg #[.int .i64 a, .int .i64 n], .bool false] w fun e w' => e = .returned (.bool true) ∧ Below w.heap.size w w' := gone_of a n false w hn (by kernel_rfl)
theorem gone_law (a n : Int) (f : Bool) (w : World) (hn : In64 n) : Calls Try.prog 5 #[.agg #[.int .i64 a, .int .i64 n], .bool f] w fun e w' => e = .returned (.bool true) ∧ Below w.heap.size w w' := by
  cases f
  · exact gone_f a n w hn
  · exact gone_t a n w hn
end Go.Proofs.Yteoemkkfplbiaaa
