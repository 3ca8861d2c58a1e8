/- Laws over any program: a region that draws its order, taken operation by operation. No condition. -/
import Derived.Deep.RegionHeld3
namespace Go.Proofs.Yticgaknkonolnaa
open Go
set_option linter.unusedVariables false
section
variable {P : Program} {ops : List Oper} {Q : Exit → Act → World → Prop} {S : World → Prop}
theorem nth_of {i : Nat} {oi : Oper} (h : (ops.drop i).head? = some oi) : ops.toArray[i]? = some oi := by
  rw [List.getElem?_toArray, ← List.head?_drop]; exact h
/-- number i runs first -/
theorem held_run (i : Nat) {oi : Oper} {v : Value} {fuel : Nat} {listed : Array Bool} {a : Act} {w : World} (hS : S w) (hi : (ops.drop i).head? = some oi)
    (hs : Region.noSelect ops.toArray = true) (hf : Region.free .any ops.toArray listed i = true) (hr : (Region.ready .any ops.toArray listed).contains i = true)
    (hQ : ∀ c a w, Q (.panic c) (a.put oi.dst v) w → Q (.panic c) a w) (hy : YieldsIf P ops.toArray S oi v a)
    (h : wpAnyH P .any ops.toArray Q S fuel (listed.setIfInBounds i true) (a.put oi.dst v) w) : wpAnyH P .any ops.toArray Q S (fuel + 1) listed a w :=
  wpAnyH_take (nth_of hi) hs hf hr hQ hy hS h
/-- number i comes up next, alone -/
theorem held_next (i : Nat) {o : Oper} {fuel : Nat} {listed : Array Bool} {a : Act} {w : World} (hi : (ops.drop i).head? = some o) (hr : Region.ready .any ops.toArray listed = [i])
    (h : ∀ K' : Act → World → Prop, Shut (∀ a w, S w → (S w → wpAnyH P .any ops.toArray Q S fuel (listed.setIfInBounds i true) a w) → K' a w) → if Region.wanted o (yielded ops.toArray a.tmps) = true then Oper.wp P o a w K' Q else K' (a.put o.dst undef) w) :
    wpAnyH P .any ops.toArray Q S (fuel + 1) listed a w :=
  wpAnyH_ready hr (by simp) (AllReadyH.cons (nth_of hi) h AllReadyH.nil)
end
end Go.Proofs.Yticgaknkonolnaa
