/- CtypeCommon: the law run for each pair of kinds of ints. No condition. -/
import Derived.Test.YtilljobnaoefiaaVmS
import Derived.Test.YtilljobnaoefiaaFit02
import Derived.IntWalk
namespace Go.Proofs.Ytilljobnaoefiaa
open Go.RowKit
set_option linter.unusedVariables false
theorem and15 (a : Int) : ∃ r : Nat, r < 16 ∧ evB2 .and .i64 a .i64 15 = some (.int .i64 r) := by
  refine ⟨(BitVec.ofInt 64 a).toNat % 16, Nat.mod_lt _ (by decide), ?_⟩
  have h : (BitVec.ofInt 64 a &&& BitVec.ofInt 64 15).toNat = (BitVec.ofInt 64 a).toNat % 16 := by
    rw [BitVec.toNat_and]
    exact Nat.and_two_pow_sub_one_eq_mod _ 4
  have hlt : (BitVec.ofInt 64 a).toNat % 16 < 16 := Nat.mod_lt _ (by decide)
  show some (Value.int .i64 (IntKind.i64.wrap ((BitVec.ofInt 64 a &&& BitVec.ofInt 64 15).toNat : Nat))) = _
  rw [h]
  generalize (BitVec.ofInt 64 a).toNat % 16 = r at hlt
  have : IntKind.i64.wrap (r : Nat) = (r : Int) := IntWalk.i64_in _ (by omega)
  rw [this]
def two (a b : Int) : Int → Int := fun i => if i = 0 then a else b
def knowC (r0 r1 : Nat) : Know := [(symNode .and .i64 (mark .i64 0) (.int .i64 15), .int .i64 r0), (symNode .and .i64 (mark .i64 1) (.int .i64 15), .int .i64 r1)]
theorem knowC_ok {a b : Int} {r0 r1 : Nat} (h0 : evB2 .and .i64 a .i64 15 = some (.int .i64 r0)) (h1 : evB2 .and .i64 b .i64 15 = some (.int .i64 r1)) : KnowOk (two a b) (knowC r0 r1) := by
  intro p hp
  simp only [knowC, List.mem_cons, List.mem_nil_iff, or_false] at hp
  rcases hp with rfl | rfl
  · refine ⟨?_, rfl⟩
    simp [symNode, isCmp, bcode, mark, den, dens, denN, bdec, two, h0, asKind]
  · refine ⟨?_, rfl⟩
    simp [symNode, isCmp, bcode, mark, den, dens, denN, bdec, two, h1, asKind]
def fitTab : Tab Try.prog := Tab.one Try.prog 6 (.bool true) rfl fit_vm
theorem common_of (a b : Int) (w : World) (r0 r1 : Nat) (h0 : evB2 .and .i64 a .i64 15 = some (.int .i64 r0)) (h1 : evB2 .and .i64 b .i64 15 = some (.int .i64 r1))
    (h : (vcall (Sy.ints Try.prog (two a b) (knowC r0 r1) (knowC_ok h0 h1) fitTab) 100000 60 0 5 [mark .i64 0, mark .i64 1] VW.empty).map (·.1) = some (.bool true)) :
    Calls Try.prog 5 #[.int .i64 a, .int .i64 b] w fun e w' => e = .returned (.bool true) ∧ Below w.heap.size w w' :=
  vrunS _ mixed 100000 60 5 _ [.int .i64 a, .int .i64 b] (.bool true) (fun β => LR.cons (mark_vr (two a b) β .i64 0) (LR.cons (mark_vr (two a b) β .i64 1) LR.nil)) rfl h w
end Go.Proofs.Ytilljobnaoefiaa
