/- FlowCopies: the operations' names as the program lays them. No condition. -/
import Derived.Test.YtdaildpfkchbhaaDoorFcP
import Derived.Test.YtdaildpfkchbhaaDoorLaidS
import Derived.Test.YtdaildpfkchbhaaDoorGl
namespace Go.Proofs.YtdaildpfkchbhaaDoor
open Go.ChangeShapes Go.WideShapes Go.RowKit
set_option linter.unusedVariables false
def nmB : List ByteArray := namesT.map fun l => ⟨⟨l⟩⟩
theorem nmB_listed : strD nmB = Rows.laid_merlon_rtl_names := by kernel_rfl
theorem nmB_at : strAt Tryd.prog "merlon/rtl.names" 0 = true := by kernel_rfl
/-- the table of names stands -/
def NmOk (w : World) : Prop := (∀ (i : Nat) v, (nmB.map Value.string)[i]? = some v → w.cell? ⟨0, i, none⟩ = some v) ∧ 0 < w.heap.size
theorem NmOk.below {w w' : World} (h : NmOk w) (hb : Below w.heap.size w w') : NmOk w' :=
  ⟨fun i v hv => by have e := h.1 i v hv; unfold World.cell? at e ⊢; rw [hb.block 0 h.2]; exact e, Nat.lt_of_lt_of_le h.2 hb.size⟩
theorem nm_ok {W : World} (h : laidMetH Tryd.prog laidS W) : NmOk W := by
  have h1 := strAt_cells h (show ("merlon/rtl.names", strD nmB) ∈ laidS by rw [nmB_listed]; exact .tail _ (.tail _ (.tail _ (.head _)))) nmB_at
  exact ⟨h1, cell_lt (h1 0 _ rfl)⟩
/-- .. told by the operation -/
theorem NmOk.at_op {w : World} (h : NmOk w) (op : Int) (h1 : 0 ≤ op) (h2 : op < 31) : w.cell? ⟨0, op.toNat, none⟩ = some (.string ⟨⟨nameS op⟩⟩) := by
  have hl : op.toNat < namesT.length := by rw [namesT_length]; omega
  refine h.1 _ _ ?_
  simp only [nmB, List.map_map, List.getElem?_map, List.getElem?_eq_getElem hl, Option.map_some, Function.comp, nameS, List.getD_eq_getElem?_getD, Option.getD_some]
end Go.Proofs.YtdaildpfkchbhaaDoor
