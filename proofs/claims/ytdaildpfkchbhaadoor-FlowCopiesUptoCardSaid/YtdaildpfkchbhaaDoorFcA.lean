/- FlowCopies: rtl.arg. No condition. -/
import Derived.Test.YtdaildpfkchbhaaDoorFcP
import Derived.Test.YtdaildpfkchbhaaDoorGl
import Derived.Test.YtdaildpfkchbhaaDoorShelf
import Derived.Test.YtdaildpfkchbhaaDoorStruct
import Derived.Lib.AppendIntMem
namespace Go.Proofs.YtdaildpfkchbhaaDoor
open Go.RowKit
set_option linter.unusedVariables false
set_option maxHeartbeats 2000000
def numB (n : Int) : ByteArray := ⟨⟨Lib.itoa n⟩⟩
theorem numB_size {n : Int} (h : In64 n) : (numB n).size ≤ 21 := numS_len h
theorem app_eq (a b : List UInt8) : (⟨⟨a⟩⟩ ++ ⟨⟨b⟩⟩ : ByteArray) = ⟨⟨a ++ b⟩⟩ := ByteArray.mk_append_mk a b
theorem fmt_any (w : World) (hP : PowOk w) (n : Int) (h : In64 n) : Calls Tryd.prog 36 #[.int .i64 n, .int .i64 10] w fun e w' => e = .returned (.string (numB n)) ∧ Below w.heap.size w w' :=
  (Tryd.strconv_FormatInt_10 n h.1 h.2 w hP.1).mono (fun e w' ⟨h1, k, os, h2⟩ => ⟨h1, by rw [h2]; exact Lib.below_grow _ w (Nat.le_refl _) k os⟩)
theorem itoa_any (w : World) (hP : PowOk w) (n : Int) (h : In64 n) : Calls Tryd.prog 18 #[.int .i64 n] w fun e w' => e = .returned (.string (numB n)) ∧ Below w.heap.size w w' :=
  (Tryd.strconv_Itoa n h.1 h.2 w hP.1).mono (fun e w' ⟨h1, k, os, h2⟩ => ⟨h1, by rw [h2]; exact Lib.below_grow _ w (Nat.le_refl _) k os⟩)
/-- where a call begins behind blocks of one's own -/
theorem below_over {w w1 w2 : World} (h1 : Below w.heap.size w w1) (h2 : Below w1.heap.size w1 w2) : Below w.heap.size w w2 := h1.trans (h2.mono h1.size)
theorem arg_any (w : World) (hP : PowOk w) (a : ArgD) (h1 : In64 a.reg) (h2 : In64 a.num) : Calls Tryd.prog 20 #[.agg #[.int .i64 a.reg, .int .i64 a.num]] w fun e w' => e = .returned (.string ⟨⟨argS a⟩⟩) ∧ Below w.heap.size w w' := by
  have HW := Lib.hid (below_alloc (.cells #[.int .i64 a.reg, .int .i64 a.num] 37) (Below.refl w.heap.size w))
  by_cases h : a.reg < 0
  · have HF := Lib.hid (fmt_any _ (hP.below HW.out) a.num h2)
    have HE := Lib.hid (show argS a = Lib.itoa a.num from by rw [argS, if_pos h]; rfl)
    clear h1 h2
    go_enter Tryd.func20, Tryd.ntmps20
    go_wp2_with fail
    refine HF.out.mono ?_
    rintro e w1 ⟨rfl, kb⟩
    have KB := Lib.hid (below_over HW.out kb)
    clear kb
    go_wp2_with fail
    go_returns
    exact ⟨by rw [HE.out]; rfl, KB.out⟩
  · have HF := Lib.hid (itoa_any _ (hP.below HW.out) a.reg h1)
    have hz := numB_size h1
    have HE := Lib.hid (show argS a = 114 :: Lib.itoa a.reg from by rw [argS, if_neg h]; rfl)
    clear h1 h2
    go_enter Tryd.func20, Tryd.ntmps20
    go_wp2_with fail
    refine HF.out.mono ?_
    rintro e w1 ⟨rfl, kb⟩
    have KB := Lib.hid (below_over HW.out kb)
    clear kb
    go_wp2_with fail
    go_returns
    exact ⟨by rw [HE.out, show (⟨⟨114 :: Lib.itoa a.reg⟩⟩ : ByteArray) = ({ data := #[114] } ++ numB a.reg : ByteArray) from (app_eq [114] (Lib.itoa a.reg)).symm]; rfl, KB.out⟩
end Go.Proofs.YtdaildpfkchbhaaDoor
