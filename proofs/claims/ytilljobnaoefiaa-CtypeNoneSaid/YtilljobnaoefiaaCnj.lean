/- CtypeNone answers true. No condition. -/
import Derived.Test.YtilljobnaoefiaaCn0
import Derived.Test.YtilljobnaoefiaaCn1
import Derived.Test.YtilljobnaoefiaaCn2
import Derived.Test.YtilljobnaoefiaaCn3
namespace Go.Proofs.Ytilljobnaoefiaa
open Go.RowKit
set_option linter.unusedVariables false
theorem none_law (a b : Int) (w : World) (ha : In64 a) (hb : In64 b) : Calls Try.prog 4 #[.int .i64 a, .int .i64 b] w fun e w' => e = .returned (.bool true) ∧ Below w.heap.size w w' := by
  obtain ⟨q, hq, h⟩ := and_low b 8 (by decide)
  have hq2 : q < 256 := by simpa using hq
  clear hq
  by_cases k0 : q < 16
  · exact nones_0 a b w q (by omega) k0 h
  by_cases k16 : q < 32
  · exact nones_16 a b w q (by omega) k16 h
  by_cases k32 : q < 48
  · exact nones_32 a b w q (by omega) k32 h
  by_cases k48 : q < 64
  · exact nones_48 a b w q (by omega) k48 h
  by_cases k64 : q < 80
  · exact nones_64 a b w q (by omega) k64 h
  by_cases k80 : q < 96
  · exact nones_80 a b w q (by omega) k80 h
  by_cases k96 : q < 112
  · exact nones_96 a b w q (by omega) k96 h
  by_cases k112 : q < 128
  · exact nones_112 a b w q (by omega) k112 h
  by_cases k128 : q < 144
  · exact nones_128 a b w q (by omega) k128 h
  by_cases k144 : q < 160
  · exact nones_144 a b w q (by omega) k144 h
  by_cases k160 : q < 176
  · exact nones_160 a b w q (by omega) k160 h
  by_cases k176 : q < 192
  · exact nones_176 a b w q (by omega) k176 h
  by_cases k192 : q < 208
  · exact nones_192 a b w q (by omega) k192 h
  by_cases k208 : q < 224
  · exact nones_208 a b w q (by omega) k208 h
  by_cases k224 : q < 240
  · exact nones_224 a b w q (by omega) k224 h
  by_cases k240 : q < 256
  · exact nones_240 a b w q (by omega) k240 h
  exact absurd hq2 (by omega)
end Go.Proofs.Ytilljobnaoefiaa
