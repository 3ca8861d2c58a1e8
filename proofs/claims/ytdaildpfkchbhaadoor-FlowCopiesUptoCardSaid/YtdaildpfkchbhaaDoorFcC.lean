/- FlowCopies: flow.Copy. No condition. -/
import Derived.Test.YtdaildpfkchbhaaDoorFcT
import Derived.Test.YtdaildpfkchbhaaDoorHu
namespace Go.Proofs.YtdaildpfkchbhaaDoor
open Go.RowKit
set_option linter.unusedVariables false
set_option maxHeartbeats 4000000
theorem Tryd.cinfoBlock : (Tryd.prog.info? 41).map (fun i => (i.zero.map (·.cells.size), i.size, i.bytes)) = some (some 9, 9, 88) := by kernel_rfl
theorem Tryd.cinfoIns : (Tryd.prog.info? 45).map (fun i => (i.zero.map (·.cells.size), i.size, i.bytes)) = some (some 12, 12, 104) := by kernel_rfl
theorem Tryd.cinfoArg : (Tryd.prog.info? 37).map (fun i => (i.zero.map (·.cells.size), i.size, i.bytes)) = some (some 2, 2, 16) := by kernel_rfl
theorem Tryd.cinfoBool : (Tryd.prog.info? 4).map (fun i => (i.zero.map (·.cells.size), i.size, i.bytes)) = some (some 1, 1, 1) := by kernel_rfl
theorem Tryd.cinfoInt : (Tryd.prog.info? 3).map (fun i => (i.zero.map (·.cells.size), i.size, i.bytes)) = some (some 1, 1, 8) := by kernel_rfl
/-- what stands beside the rows of blocks while they are copied -/
def Fr (w : World) (gx gr : Nat) (BX RX : Array Value) (vs vl : Value) (n1 n2 : Nat) (wr : World) : Prop :=
  Below w.heap.size w wr ∧ wr.heap[gx]? = some (.cells BX 32 (0, 0)) ∧ wr.heap[gr]? = some (.cells RX 32 (0, 0)) ∧ (∃ l1 : List Bool, wr.ownsRow w.heap.size 4 1 vs n1 (l1.map Value.bool)) ∧ ∃ l2, wr.ownsRow w.heap.size 3 1 vl n2 l2
theorem Fr.step {w : World} {gx gr : Nat} {BX RX : Array Value} {vs vl : Value} {n1 n2 : Nat} {wr w' : World} (h : Fr w gx gr BX RX vs vl n1 n2 wr) {r : Option Nat} (hg : wr.grownBy w' r)
    (hr : ∀ b, r = some b → w.heap.size ≤ b ∧ ∃ cur T fr, wr.heap[b]? = some (.cells cur T fr) ∧ T ≠ 32 ∧ T ≠ 4 ∧ T ≠ 3) : Fr w gx gr BX RX vs vl n1 n2 w' := by
  obtain ⟨h1, h2, h3, ⟨l1, h4⟩, l2, h5⟩ := h
  have hne : ∀ {g : Nat} {c : Array Value} {T : TypeId} {fr : Nat × Nat}, wr.heap[g]? = some (.cells c T fr) → (T = 32 ∨ T = 4 ∨ T = 3) → some g ≠ r := fun hc hT e => by
    obtain ⟨_, c2, T2, fr2, q1, q2, q3, q4⟩ := hr _ e.symm
    rw [hc] at q1
    simp only [Option.some.injEq, Obj.cells.injEq] at q1
    rcases hT with hT | hT | hT
    · exact q2 (q1.2.1.symm.trans hT)
    · exact q3 (q1.2.1.symm.trans hT)
    · exact q4 (q1.2.1.symm.trans hT)
  refine ⟨below_of_grown h1 (Nat.le_refl _) hg (fun j hj => (hr j hj).1), (hg.block gx (blk_lt h2) (hne h2 (Or.inl rfl))).trans h2, (hg.block gr (blk_lt h3) (hne h3 (Or.inl rfl))).trans h3, ⟨l1, h4.kept hg ?_⟩, l2, h5.kept hg ?_⟩
  · rcases own_cells h4 with ⟨rfl, _⟩ | ⟨g2, cap2, cur2, rfl, _, q3, _⟩
    · exact Or.inl rfl
    · exact Or.inr (hne q3 (Or.inr (Or.inl rfl)))
  · rcases own_cells h5 with ⟨rfl, _⟩ | ⟨g2, cap2, cur2, rfl, _, q3, _⟩
    · exact Or.inl rfl
    · exact Or.inr (hne q3 (Or.inr (Or.inr rfl)))
theorem flatB_css : ∀ (css : List (List Value)) (al : List Bool), css.length = al.length → (∀ (i : Nat) cs x, css[i]? = some cs → al[i]? = some x → BoolR cs x) → css.flatten = al.map Value.bool
  | [], [], _, _ => rfl
  | c :: css, a :: al, hl, h => by
    have h0 : c = [.bool a] := h 0 c a rfl rfl
    rw [List.flatten_cons, flatB_css css al (by simpa using hl) (fun i cs x h1 h2 => h (i + 1) cs x h1 h2), h0]
    rfl
  | [], a :: al, hl, _ => by simp at hl
  | c :: css, [], hl, _ => by simp at hl
/-- rows copied, by their types -/
theorem copy_bool (w : World) (v : Value) (xs : List Bool) (h : SlR w 1 BoolR v xs) (hl : xs.length ≤ 1000000) :
    ∃ v' w' l, (Builtin.append_ #[28, 28] 28 #[.slice none 0 0, v]).run Tryd.prog w = .ok v' w' ∧ w'.ownsRow w.heap.size 4 1 v' xs.length (List.map Value.bool l) ∧ Below w.heap.size w w' := by
  obtain ⟨i, z, h1, h2, h3, h4, h5⟩ := info_partsC Tryd.cinfoBool
  obtain ⟨v', w', css, k1, k2, k4, _, k5, k3⟩ := copy_row (P := Tryd.prog) 28 4 i z 1 Tryd.underlying28 h1 h2 h4 h5 h3 (by decide) h (fun cs x hR u hu => by rw [hR] at hu; rw [List.mem_singleton.1 hu]; rfl) (by unfold maxLen; omega) (by omega)
  exact ⟨v', w', xs, k1, by rw [flatB_css css xs k4 k5] at k2; exact k2, k3⟩
theorem copy_int (w : World) (v : Value) (xs : List Int) (h : SlR w 1 IntR v xs) (hl : xs.length ≤ 1000000) :
    ∃ v' w' l, (Builtin.append_ #[29, 29] 29 #[.slice none 0 0, v]).run Tryd.prog w = .ok v' w' ∧ w'.ownsRow w.heap.size 3 1 v' xs.length l ∧ Below w.heap.size w w' := by
  obtain ⟨i, z, h1, h2, h3, h4, h5⟩ := info_partsC Tryd.cinfoInt
  obtain ⟨v', w', css, k1, k2, _, _, _, k3⟩ := copy_row (P := Tryd.prog) 29 3 i z 8 Tryd.underlying29 h1 h2 h4 h5 h3 (by decide) h (fun cs x hR u hu => by rw [hR.1] at hu; rw [List.mem_singleton.1 hu]; rfl) (by unfold maxLen; omega) (by omega)
  exact ⟨v', w', _, k1, k2, k3⟩
theorem flatA_css : ∀ (css : List (List Value)) (al : List ArgD), css.length = al.length → (∀ (i : Nat) cs x, css[i]? = some cs → al[i]? = some x → ArgR cs x) → css.flatten = flatA al
  | [], [], _, _ => rfl
  | c :: css, a :: al, hl, h => by
    have h0 := (h 0 c a rfl rfl).1
    rw [List.flatten_cons, flatA_css css al (by simpa using hl) (fun i cs x h1 h2 => h (i + 1) cs x h1 h2), h0]
    rfl
  | [], a :: al, hl, _ => by simp at hl
  | c :: css, [], hl, _ => by simp at hl
theorem copy_args (w : World) (v : Value) (xs : List ArgD) (h : SlR w 2 ArgR v xs) (hl : xs.length ≤ 1000000) :
    ∃ v' w', (Builtin.append_ #[43, 43] 43 #[.slice none 0 0, v]).run Tryd.prog w = .ok v' w' ∧ w'.ownsRow w.heap.size 37 2 v' xs.length (flatA xs) ∧ Below w.heap.size w w' := by
  obtain ⟨i, z, h1, h2, h3, h4, h5⟩ := info_partsC Tryd.cinfoArg
  obtain ⟨v', w', css, k1, k2, k4, _, k5, k3⟩ := copy_row (P := Tryd.prog) 43 37 i z 16 Tryd.underlying43 h1 h2 h4 h5 h3 (by decide) h (fun cs x hR u hu => by rw [hR.1] at hu; simp only [List.mem_cons, List.not_mem_nil, or_false] at hu; rcases hu with rfl | rfl <;> rfl) (by unfold maxLen; omega) (by omega)
  exact ⟨v', w', k1, by rw [flatA_css css xs k4 k5] at k2; exact k2, k3⟩
theorem cell_of_flat {C n i j : Nat} {css : List (List Value)} {cs : List Value} (he : ∀ cs ∈ css, cs.length = C) (hl : css.length = n) (hi : css[i]? = some cs) (hj : j < C) {cur : Array Value} (hc : ∀ k, k < n * C → cur[k]? = css.flatten[k]?) : cur[i * C + j]? = cs[j]? := by
  have hin := (List.getElem?_eq_some_iff.1 hi).1
  have : (i + 1) * C ≤ n * C := Nat.mul_le_mul_right C (by omega)
  rw [Nat.add_mul, Nat.one_mul] at this
  rw [hc _ (by omega)]
  exact flatten_at C css i j cs he hi hj
theorem copy_ins (w0 w : World) (v : Value) (xs : List InsD) (h0 : Below w0.heap.size w0 w) (h : SlR w0 12 (InsR w0) v xs) (hl : xs.length ≤ 1000000) :
    ∃ v' w', (Builtin.append_ #[35, 35] 35 #[.slice none 0 0, v]).run Tryd.prog w = .ok v' w' ∧ NewI w0 w' w.heap.size v' xs 0 ∧ Below w.heap.size w w' := by
  obtain ⟨i, z, h1, h2, h3, h4, h5⟩ := info_partsC Tryd.cinfoIns
  obtain ⟨v', w', css, k1, k2, k4, k6, k5, k3⟩ := copy_row (P := Tryd.prog) 35 45 i z 104 Tryd.underlying35 h1 h2 h4 h5 h3 (by decide) (h.later (by decide) h0) (fun cs x hR u hu => by
    obtain ⟨va, rfl, _, _, _, _, _, _, _, _, _, hs, _⟩ := hR
    obtain ⟨A, c, rfl, _⟩ := hs
    simp only [List.mem_cons, List.not_mem_nil, or_false] at hu
    rcases hu with rfl | rfl | rfl | rfl | rfl | rfl | rfl | rfl | rfl | rfl | rfl | rfl <;> rfl) (by unfold maxLen; omega) (by omega)
  refine ⟨v', w', k1, ?_, k3⟩
  rcases own_cells k2 with ⟨rfl, e⟩ | ⟨g, cap, cur, rfl, q1, q2, q3, q4, q5, q6⟩
  · exact ⟨none, 0, by rw [e], by omega, by decide, Or.inl (List.length_eq_zero_iff.1 e)⟩
  · refine ⟨_, cap, rfl, q3, q4, Or.inr ⟨g, cur, rfl, q1, q2, fun i x hx => ?_⟩⟩
    have hil := (List.getElem?_eq_some_iff.1 hx).1
    obtain ⟨cs, hcs⟩ : ∃ cs, css[i]? = some cs := ⟨_, List.getElem?_eq_getElem (by omega)⟩
    obtain ⟨va, e1, _, _, _, _, _, _, _, _, _, hs, _⟩ := k5 i cs x hcs hx
    exact ⟨va, fun j hj => by rw [cell_of_flat k6 k4 hcs hj q6, e1]; rfl, fun h => by omega, fun _ => hs⟩
theorem copy_blk (w0 w : World) (v : Value) (xs : List BlockD) (h0 : Below w0.heap.size w0 w) (h : SlR w0 9 (BlockR w0) v xs) (hl : xs.length ≤ 1000000) (hp : 0 < xs.length) :
    ∃ g cap w', (Builtin.append_ #[30, 30] 30 #[.slice none 0 0, v]).run Tryd.prog w = .ok (.slice (some ⟨g, 0, none⟩) xs.length cap) w' ∧ xs.length ≤ cap ∧ cap ≤ maxLen ∧ RowB w' w.heap.size g xs (fun _ vi b => SlR w0 12 (InsR w0) vi b.ins) ∧ Below w.heap.size w w' := by
  obtain ⟨i, z, h1, h2, h3, h4, h5⟩ := info_partsC Tryd.cinfoBlock
  obtain ⟨v', w', css, k1, k2, k4, k6, k5, k3⟩ := copy_row (P := Tryd.prog) 30 41 i z 88 Tryd.underlying30 h1 h2 h4 h5 h3 (by decide) (h.later (by decide) h0) (fun cs x hR u hu => by
    obtain ⟨vi, rfl, hs, _⟩ := hR
    obtain ⟨A, c, rfl, _⟩ := hs
    simp only [List.mem_cons, List.not_mem_nil, or_false] at hu
    rcases hu with rfl | rfl | rfl | rfl | rfl | rfl | rfl | rfl | rfl <;> rfl) (by unfold maxLen; omega) (by omega)
  rcases own_cells k2 with ⟨rfl, e⟩ | ⟨g, cap, cur, rfl, q1, q2, q3, q4, q5, q6⟩
  · omega
  · refine ⟨g, cap, w', k1, q3, q4, ⟨cur, q1, q2, fun i x hx => ?_⟩, k3⟩
    have hil := (List.getElem?_eq_some_iff.1 hx).1
    obtain ⟨cs, hcs⟩ : ∃ cs, css[i]? = some cs := ⟨_, List.getElem?_eq_getElem (by omega)⟩
    obtain ⟨vi, e1, hs, _⟩ := k5 i cs x hcs hx
    exact ⟨vi, fun j hj => by rw [cell_of_flat k6 k4 hcs hj q6, e1]; rfl, hs⟩
end Go.Proofs.YtdaildpfkchbhaaDoor
