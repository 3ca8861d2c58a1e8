/- Walks: graph's edge, read. What flow.Live answers, as sets of registers that are live. No condition. -/
import Derived.Test.YtbogcompeefoaaaDoorGr1
import Derived.Test.YtbogcompeefoaaaDoorQd
namespace Go.Proofs.YtbogcompeefoaaaDoor
open Go.RowKit
set_option linter.unusedVariables false
set_option maxHeartbeats 2000000
theorem edge_put (E : Nat → Nat → Bool) {a b : Nat} (hab : a ≠ b) (x y : Nat) : updE (updE E a (fun r => E a r || decide ((b : Int) = (r : Int)))) b (fun r => updE E a (fun r => E a r || decide ((b : Int) = (r : Int))) b r || decide ((a : Int) = (r : Int))) x y = edgeE E a b x y := by
  have ei : ∀ u v : Nat, decide ((u : Int) = (v : Int)) = decide (v = u) := fun u v => by rw [decide_eq_decide]; omega
  unfold updE edgeE
  rw [decide_eq_false hab]
  by_cases h1 : x = b
  · subst h1
    rw [if_pos rfl, if_neg (Ne.symm hab), decide_eq_false (Ne.symm hab), ei]
    simp
  · rw [if_neg h1]
    by_cases h2 : x = a
    · subst h2
      rw [if_pos rfl, ei]
      simp [h1]
    · rw [if_neg h2]
      simp [h1, h2]
section
variable {w : World} {B L0 L1 gb R : Nat} {av cv mv uv : Value} {vs : List Value} {E : Nat → Nat → Bool} {M : Nat → Bool} {us : List Int} {cp : List (Int × Int)}
theorem edge_any (h : GrR w B L0 L1 gb R av cv mv uv vs E M us cp) (hR : R ≤ 1000000) (a b : Nat) (ha : a < R) (hb : b < R) :
    Calls Tryd.prog 55 #[.pointer (some ⟨gb, 0, none⟩), .int .i64 (a : Nat), .int .i64 (b : Nat)] w fun e w' => e = .returned (.tuple #[]) ∧ GrR w' B L0 L1 gb R av cv mv uv vs (edgeE E a b) M us cp ∧ Mid B L0 w.heap.size w w' := by
  have H := Lib.hid h
  obtain ⟨g, cap, rfl⟩ := h.formA (by omega)
  obtain ⟨va, e1, e2⟩ := h.at_ ha
  obtain ⟨vb, f1, f2⟩ := h.at_ hb
  have HE := Lib.hid (And.intro e1 e2)
  have HF := Lib.hid (And.intro f1 f2)
  have c0 : w.cell? ⟨gb, 0, none⟩ = some (.slice (some ⟨g, 0, none⟩) R cap) := blk_cell h.blk rfl
  have c1 := h.cellA ha e1
  have l0 := blk_lt h.blk
  have l1 := World.block_lt_of_cell? _ _ c1
  clear h e1 e2 f1 f2
  by_cases hab : a = b
  · subst hab
    have d1 : ((a : Int) != (a : Int)) = false := by simp
    go_enter Tryd.func55, Tryd.ntmps55
    go_wp2_with fail
    go_returns
    exact ⟨rfl, H.out.congr (fun x y _ _ => by unfold edgeE; simp) (fun _ _ => rfl), Mid.refl _ _ _ _⟩
  · have HAB := Lib.hid hab
    have d1 : ((a : Int) != (b : Int)) = true := by simp; omega
    clear hab
    go_enter Tryd.func55, Tryd.ntmps55
    go_wp2_with fail
    refine (put_b w (b : Nat) HE.out.2 hR (by omega)).mono ?_
    rintro e w2 ⟨rfl, hs2, hg2⟩
    have H2 := Lib.hid (H.out.setE ha HE.out.1 hs2 hg2)
    have HM2 := Lib.hid (Mid.of_grown (B := B) (L0 := L0) (L1 := w.heap.size) hg2 (fun k hk => ⟨⟨(HE.out.2.lt_ hk).1, Or.inl (H.out.hs a va k HE.out.1 hk)⟩, HE.out.2.hot hk⟩))
    obtain ⟨v2, k1, k2⟩ := H2.out.at_ hb
    have q1 := HF.out.1
    rw [k1] at q1
    cases q1
    have c2 : w2.cell? ⟨gb, 0, none⟩ = some (.slice (some ⟨g, 0, none⟩) R cap) := blk_cell H2.out.blk rfl
    have c3 := H2.out.cellA hb k1
    have l2 := blk_lt H2.out.blk
    have l3 := World.block_lt_of_cell? _ _ c3
    have HK := Lib.hid (And.intro k1 k2)
    clear hs2 hg2 c0 c1 l0 l1 k1 k2
    go_wp2_with fail
    refine (put_b w2 (a : Nat) HK.out.2 hR (by omega)).mono ?_
    rintro e w3 ⟨rfl, hs3, hg3⟩
    have H3 := Lib.hid (H2.out.setE hb HK.out.1 hs3 hg3)
    have HM3 := Lib.hid (HM2.out.trans (Mid.of_grown (B := B) (L0 := L0) (L1 := w.heap.size) hg3 (fun k hk => ⟨⟨(HK.out.2.lt_ hk).1, Or.inl (H2.out.hs b _ k HK.out.1 hk)⟩, HK.out.2.hot hk⟩)))
    clear hs3 hg3 c2 c3
    go_wp2_with fail
    go_returns
    exact ⟨rfl, H3.out.congr (fun x y _ _ => edge_put E HAB.out x y) (fun _ _ => rfl), HM3.out⟩
theorem addU_some {us : List Int} {r : Nat} {x : Int} (h : us[r]? = some x) : addU us ((r : Nat) : Int) = us.set r (x + 1) := by
  unfold addU
  rw [if_pos (by omega), show ((r : Nat) : Int).toNat = r by omega, List.getD_eq_getElem?_getD, h]
  rfl
theorem read_any (h : GrR w B L0 L1 gb R av cv mv uv vs E M us cp) (hR : R ≤ 1000000) (hB : B ≤ L0) (sv : Value) (S : Nat → Bool) (hs : SetB w L1 sv R S) (a : ArgD) (h1 : -1 ≤ a.reg) (h2 : a.reg < R) (c : Int) (hc0 : 0 ≤ c) (hc : c ≤ 4000000000000000000) (hu : Ub us c) :
    Calls Tryd.prog 53 #[.pointer (some ⟨gb, 0, none⟩), sv, .agg #[.int .i64 a.reg, .int .i64 a.num]] w fun e w' => e = .returned (.tuple #[]) ∧ GrR w' B L0 L1 gb R av cv mv uv vs E M (addU us a.reg) cp ∧ SetB w' L1 sv R (fun r => S r || decide (a.reg = (r : Int))) ∧ Mid B L0 L1 w w' := by
  have H := Lib.hid h
  have HS := Lib.hid hs
  have HBX := Lib.hid (below_alloc (.cells #[.int .i64 a.reg, .int .i64 a.num] 52) (Below.refl w.heap.size w))
  have HBO := Lib.hid (blk_new w (.cells #[.int .i64 a.reg, .int .i64 a.num] 52))
  have hgl := blk_lt h.blk
  clear h hs
  by_cases h0 : 0 ≤ a.reg
  · obtain ⟨r, hr⟩ : ∃ r : Nat, a.reg = r := ⟨a.reg.toNat, by omega⟩
    obtain ⟨num, hnum⟩ : ∃ n, n = a.num := ⟨_, rfl⟩
    rw [hr] at HBX HBO h2 ⊢
    rw [← hnum] at HBX HBO ⊢
    have hrR : r < R := by omega
    obtain ⟨g, cap, rfl⟩ := H.out.lenU (by omega)
    obtain ⟨x, hx⟩ : ∃ x, us[r]? = some x := ⟨_, List.getElem?_eq_getElem (by rw [H.out.ul]; exact hrR)⟩
    obtain ⟨x1, x2⟩ := hu.at_ hx
    have HX := Lib.hid hx
    have H1 := Lib.hid (H.out.more HBX.out)
    have HS1 := Lib.hid (HS.out.more HBX.out)
    clear hu h1 h2 h0 hr hnum hx
    go_enter Tryd.func53, Tryd.ntmps53
    go_wp2_with fail
    obtain ⟨wa, hwa⟩ : ∃ z, z = w.alloc (.cells #[.int .i64 (r : Nat), .int .i64 num] 52) := ⟨_, rfl⟩
    rw [← hwa] at HBO HBX H1 HS1 ⊢
    obtain ⟨ga, hga⟩ : ∃ z, z = w.heap.size := ⟨_, rfl⟩
    rw [← hga] at HBO ⊢
    have HGA := Lib.hid hga
    clear hwa hga
    refine (put_b wa (r : Nat) HS1.out hR (by omega)).mono ?_
    rintro e w2 ⟨rfl, hs2, hg2⟩
    have H2 := Lib.hid (H1.out.kept hg2 (fun k hk => Nat.le_trans H1.out.le (HS1.out.lt_ hk).1) (apart_symm (HS1.out.ne_ H1.out.ci (by decide))))
    have HS2 := Lib.hid hs2
    have HM2 := Lib.hid ((Mid.of_below (B := B) (L0 := L0) (L1 := L1) HBX.out).trans (Mid.of_grown (B := B) (L0 := L0) (L1 := L1) hg2 (fun k hk => ⟨⟨Nat.le_trans (Nat.le_trans hB H1.out.le) (HS1.out.lt_ hk).1, Or.inr (HS1.out.lt_ hk).1⟩, HS1.out.hot hk⟩)))
    obtain ⟨n0, xs0, o0⟩ := HS1.out.own_
    have HB2 := blk_kept HBO.out hg2 (own_blk o0 HBO.out (by decide))
    have ka : w2.cell? ⟨ga, 0, none⟩ = some (.int .i64 (r : Nat)) := blk_cell HB2 rfl
    have la := blk_lt HB2
    have kg : w2.cell? ⟨gb, 3, none⟩ = some (.slice (some ⟨g, 0, none⟩) R cap) := blk_cell H2.out.blk rfl
    have lg := blk_lt H2.out.blk
    obtain ⟨ku, kf, kl⟩ := H2.out.cellU HX.out
    have hin : (x + 1) ≤ 9223372036854775807 := by omega
    have hin2 : -9223372036854775808 ≤ (x + 1) := by omega
    clear hs2 hg2 o0 HB2
    have V := H2.out.setU r (x + 1)
    have H3 := Lib.hid (V.1.more (drew_below' _))
    have HS3 := Lib.hid ((HS2.out.kept V.2 (HS2.out.ne_ H2.out.ui (by decide))).more (drew_below' _))
    have HM3 := Lib.hid (HM2.out.trans ((Mid.of_grown (B := B) (L0 := L0) (L1 := L1) V.2 (fun k hk => ⟨⟨(World.ownsRow.lt H2.out.ui k (by cases hk; rfl)).1, Or.inl (H2.out.hu k (by cases hk; rfl))⟩, own_hot H2.out.ui (by cases hk; rfl) (Or.inl rfl)⟩)).trans (Mid.of_below (drew_below' _))))
    clear V
    have HAU := Lib.hid (addU_some HX.out)
    go_wp2_with fail
    go_region
    go_wp2_with fail
    go_returns
    exact ⟨rfl, by rw [HAU.out]; exact H3.out, HS3.out, HM3.out⟩
  · have h00 := h0
    have HG1 := Lib.hid (show addU us a.reg = us by unfold addU; rw [if_neg h0])
    have HG2 := Lib.hid (show (fun r : Nat => S r || decide (a.reg = (r : Int))) = S by funext r; rw [decide_eq_false (by omega), Bool.or_false])
    have d0 : decide (0 ≤ a.reg) = false := decide_eq_false h0
    clear h0
    go_enter Tryd.func53, Tryd.ntmps53
    go_wp2_with fail
    go_returns
    refine ⟨rfl, ?_, ?_, Mid.of_below HBX.out⟩
    · rw [HG1.out]; exact H.out.more HBX.out
    · rw [HG2.out]; exact HS.out.more HBX.out
end
end Go.Proofs.YtbogcompeefoaaaDoor
namespace Go.Proofs.YtbogcompeefoaaaDoor
open Go.RowKit
set_option linter.unusedVariables false
set_option maxHeartbeats 2000000
open Classical in
noncomputable def lvB (blk : Nat → BlockD) (nx : Nat → List Int) (n r b i : Nat) : Bool := decide (LivePt blk nx n r b i)
open Classical in
theorem lvB_iff {blk : Nat → BlockD} {nx : Nat → List Int} {n r b i : Nat} : lvB blk nx n r b i = true ↔ LivePt blk nx n r b i := by unfold lvB; exact decide_eq_true_iff
theorem lv_in {blk : Nat → BlockD} {nx : Nat → List Int} {n K r b : Nat} {I O : Nat → List Nat} (h : LInv blk nx n K I O) (hd : LDone blk nx n K I O 0) (hr : r < 64 * K) (hb : b < n) : bitL (I b) r = lvB blk nx n r b 0 := by
  rw [Bool.eq_iff_iff, h.done hd hr hb, lvB_iff]
  exact ⟨LivePt.at_, LiveAt.pt hb⟩
theorem lv_lt {blk : Nat → BlockD} {nx : Nat → List Int} {n r b : Nat} (h : LiveAt blk nx n r b) : b < n := by cases h <;> assumption
theorem lv_out {blk : Nat → BlockD} {nx : Nat → List Int} {n K r b : Nat} {I O : Nat → List Nat} (h : LInv blk nx n K I O) (hd : LDone blk nx n K I O 0) (hnx : ∀ i k, i < n → k ∈ nx i → 0 ≤ k ∧ k < n) (hr : r < 64 * K) (hb : b < n) :
    bitL (O b) r = (nx b).any fun k => lvB blk nx n r k.toNat 0 := by
  rw [Bool.eq_iff_iff, h.done_out hd hnx hr hb, List.any_eq_true]
  constructor
  · rintro ⟨k, hk, hl⟩
    exact ⟨k, hk, by rw [lvB_iff]; exact LivePt.at_ hl⟩
  · rintro ⟨k, hk, hl⟩
    have := hnx b k hb hk
    rw [lvB_iff] at hl
    exact ⟨k.toNat, by rw [Int.toNat_of_nonneg this.1]; exact hk, LiveAt.pt (by omega) hl⟩
/-- live at a block's end, at its beginning -/
noncomputable def oB (f : FuncD) (i r : Nat) : Bool := (nxF f i).any fun k => lvB (blkF f) (nxF f) f.blocks.length r k.toNat 0
noncomputable def iB (f : FuncD) (i r : Nat) : Bool := lvB (blkF f) (nxF f) f.blocks.length r i 0
section
variable {w w' : World} {f : FuncD} {B R : Nat} {iv ov : Value} {vs : List Value} {I O : Nat → List Nat}
theorem live_o (hL : LS w w' B f.blocks.length f.blocks.length iv ov vs I O) (hI : LInv (blkF f) (nxF f) f.blocks.length ((R + 63) / 64) I O) (hD : LDone (blkF f) (nxF f) f.blocks.length ((R + 63) / 64) I O 0) (hnx : ∀ i k, i < f.blocks.length → k ∈ nxF f i → 0 ≤ k ∧ k < f.blocks.length) {i : Nat} (hi : i < f.blocks.length) :
    ∃ v, vs[f.blocks.length + i]? = some v ∧ SetB w' B v R (oB f i) := by
  obtain ⟨v, e1, e2⟩ := hL.so i hi
  exact ⟨v, e1, _, e2, hI.lo i hi, fun r hr => lv_out hI hD hnx (by omega) hi⟩
theorem live_i (hL : LS w w' B f.blocks.length f.blocks.length iv ov vs I O) (hI : LInv (blkF f) (nxF f) f.blocks.length ((R + 63) / 64) I O) (hD : LDone (blkF f) (nxF f) f.blocks.length ((R + 63) / 64) I O 0) {i : Nat} (hi : i < f.blocks.length) :
    ∃ v, vs[i]? = some v ∧ SetB w' B v R (iB f i) := by
  obtain ⟨v, e1, e2⟩ := hL.si i hi
  exact ⟨v, e1, _, e2, hI.li i hi, fun r hr => lv_in hI hD (by omega) hi⟩
end
end Go.Proofs.YtbogcompeefoaaaDoor
