/- Walks: rows of numbers that the call owns; where ends lead. Walks: registers that are read become live; an instruction taken back. What stands in memory while flow.Live runs. No condition. -/
import Derived.Test.YtbogcompeefoaaaDoorSet
import Derived.Test.YtbogcompeefoaaaDoorQd
import Derived.Test.YtbogcompeefoaaaDoorQa
import Derived.Test.YtbogcompeefoaaaDoorQb
import Derived.Deep.LoopGhost
import Derived.Deep.Cut
import Derived.Deep.CutRange
import Derived.Deep.DeepCutAuto
namespace Go.Proofs.YtbogcompeefoaaaDoor
open Go.RowKit
set_option linter.unusedVariables false
set_option maxHeartbeats 1000000
def iv (l : List Int) : List Value := l.map (Value.int .i64)
/-- a slice's value owns these numbers -/
def OwnI (w : World) (base : Nat) (v : Value) (l : List Int) : Prop := w.ownsRow base 3 1 v l.length (iv l)
theorem OwnI.cell {w : World} {base g n cap j : Nat} {l : List Int} (h : OwnI w base (.slice (some ⟨g, 0, none⟩) n cap) l) (hj : j < l.length) (x : Int) (hx : l[j]? = some x) : w.cell? ⟨g, j, none⟩ = some (.int .i64 x) := by
  have hn : n = l.length := by
    rcases h.2 with ⟨e, _⟩ | ⟨_, _, _, e, _⟩
    · cases e
    · cases e; rfl
  subst hn
  exact (World.ownsRow.cellAt h j (by omega)).trans (by simp [iv, hx])
theorem own_snoc {w : World} {base : Nat} {v : Value} {l : List Int} {x : Int} (h : OwnI w base v (l ++ [x])) :
    ∃ g cap, v = .slice (some ⟨g, 0, none⟩) (l.length + 1) cap ∧ l.length + 1 ≤ cap ∧ cap ≤ maxLen ∧ g < w.heap.size ∧ w.cell? ⟨g, l.length, none⟩ = some (.int .i64 x) ∧ OwnI w base (.slice (some ⟨g, 0, none⟩) l.length cap) l := by
  have h0 := h
  unfold OwnI at h0
  rw [show (l ++ [x]).length = l.length + 1 by simp] at h0
  obtain ⟨g, cap, rfl, h1, h2, h3, h4⟩ := own_form h0 (by omega)
  have ht := own_take h0 (m := l.length) (by omega)
  rw [show (iv (l ++ [x])).take l.length = iv l by simp [iv]] at ht
  exact ⟨g, cap, rfl, h1, h2, h4, h.cell (by simp) x (by simp), ht⟩
theorem var_set {w : World} {bw : Nat} {wv v : Value} {T : TypeId} (hb : w.heap[bw]? = some (.cells #[wv] T (0, 0))) (m : Nat) :
    ((w.drewN m).setCell ⟨bw, 0, none⟩ v).heap[bw]? = some (.cells #[v] T (0, 0)) ∧ w.grownBy ((w.drewN m).setCell ⟨bw, 0, none⟩ v) (some bw) := by
  have h : (w.drewN m).heap[bw]? = some (.cells #[wv] T (0, 0)) := hb
  refine ⟨by rw [blk_setCell h v]; rfl, rfl, rfl, rfl, by simp [World.setCell, World.drewN], fun k hk hne => ?_⟩
  exact Below.heap_setCell (w.drewN m) ⟨bw, 0, none⟩ v k (fun e => hne (by rw [e]))
/-- a new slice of ints comes back -/
def NewI (w : World) (l : List Int) (e : Ending) (w' : World) : Prop := ∃ v, e = .returned v ∧ OwnI w' w.heap.size v l ∧ Below w.heap.size w w'
theorem lit_own (w : World) (B g : Nat) (cs : Array Value) (l : List Int) (hg : g = w.heap.size) (hB : B ≤ w.heap.size) (hc : cs.toList = iv l) (hl : l.length ≤ maxLen) :
    OwnI (w.alloc (.cells cs 3)) B (.slice (some ⟨g, 0, none⟩) l.length l.length) l := by
  subst hg
  have hs : cs.size = l.length * 1 := by rw [← Array.length_toList, hc]; simp [iv]
  unfold OwnI
  rw [← hc]
  exact World.ownsRow_lit (size := 1) w cs l.length hB hl hs
theorem next_own (w : World) (t : TermD) : Calls Tryd.prog 33 #[termV t] w (NewI w (nextT t)) := by
  unfold nextT
  by_cases k1 : t.kind = 1
  · rw [if_pos k1]
    go_enter Tryd.func33, Tryd.ntmps33
    go_wp2
    go_returns
    exact ⟨_, rfl, lit_own _ _ _ _ [t.to_] (by simp) (by simp) rfl (by simp [maxLen]), below_alloc _ (below_alloc _ (Below.refl _ _))⟩
  · rw [if_neg k1]
    have b1 : (t.kind == 1) = false := by simpa using k1
    by_cases k2 : t.kind = 2
    · rw [if_pos k2]
      clear b1 k1
      go_enter Tryd.func33, Tryd.ntmps33
      go_wp2
      go_returns
      exact ⟨_, rfl, lit_own _ _ _ _ [t.to_, t.els] (by simp) (by simp) rfl (by simp [maxLen]), below_alloc _ (below_alloc _ (Below.refl _ _))⟩
    · rw [if_neg k2]
      have b2 : (t.kind == 2) = false := by simpa using k2
      clear k1 k2
      go_enter Tryd.func33, Tryd.ntmps33
      go_wp2
      go_returns
      exact ⟨_, rfl, World.ownsRow_nil _ _ _ _, below_alloc _ (Below.refl _ _)⟩
def nxF (f : FuncD) (i : Nat) : List Int := match f.blocks[i]? with
  | some b => nextT b.term
  | none => []
theorem nextT_len (t : TermD) : (nextT t).length ≤ 2 := by
  unfold nextT
  split
  · simp
  · split <;> simp
theorem nxF_of {f : FuncD} {i : Nat} {b : BlockD} (h : f.blocks[i]? = some b) : nxF f i = nextT b.term := by unfold nxF; rw [h]
theorem Tryd.infoInt : (Tryd.prog.info? 3).map (fun i => (i.zero, i.size, i.bytes)) = some (some (.int .i64 0), 1, 8) := by kernel_rfl
end Go.Proofs.YtbogcompeefoaaaDoor
namespace Go.Proofs.YtbogcompeefoaaaDoor
open Go.RowKit
set_option linter.unusedVariables false
set_option maxHeartbeats 1000000
theorem useL_take (l : List Nat) (al : List ArgD) (k : Nat) (a : ArgD) (h : al[k]? = some a) : useL l (al.take (k + 1)) = putL (useL l (al.take k)) a.reg := by
  unfold useL
  rw [List.take_add_one, h]
  simp
theorem SlR.grown {α : Type} {w w' : World} {C : Nat} {R : List Value → α → Prop} {v : Value} {xs : List α} {r : Option Nat} (h : SlR w C R v xs) (hg : w.grownBy w' r) (hd : xs = [] ∨ v.ownBlock ≠ r) : SlR w' C R v xs := by
  obtain ⟨A, cap, rfl, h2, h3, h4⟩ := h
  refine ⟨A, cap, rfl, h2, h3, fun i x hi => ?_⟩
  obtain ⟨b, o, cs, rfl, g2, g3, g4⟩ := h4 i x hi
  refine ⟨b, o, cs, rfl, g2, fun j hj => ?_, g4⟩
  have hj2 : j < cs.length := by omega
  have e := g3 j hj
  rw [List.getElem?_eq_getElem hj2] at e ⊢
  refine hg.cell e ?_
  rcases hd with rfl | hd
  · simp at hi
  · exact hd
theorem SlR.nil_of {α : Type} {w : World} {C : Nat} {R : List Value → α → Prop} {v : Value} {xs : List α} (h : SlR w C R v xs) (hn : v.ownBlock = none) : xs = [] := by
  obtain ⟨A, cap, rfl, h2, h3, h4⟩ := h
  cases xs with
  | nil => rfl
  | cons x xs =>
    obtain ⟨b, o, cs, rfl, _⟩ := h4 0 x rfl
    cases hn
theorem SlR.len_eq {α β : Type} {w w' : World} {C C' : Nat} {R : List Value → α → Prop} {R' : List Value → β → Prop} {v : Value} {xs : List α} {ys : List β} (h : SlR w C R v xs) (k : SlR w' C' R' v ys) : xs.length = ys.length := by
  obtain ⟨A, cap, rfl, _⟩ := h
  obtain ⟨A', cap', e, _⟩ := k
  simp only [Value.slice.injEq] at e
  exact e.2.1
set_option maxRecDepth 100000 in
theorem use_any (w : World) (base : Nat) (sv va : Value) (l : List Nat) (al : List ArgD) (hs : SetR w base sv l) (ha : SlR w 2 ArgR va al) (hd : al = [] ∨ va.ownBlock ≠ sv.ownBlock) :
    Calls Tryd.prog 68 #[sv, va] w (SetTo w base sv (useL l al)) := by
  obtain ⟨A, cap, rfl, hl1, hl2, hl3⟩ := ha
  unfold maxLen at hl2
  have HL := Lib.hid hl3
  have HS := Lib.hid hs
  have HD := Lib.hid hd
  have hlen : al.length ≤ 9223372036854775807 := by omega
  obtain ⟨n, hn⟩ : ∃ n, n = al.length := ⟨_, rfl⟩
  rw [← hn] at hlen HD ⊢
  have HN := Lib.hid hn
  clear hl1 hl2 hl3 hn hs hd
  go_enter Tryd.func68, Tryd.ntmps68
  go_wp2_with fail
  go_loopw [8] (fun i wr => ∃ k : Nat, k ≤ n ∧ i = .int .i64 k ∧ SetR wr base sv (useL l (al.take k)) ∧ w.grownBy wr sv.ownBlock) (fun i _ => n - (intOf i).toNat)
  case atStart => exact ⟨0, by omega, rfl, HS.out, grownBy_refl _ _⟩
  case round =>
    obtain ⟨k, hk, rfl, hsr, hg⟩ := hrel
    have HSr := Lib.hid hsr
    have HG := Lib.hid hg
    clear hsr hg
    by_cases hlt : k < n
    · have hlk : k < al.length := by rw [← HN.out]; exact hlt
      obtain ⟨a, ha⟩ : ∃ a, al[k]? = some a := ⟨_, List.getElem?_eq_getElem hlk⟩
      obtain ⟨lb, lo, cs, rfl, e1, e2, e3, e4, e5⟩ := HL.out k a ha
      subst e3
      have hne : some lb ≠ sv.ownBlock := by
        rcases HD.out with h | h
        · rw [h] at hlk; simp at hlk
        · exact h
      have q0 := HG.out.cell (e2 0 (by omega)) hne
      have q1 := HG.out.cell (e2 1 (by omega)) hne
      rw [Nat.add_zero] at q0
      have HT := Lib.hid (useL_take l al k a ha)
      obtain ⟨r1, r2⟩ := e4
      have hb0 := World.block_lt_of_cell? _ _ q0
      clear e1 e2 e5 hlk ha hne
      go_wp2_with fail
      have hal : Below wr.heap.size wr (wr.alloc (.cells #[.int .i64 a.reg, .int .i64 a.num] 52)) := below_alloc _ (Below.refl _ _)
      have HS2 := Lib.hid (own_kept (r := none) HSr.out (grown_of_below hal) (by cases sv.ownBlock <;> simp))
      have HG2 := Lib.hid (grown_trans HG.out (grown_of_below (r := sv.ownBlock) hal))
      clear hal
      refine (put_any _ base sv _ a.reg HS2.out r2).mono ?_
      rintro e w3 ⟨rfl, hs3, hg3⟩
      have HS3 := Lib.hid hs3
      have HG3 := Lib.hid (grown_trans HG2.out hg3)
      clear hs3 hg3 q0 q1
      go_wp2_with fail
      go_roundw
      case rel => exact ⟨k + 1, by omega, by go_num, by rw [HT.out]; exact HS3.out, HG3.out⟩
      case measure => simp [intOf]; omega
    · have e : k = n := by omega
      subst e
      go_wp2_with fail
      go_returns
      refine ⟨rfl, ?_, HG.out⟩
      have := HSr.out
      rw [HN.out, List.take_length] at this
      exact this
/-- va: the arguments, which lie in memory that is not of this set -/
theorem back_any (w : World) (base : Nat) (sv va : Value) (l : List Nat) (x : InsD) (hs : SetR w base sv l) (h0 : In64 x.op) (h1 : In64 x.dst) (h2 : In64 x.a.reg ∧ In64 x.a.num) (h3 : In64 x.b.reg ∧ In64 x.b.num) (ha : SlR w 2 ArgR va x.args)
    (hsl : x.args.length ≤ 1000000) (hd : x.args = [] ∨ va.ownBlock ≠ sv.ownBlock) :
    Calls Tryd.prog 69 #[sv, insV x va] w (SetTo w base sv (backL l x)) := by
  obtain ⟨A, cap, rfl, _⟩ := id ha
  have HA := Lib.hid ha
  have HD := Lib.hid hd
  have H0 := Lib.hid h0
  have H1 := Lib.hid h1
  have H2 := Lib.hid h2
  have H3 := Lib.hid h3
  have HSl := Lib.hid hsl
  have hal := below_alloc (.cells #[.int .i64 x.op, .int .i64 x.dst, .int .i64 x.a.reg, .int .i64 x.a.num, .int .i64 x.b.reg, .int .i64 x.b.num, .int .i64 x.size, .bool x.signed, .bool x.secret, .int .i64 x.ref, .int .i64 x.off, .slice A x.args.length cap] 74) (Below.refl w.heap.size w)
  have HAL := Lib.hid hal
  have HS1 := Lib.hid (own_kept (r := none) hs (grown_of_below hal) (by cases sv.ownBlock <;> simp))
  have HBK := Lib.hid (blk_new w (.cells #[.int .i64 x.op, .int .i64 x.dst, .int .i64 x.a.reg, .int .i64 x.a.num, .int .i64 x.b.reg, .int .i64 x.b.num, .int .i64 x.size, .bool x.signed, .bool x.secret, .int .i64 x.ref, .int .i64 x.off, .slice A x.args.length cap] 74))
  clear hs h0 h1 h2 h3 ha hsl hd hal
  go_enter Tryd.func69, Tryd.ntmps69
  go_wp2_with fail
  refine (out_any _ base sv l x.dst HS1.out H1.out.2).mono ?_
  rintro e w2 ⟨rfl, hs2, hg2⟩
  have HS2 := Lib.hid hs2
  have HG2 := Lib.hid (grown_trans (grown_of_below (r := sv.ownBlock) HAL.out) hg2)
  have HB2 := Lib.hid (blk_kept HBK.out hg2 (own_blk HS1.out.1 HBK.out (by decide)))
  obtain ⟨ob, hob⟩ : ∃ ob, ob = w.heap.size := ⟨_, rfl⟩
  rw [← hob] at HB2 ⊢
  have c0 : w2.cell? ⟨ob, 0, none⟩ = some (.int .i64 x.op) := blk_cell HB2.out rfl
  have c1 : w2.cell? ⟨ob, 1, none⟩ = some (.int .i64 x.dst) := blk_cell HB2.out rfl
  have c2 : w2.cell? ⟨ob, 2, none⟩ = some (.int .i64 x.a.reg) := blk_cell HB2.out rfl
  have c3 : w2.cell? ⟨ob, 3, none⟩ = some (.int .i64 x.a.num) := blk_cell HB2.out rfl
  have c4 : w2.cell? ⟨ob, 4, none⟩ = some (.int .i64 x.b.reg) := blk_cell HB2.out rfl
  have c5 : w2.cell? ⟨ob, 5, none⟩ = some (.int .i64 x.b.num) := blk_cell HB2.out rfl
  have c6 : w2.cell? ⟨ob, 6, none⟩ = some (.int .i64 x.size) := blk_cell HB2.out rfl
  have c7 : w2.cell? ⟨ob, 7, none⟩ = some (.bool x.signed) := blk_cell HB2.out rfl
  have c8 : w2.cell? ⟨ob, 8, none⟩ = some (.bool x.secret) := blk_cell HB2.out rfl
  have c9 : w2.cell? ⟨ob, 9, none⟩ = some (.int .i64 x.ref) := blk_cell HB2.out rfl
  have c10 : w2.cell? ⟨ob, 10, none⟩ = some (.int .i64 x.off) := blk_cell HB2.out rfl
  have c11 : w2.cell? ⟨ob, 11, none⟩ = some (.slice A x.args.length cap) := blk_cell HB2.out rfl
  have HA2 := Lib.hid ((HA.out.later (by decide) HAL.out).grown hg2 HD.out)
  clear hs2 hg2 hob
  go_wp2_with fail
  refine (ireads_new _ x _ H0.out H2.out H3.out HA2.out HSl.out).mono ?_
  rintro e w3 ⟨v, rfl, hv, hb3, how⟩
  have HS3 := Lib.hid (own_kept (r := none) HS2.out (grown_of_below hb3) (by cases sv.ownBlock <;> simp))
  have HG3 := Lib.hid (grown_trans HG2.out (grown_of_below (r := sv.ownBlock) hb3))
  have HV := Lib.hid hv
  have HDv := Lib.hid (show readsD x = [] ∨ v.ownBlock ≠ sv.ownBlock by
    rcases how with rfl | ⟨B, n, xs, ho⟩
    · rcases HD.out with h | h
      · left
        have := hv.len_eq HA2.out
        rw [h] at this
        exact List.length_eq_zero_iff.1 (by simpa using this)
      · exact Or.inr h
    · rcases own_ne ho HS3.out.1 (by decide) with h | h
      · exact Or.inl (hv.nil_of h)
      · exact Or.inr h)
  clear c0 c1 c2 c3 c4 c5 c6 c7 c8 c9 c10 c11 hv hb3 how
  go_wp2_with fail
  refine (use_any _ base sv v _ _ HS3.out HV.out HDv.out).mono ?_
  rintro e w4 ⟨rfl, hs4, hg4⟩
  have HS4 := Lib.hid hs4
  have HG4 := Lib.hid (grown_trans HG3.out hg4)
  clear hs4 hg4
  go_wp2_with fail
  go_returns
  exact ⟨rfl, HS4.out, HG4.out⟩
end Go.Proofs.YtbogcompeefoaaaDoor
namespace Go.Proofs.YtbogcompeefoaaaDoor
open Go.RowKit
set_option linter.unusedVariables false
set_option maxHeartbeats 1000000
/-- two rows of sets: beginnings (the first n of vs), ends (the others) -/
structure LS (W0 w : World) (B n m : Nat) (iv ov : Value) (vs : List Value) (I O : Nat → List Nat) : Prop where
  ri : w.ownsRow B 103 1 iv n (vs.take n)
  ro : w.ownsRow B 103 1 ov n (vs.drop n)
  dd : iv.ownBlock = none ∨ iv.ownBlock ≠ ov.ownBlock
  len : vs.length = 2 * n
  si : ∀ i, i < m → ∃ v : Value, vs[i]? = some v ∧ SetR w B v (I i)
  so : ∀ i, i < m → ∃ v : Value, vs[n + i]? = some v ∧ SetR w B v (O i)
  rest : ∀ i, m ≤ i → i < n → vs[i]? = some (.slice none 0 0) ∧ vs[n + i]? = some (.slice none 0 0)
  ap : ∀ (a b : Nat) (u v : Value), a ≠ b → vs[a]? = some u → vs[b]? = some v → u.ownBlock = none ∨ u.ownBlock ≠ v.ownBlock
  below : Below B W0 w
section
variable {W0 w w' : World} {B n m : Nat} {iv ov : Value} {vs : List Value} {I O : Nat → List Nat}
theorem set_below {w w' : World} {base : Nat} {v : Value} {l : List Nat} (h : SetR w base v l) (hb : Below w.heap.size w w') : SetR w' base v l :=
  own_kept (r := none) h (grown_of_below hb) (by cases v.ownBlock <;> simp)
theorem LS.more (h : LS W0 w B n m iv ov vs I O) (hB : B ≤ W0.heap.size) (hb : Below w.heap.size w w') : LS W0 w' B n m iv ov vs I O :=
  ⟨own_below h.ri hb, own_below h.ro hb, h.dd, h.len, fun i hi => let ⟨v, h1, h2⟩ := h.si i hi; ⟨v, h1, set_below h2 hb⟩, fun i hi => let ⟨v, h1, h2⟩ := h.so i hi; ⟨v, h1, set_below h2 hb⟩, h.rest, h.ap, h.below.trans (hb.mono (Nat.le_trans hB h.below.size))⟩
theorem LS.outSet (h : LS W0 w B n n iv ov vs I O) (hB : B ≤ W0.heap.size) {i : Nat} (hi : i < n) {v : Value} (hv : vs[n + i]? = some v) {l : List Nat} (h1 : SetR w' B v l) (h2 : w.grownBy w' v.ownBlock) : LS W0 w' B n n iv ov vs I (updL O i l) := by
  obtain ⟨v0, e0, hs⟩ := h.so i hi
  rw [hv] at e0
  obtain rfl := Option.some.inj e0
  refine ⟨h.ri.kept h2 (own_ne h.ri hs.1 (by decide)), h.ro.kept h2 (own_ne h.ro hs.1 (by decide)), h.dd, h.len, fun j hj => ?_, fun j hj => ?_, h.rest, h.ap, below_of_grown h.below hB h2 (fun k hk => (hs.1.lt k hk).1)⟩
  · obtain ⟨u, e, hu⟩ := h.si j hj
    exact ⟨u, e, own_kept hu h2 (h.ap j (n + i) u v (by omega) e hv)⟩
  · by_cases e : j = i
    · subst e; exact ⟨v, hv, by rw [updL_same]; exact h1⟩
    · obtain ⟨u, e2, hu⟩ := h.so j hj
      exact ⟨u, e2, by rw [updL_other _ _ e]; exact own_kept hu h2 (h.ap (n + j) (n + i) u v (by omega) e2 hv)⟩
theorem LS.inSet (h : LS W0 w B n n iv ov vs I O) (hB : B ≤ W0.heap.size) {i : Nat} (hi : i < n) {v : Value} (hv : vs[i]? = some v) {l : List Nat} (h1 : SetR w' B v l) (h2 : w.grownBy w' v.ownBlock) : LS W0 w' B n n iv ov vs (updL I i l) O := by
  obtain ⟨v0, e0, hs⟩ := h.si i hi
  rw [hv] at e0
  obtain rfl := Option.some.inj e0
  refine ⟨h.ri.kept h2 (own_ne h.ri hs.1 (by decide)), h.ro.kept h2 (own_ne h.ro hs.1 (by decide)), h.dd, h.len, fun j hj => ?_, fun j hj => ?_, h.rest, h.ap, below_of_grown h.below hB h2 (fun k hk => (hs.1.lt k hk).1)⟩
  · by_cases e : j = i
    · subst e; exact ⟨v, hv, by rw [updL_same]; exact h1⟩
    · obtain ⟨u, e2, hu⟩ := h.si j hj
      exact ⟨u, e2, by rw [updL_other _ _ e]; exact own_kept hu h2 (h.ap j i u v e e2 hv)⟩
  · obtain ⟨u, e, hu⟩ := h.so j hj
    exact ⟨u, e, own_kept hu h2 (h.ap (n + j) i u v (by omega) e hv)⟩
theorem row_cell {w : World} {B n g cap j : Nat} {T : TypeId} {xs : List Value} (h : w.ownsRow B T 1 (.slice (some ⟨g, 0, none⟩) n cap) n xs) (hj : j < n) {v : Value} (hv : xs[j]? = some v) : w.cell? ⟨g, j, none⟩ = some v ∧ w.frozen? ⟨g, j, none⟩ = false ∧ g < w.heap.size :=
  ⟨(h.cellAt j (by omega)).trans hv, h.frozenAt j, (h.lt g rfl).2⟩
theorem LS.cellI {g cap k : Nat} {v : Value} (h : LS W0 w B n m (.slice (some ⟨g, 0, none⟩) n cap) ov vs I O) (hk : k < n) (hv : vs[k]? = some v) : w.cell? ⟨g, k, none⟩ = some v ∧ w.frozen? ⟨g, k, none⟩ = false ∧ g < w.heap.size :=
  row_cell h.ri hk (by rw [List.getElem?_take, if_pos hk]; exact hv)
theorem LS.cellO {g cap k : Nat} {v : Value} (h : LS W0 w B n m iv (.slice (some ⟨g, 0, none⟩) n cap) vs I O) (hk : k < n) (hv : vs[n + k]? = some v) : w.cell? ⟨g, k, none⟩ = some v ∧ w.frozen? ⟨g, k, none⟩ = false ∧ g < w.heap.size :=
  row_cell h.ro hk (by rw [List.getElem?_drop]; exact hv)
theorem Tryd.infoSet : (Tryd.prog.info? 103).map (fun i => (i.zero, i.size, i.bytes)) = some (some (.slice none 0 0), 1, 24) := by kernel_rfl
theorem make_sets (w : World) (n : Nat) (hn : n ≤ 1000000) : ∃ w2, (Instr.makeSlice 100 (.int .i64 (n : Nat)) (.int .i64 (n : Nat))).run Tryd.prog w = .ok (.slice (some ⟨w.heap.size, 0, none⟩) n n) w2 ∧ w2.ownsRow w.heap.size 103 1 (.slice (some ⟨w.heap.size, 0, none⟩) n n) n (List.replicate n (.slice none 0 0)) ∧ Below w.heap.size w w2 := by
  obtain ⟨i0, hi, hz0, hz1, hz2⟩ := info_parts Tryd.infoSet
  obtain ⟨w2, hr, hown, hg⟩ := run_make_full (P := Tryd.prog) w w.heap.size 100 103 i0 (.slice none 0 0) 1 Tryd.underlying100 hi hz0 hz1 .i64 .i64 n (by rw [hz2]; omega) (by unfold maxLen; omega) (Nat.le_refl _)
  rw [show (Value.slice none 0 0).cells = #[.slice none 0 0] from rfl, Nat.mul_one, toList_madeCells_one] at hown
  exact ⟨w2, hr, hown, below_grown hg⟩
/-- both rows made, one behind the other -/
theorem LS.start {w1 w2 : World} {n : Nat} {v1 v2 : Value} (h1 : w1.ownsRow w.heap.size 103 1 v1 n (List.replicate n (.slice none 0 0))) (b1 : Below w.heap.size w w1)
    (h2 : w2.ownsRow w1.heap.size 103 1 v2 n (List.replicate n (.slice none 0 0))) (b2 : Below w1.heap.size w1 w2) (I O : Nat → List Nat) :
    LS w w2 w.heap.size n 0 v1 v2 (List.replicate (2 * n) (.slice none 0 0)) I O ∧ LS w w2 w.heap.size n 0 v2 v1 (List.replicate (2 * n) (.slice none 0 0)) I O := by
  have e1 : (List.replicate (2 * n) (Value.slice none 0 0)).take n = List.replicate n (.slice none 0 0) := by rw [List.take_replicate]; congr 1; omega
  have e2 : (List.replicate (2 * n) (Value.slice none 0 0)).drop n = List.replicate n (.slice none 0 0) := by rw [List.drop_replicate]; congr 1; omega
  have d : v1.ownBlock = none ∨ v1.ownBlock ≠ v2.ownBlock := by
    cases e : v1.ownBlock with
    | none => exact Or.inl rfl
    | some g => exact Or.inr (fun e2 => by have := (h1.lt g e).2; have := (h2.lt g e2.symm).1; omega)
  have a : ∀ (a b : Nat) (u v : Value), a ≠ b → (List.replicate (2 * n) (Value.slice none 0 0))[a]? = some u → (List.replicate (2 * n) (Value.slice none 0 0))[b]? = some v → u.ownBlock = none ∨ u.ownBlock ≠ v.ownBlock := by
    intro a b u v _ hu _
    have := List.eq_of_mem_replicate (List.mem_of_getElem? hu)
    subst this
    exact Or.inl rfl
  have r : ∀ i, 0 ≤ i → i < n → (List.replicate (2 * n) (Value.slice none 0 0))[i]? = some (.slice none 0 0) ∧ (List.replicate (2 * n) (Value.slice none 0 0))[n + i]? = some (.slice none 0 0) := fun i _ hi => by
    rw [List.getElem?_replicate, List.getElem?_replicate, if_pos (by omega), if_pos (by omega)]; exact ⟨rfl, rfl⟩
  have h1' := own_below h1 b2
  have h2' := own_base h2 b1.size
  exact ⟨⟨by rw [e1]; exact h1', by rw [e2]; exact h2', d, by simp, fun i hi => by omega, fun i hi => by omega, r, a, b1.bt b2⟩, ⟨by rw [e1]; exact h2', by rw [e2]; exact h1', apart_symm d, by simp, fun i hi => by omega, fun i hi => by omega, r, a, b1.bt b2⟩⟩
theorem LS.lt (h : LS W0 w B n m iv ov vs I O) : ∀ (a : Nat) (v : Value), vs[a]? = some v → ∀ g, v.ownBlock = some g → g < w.heap.size := by
  intro a v hv g hg
  have ha : a < 2 * n := by have := (List.getElem?_eq_some_iff.1 hv).1; have := h.len; omega
  by_cases h1 : a < n
  · by_cases h2 : a < m
    · obtain ⟨u, e, hu⟩ := h.si a h2
      rw [hv] at e
      obtain rfl := Option.some.inj e
      exact (hu.1.lt g hg).2
    · have := (h.rest a (by omega) h1).1
      rw [hv] at this
      obtain rfl := Option.some.inj this
      cases hg
  · obtain ⟨b, rfl⟩ : ∃ b, a = n + b := ⟨a - n, by omega⟩
    by_cases h2 : b < m
    · obtain ⟨u, e, hu⟩ := h.so b h2
      rw [hv] at e
      obtain rfl := Option.some.inj e
      exact (hu.1.lt g hg).2
    · have := (h.rest b (by omega) (by omega)).2
      rw [hv] at this
      obtain rfl := Option.some.inj this
      cases hg
theorem LS.fill {gi go ci co : Nat} {v1 v2 : Value} {l1 l2 : List Nat} {w2 : World} (h : LS W0 w B n m (.slice (some ⟨gi, 0, none⟩) n ci) (.slice (some ⟨go, 0, none⟩) n co) vs I O) (hB : B ≤ W0.heap.size) (hm : m < n)
    (s1 : SetR w2 w.heap.size v1 l1) (s2 : SetR w2 w.heap.size v2 l2) (d : v1.ownBlock = none ∨ v1.ownBlock ≠ v2.ownBlock) (b : Below w.heap.size w w2) :
    LS W0 ((w2.setCell ⟨gi, m, none⟩ v1).setCell ⟨go, m, none⟩ v2) B n (m + 1) (.slice (some ⟨gi, 0, none⟩) n ci) (.slice (some ⟨go, 0, none⟩) n co) ((vs.set m v1).set (n + m) v2) (updL I m l1) (updL O m l2) := by
  have h2 := h.more hB b
  have hne : gi ≠ go := by
    rcases h.dd with e | e
    · cases e
    · exact fun e2 => e (by rw [e2]; rfl)
  have hBw : B ≤ w.heap.size := Nat.le_trans hB h.below.size
  obtain ⟨i1, i2⟩ := h2.ri.stored m v1
  have ho1 := h2.ro.kept i2 (by rcases h.dd with e | e; cases e; exact Or.inr (fun e2 => e e2.symm))
  obtain ⟨o1, o2⟩ := ho1.stored m v2
  have hi2 := i1.kept o2 h.dd
  have hlen := h.len
  have et : ((vs.set m v1).set (n + m) v2).take n = (vs.take n).set m v1 := by rw [List.take_set, List.take_set, List.set_eq_of_length_le (by simp; omega)]
  have ed : ((vs.set m v1).set (n + m) v2).drop n = (vs.drop n).set m v2 := by rw [List.drop_set, if_neg (by omega), List.drop_set, if_pos hm]; congr 1; omega
  have keep : ∀ {v : Value} {l : List Nat} {B2 : Nat}, SetR w2 B2 v l → SetR ((w2.setCell ⟨gi, m, none⟩ v1).setCell ⟨go, m, none⟩ v2) B2 v l := by
    intro v l B2 hs
    have k1 := own_kept hs i2 (own_ne hs.1 h2.ri (by decide))
    exact own_kept k1 o2 (own_ne k1.1 ho1 (by decide))
  have at1 : ((vs.set m v1).set (n + m) v2)[m]? = some v1 := by rw [List.getElem?_set_ne (by omega), List.getElem?_set_self (by omega)]
  have at2 : ((vs.set m v1).set (n + m) v2)[n + m]? = some v2 := by rw [List.getElem?_set_self (by simp; omega)]
  have at3 : ∀ j, j ≠ m → j ≠ n + m → ((vs.set m v1).set (n + m) v2)[j]? = vs[j]? := fun j h1 h2 => by rw [List.getElem?_set_ne (Ne.symm h2), List.getElem?_set_ne (Ne.symm h1)]
  refine ⟨by rw [et]; exact hi2, by rw [ed]; exact o1, h.dd, by simp [hlen], fun j hj => ?_, fun j hj => ?_, fun j h1 h2 => ?_, ?_, ?_⟩
  · by_cases e : j = m
    · subst e; exact ⟨v1, at1, by rw [updL_same]; exact keep ⟨own_base s1.1 hBw, s1.2⟩⟩
    · obtain ⟨u, e2, hu⟩ := h2.si j (by omega)
      exact ⟨u, by rw [at3 j e (by omega)]; exact e2, by rw [updL_other _ _ e]; exact keep hu⟩
  · by_cases e : j = m
    · subst e; exact ⟨v2, at2, by rw [updL_same]; exact keep ⟨own_base s2.1 hBw, s2.2⟩⟩
    · obtain ⟨u, e2, hu⟩ := h2.so j (by omega)
      exact ⟨u, by rw [at3 (n + j) (by omega) (by omega)]; exact e2, by rw [updL_other _ _ e]; exact keep hu⟩
  · have := h.rest j (by omega) h2
    rw [at3 j (by omega) (by omega), at3 (n + j) (by omega) (by omega)]
    exact this
  · have old : ∀ {x u : Value} {a : Nat} {l : List Nat}, SetR w2 w.heap.size x l → vs[a]? = some u → x.ownBlock = none ∨ x.ownBlock ≠ u.ownBlock := by
      intro x u a l hx hu
      cases e : x.ownBlock with
      | none => exact Or.inl rfl
      | some g => exact Or.inr (fun e2 => by have := (hx.1.lt g e).1; have := h.lt a u hu g e2.symm; omega)
    intro a c u v hac hu hv
    by_cases a1 : a = m
    · subst a1
      rw [at1] at hu
      obtain rfl := Option.some.inj hu
      by_cases c2 : c = n + a
      · subst c2
        rw [at2] at hv
        obtain rfl := Option.some.inj hv
        exact d
      · rw [at3 c (Ne.symm hac) c2] at hv
        exact old s1 hv
    · by_cases a2 : a = n + m
      · subst a2
        rw [at2] at hu
        obtain rfl := Option.some.inj hu
        by_cases c1 : c = m
        · subst c1
          rw [at1] at hv
          obtain rfl := Option.some.inj hv
          exact apart_symm d
        · rw [at3 c c1 (Ne.symm hac)] at hv
          exact old s2 hv
      · rw [at3 a a1 a2] at hu
        by_cases c1 : c = m
        · subst c1
          rw [at1] at hv
          obtain rfl := Option.some.inj hv
          exact apart_symm (old s1 hu)
        · by_cases c2 : c = n + m
          · subst c2
            rw [at2] at hv
            obtain rfl := Option.some.inj hv
            exact apart_symm (old s2 hu)
          · rw [at3 c c1 c2] at hv
            exact h.ap a c u v hac hu hv
  · exact below_of_grown (below_of_grown h2.below hB i2 (fun k hk => (h2.ri.lt k hk).1)) hB o2 (fun k hk => (h2.ro.lt k hk).1)
end
end Go.Proofs.YtbogcompeefoaaaDoor
