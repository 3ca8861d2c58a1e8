/- pick.Func: what lies beside the lines; one slot more; a block's end by kinds; what an instruction brings. No condition. -/
import Derived.Test.YtbogcompeefoaaaDoorPlW
import Derived.Test.YtbogcompeefoaaaDoorPlB
import Derived.Test.YtbogcompeefoaaaDoorPg
import Derived.Deep.MidRow
import Derived.Test.YtbogcompeefoaaaDoorQi
import Derived.Test.YtbogcompeefoaaaDoorLt
namespace Go.Proofs.YtbogcompeefoaaaDoor
open Go.RowKit
set_option linter.unusedVariables false
set_option maxHeartbeats 4000000
theorem SlR.imp' {α : Type} {w : World} {C : Nat} {R R' : List Value → α → Prop} {v : Value} {xs : List α} (h : SlR w C R v xs) (hi : ∀ cs x, R cs x → R' cs x) : SlR w C R' v xs := by
  obtain ⟨A, cap, rfl, h2, h3, h4⟩ := h
  refine ⟨A, cap, rfl, h2, h3, fun i x hx => ?_⟩
  obtain ⟨b, o, cs, e1, e2, e3, e4⟩ := h4 i x hx
  exact ⟨b, o, cs, e1, e2, e3, hi _ _ e4⟩
theorem InsR.later {w w' : World} {cs : List Value} {x : InsD} (h : InsR w cs x) (hb : Below w.heap.size w w') : InsR w' cs x := by
  obtain ⟨va, h0, h1, h2, h3, h4, h5, h6, h7, h8, h9, h10, h11⟩ := h
  exact ⟨va, h0, h1, h2, h3, h4, h5, h6, h7, h8, h9, h10.later (by decide) hb, h11⟩
theorem BlockR.later {w w' : World} {cs : List Value} {x : BlockD} (h : BlockR w cs x) (hb : Below w.heap.size w w') : BlockR w' cs x := by
  obtain ⟨vi, h0, h1, h2⟩ := h
  exact ⟨vi, h0, (h1.later (by decide) hb).imp' (fun cs x h => InsR.later h hb), h2⟩
theorem FuncR.later {w w' : World} {cs : List Value} {x : FuncD} (h : FuncR w cs x) (hb : Below w.heap.size w w') : FuncR w' cs x := by
  obtain ⟨vs, vl, vb, h0, h1, h2, h3, h4, h5, h6, h7, h8, h9⟩ := h
  exact ⟨vs, vl, vb, h0, h1, h2, h3.later (by decide) hb, h4, h5, h6.later (by decide) hb, h7, (h8.later (by decide) hb).imp' (fun cs x h => BlockR.later h hb), h9⟩
theorem PartR.later {w w' : World} {cs : List Value} {x : PartD} (h : PartR w cs x) (hb : Below w.heap.size w w') : PartR w' cs x := by
  obtain ⟨vd, h0, h1, h2, h3, h4⟩ := h
  exact ⟨vd, h0, h1, h2.later (by decide) hb, h3, h4⟩
theorem GlobR.later {w w' : World} {cs : List Value} {x : GlobD} (h : GlobR w cs x) (hb : Below w.heap.size w w') : GlobR w' cs x := by
  obtain ⟨vp, h0, h1, h2, h3, h4, h5⟩ := h
  exact ⟨vp, h0, h1, h2, h3, (h4.later (by decide) hb).imp' (fun cs x h => PartR.later h hb), h5⟩
theorem TabP.later {w w' : World} (h : TabP w) (hb : Below w.heap.size w w') : TabP w' :=
  ⟨fun i x hi => Go.Proofs.YtbogcompeefoaaaDoor.later (h.1 i x hi) hb, fun i x hi => Go.Proofs.YtbogcompeefoaaaDoor.later (h.2 i x hi) hb⟩
/-- a program in memory, with the tables -/
structure PIn (w : World) (p : ProgD) (pb : Nat) : Prop where
  fn : ∃ v, w.cell? ⟨pb, 0, none⟩ = some v ∧ SlR w 6 (FuncR w) v p.funcs
  gl : ∃ v, w.cell? ⟨pb, 1, none⟩ = some v ∧ SlR w 4 (GlobR w) v p.globals
  tab : TabP w
  pow : PowOk w
theorem PIn.later {w w' : World} {p : ProgD} {pb : Nat} (h : PIn w p pb) (hb : Below w.heap.size w w') : PIn w' p pb := by
  obtain ⟨⟨v, h1, h2⟩, ⟨u, h3, h4⟩, h5, h6⟩ := h
  exact ⟨⟨v, Go.Proofs.YtbogcompeefoaaaDoor.later h1 hb, (h2.later (by decide) hb).imp' (fun cs x h => FuncR.later h hb)⟩, ⟨u, Go.Proofs.YtbogcompeefoaaaDoor.later h3 hb, (h4.later (by decide) hb).imp' (fun cs x h => GlobR.later h hb)⟩, h5.later hb, h6.below hb⟩
/-- a program that was let pass -/
structure POk (p : ProgD) : Prop where
  lf : p.funcs.length ≤ 20
  lg : p.globals.length ≤ 20
  po : ProgOk p
  fl : ∀ f ∈ p.funcs, FuncL f
  nf : ∀ f ∈ p.funcs, f.name.size ≤ 140737488355328
  ng : ∀ f ∈ p.globals, f.name.size ≤ 140737488355328
/-- blocks of other types stand, rows of int64 aside -/
def KeptP (w w' : World) : Prop := w.heap.size ≤ w'.heap.size ∧ ∀ (b : Nat) (cs : Array Value) (T : TypeId) (fr : Nat × Nat), w.heap[b]? = some (.cells cs T fr) → T ≠ 46 → T ≠ 85 → T ≠ 2 → w'.heap[b]? = some (.cells cs T fr)
theorem KeptP.refl (w : World) : KeptP w w := ⟨Nat.le_refl _, fun _ _ _ _ h _ _ _ => h⟩
theorem KeptP.trans {w w1 w2 : World} (h : KeptP w w1) (k : KeptP w1 w2) : KeptP w w2 := ⟨Nat.le_trans h.1 k.1, fun b cs T fr hb h1 h2 h3 => k.2 b cs T fr (h.2 b cs T fr hb h1 h2 h3) h1 h2 h3⟩
theorem KeptL.p {w w1 : World} (h : KeptL w w1) : KeptP w w1 := ⟨h.1, fun b cs T fr hb h1 h2 _ => h.2 b cs T fr hb h1 h2⟩
theorem KeptP.own {w w' : World} (h : KeptP w w') {B C n : Nat} {T : TypeId} {v : Value} {xs : List Value} (ho : w.ownsRow B T C v n xs) (h1 : T ≠ 46) (h2 : T ≠ 85) (h3 : T ≠ 2) : w'.ownsRow B T C v n xs :=
  ⟨ho.1, by
    rcases ho.2 with e | ⟨g, cap, cur, e1, e2, e3, e4⟩
    · exact Or.inl e
    · exact Or.inr ⟨g, cap, cur, e1, e2, h.2 _ _ _ _ e3 h1 h2 h3, e4⟩⟩
theorem RowsB.base {w : World} {B B' : Nat} {v2 : Value} {xs : List Value} {bs : List (List Bool)} (h : RowsB w B v2 xs bs) (hB : B' ≤ B) : RowsB w B' v2 xs bs := ⟨h.len, fun q l hq => let ⟨v, h1, h2, h3⟩ := h.row q l hq; ⟨v, h1, own_base h2 hB, h3⟩⟩
/-- the marks of a function's blocks -/
def MarkR (B : Nat) (k : PK) (f : FuncD) (w : World) : Prop :=
  ∃ (xs : List Value) (es : List Bool) (bs : List (List Bool)), w.ownsRow B 36 1 k.mi f.blocks.length xs ∧ w.ownsRow B 4 1 k.me f.blocks.length (es.map Value.bool) ∧ RowsB w B k.me xs bs ∧ ∀ q, q < f.blocks.length → ∃ l, bs[q]? = some l ∧ l.length = (blkF f q).ins.length
theorem MarkR.kept {B : Nat} {k k' : PK} {f : FuncD} {w w' : World} (h : MarkR B k f w) (hk : KeptP w w') (h1 : k'.mi = k.mi) (h2 : k'.me = k.me) : MarkR B k' f w' := by
  obtain ⟨xs, es, bs, a, b, c, d⟩ := h
  refine ⟨xs, es, bs, ?_, ?_, ?_, d⟩
  · rw [h1]; exact hk.own a (by decide) (by decide) (by decide)
  · rw [h2]; exact hk.own b (by decide) (by decide) (by decide)
  · rw [h2]; exact c.step (fun q l v g1 g2 => ⟨hk.own g1 (by decide) (by decide) (by decide), g2⟩)
/-- one mark -/
theorem MarkR.cell {B : Nat} {k : PK} {f : FuncD} {w : World} (h : MarkR B k f w) {i j : Nat} (hi : i < f.blocks.length) (hj : j < (blkF f i).ins.length) :
    ∃ gm mc gr rn rc b, k.mi = .slice (some ⟨gm, 0, none⟩) f.blocks.length mc ∧ w.cell? ⟨gm, i, none⟩ = some (.slice (some ⟨gr, 0, none⟩) rn rc) ∧ rn = (blkF f i).ins.length ∧ w.cell? ⟨gr, j, none⟩ = some (.bool b) := by
  obtain ⟨xs, es, bs, a, _, c, d⟩ := h
  obtain ⟨gm, mc, e, _, _, _, _⟩ := own_form a (by omega)
  obtain ⟨l, hl, hl2⟩ := d i hi
  obtain ⟨v, hv, hr, _⟩ := c.row i l hl
  obtain ⟨gr, rc, e2, _, _, _, _⟩ := own_form hr (by omega)
  rw [e] at a
  subst e2
  obtain ⟨b, hb⟩ : ∃ b, l[j]? = some b := ⟨_, List.getElem?_eq_getElem (by omega)⟩
  refine ⟨gm, mc, gr, _, rc, b, e, ?_, hl2, ?_⟩
  · rw [a.cellAt i (by omega)]; exact hv
  · rw [hr.cellAt j (by omega), List.getElem?_map, hb]; rfl
/-- the picker's box: cells that say nothing of rows are stored -/
theorem PS.setK {W0 : World} {gk : Nat} {k k' : PK} {pl sl : List Int} {ls : List LineD} {w : World} (h : PS W0 gk k pl sl ls w) (j : Nat) (v : Value) (hc : ∀ out, (k.cs out).setIfInBounds j v = k'.cs out) (hp : k'.place = k.place) (hs : k'.slots = k.slots) :
    PS W0 gk k' pl sl ls (w.setCell ⟨gk, j, none⟩ v) ∧ KeptP w (w.setCell ⟨gk, j, none⟩ v) := by
  obtain ⟨h1, h2, ⟨A, c, h3, h4⟩, h5, h6⟩ := h
  have hg := grown_set w gk j v
  refine ⟨⟨below_set h1 _ _ _ h2, h2, ⟨A, c, ?_, h4.kept hg (own_blk h4 h3 (by decide))⟩, ?_, ?_⟩, hg.size, fun b cs T fr hb h7 h8 h9 => ?_⟩
  · rw [← hc]; exact blk_setCell h3 v
  · rw [hp]; exact h5.kept hg (own_blk h5 h3 (by decide))
  · rw [hs]; exact h6.kept hg (own_blk h6 h3 (by decide))
  · refine (hg.block b (blk_lt hb) (fun e => ?_)).trans hb
    have e2 := Option.some.inj e
    subst e2
    rw [h3] at hb
    simp only [Option.some.injEq, Obj.cells.injEq] at hb
    exact h8 hb.2.1.symm
theorem Tryd.infoI64 : (Tryd.prog.info? 2).map (fun i => (i.zero, i.size, i.bytes)) = some (some (.int .i64 0), 1, 8) := by kernel_rfl
/-- one slot more -/
theorem PS.slotPush {W0 : World} {gk : Nat} {k : PK} {pl sl : List Int} {ls : List LineD} {w : World} (h : PS W0 gk k pl sl ls w) (x : Int) (hl : sl.length ≤ 1000000) :
    ∃ A' c' w', (Builtin.append_ #[83, 83] 83 #[k.slots, .slice (some ⟨w.heap.size, 0, none⟩) 1 1]).run Tryd.prog (w.alloc (.cells #[.int .i64 x] 2)) = .ok (.slice A' (sl.length + 1) c') w' ∧
      (∃ Ab cb, w'.heap[gk]? = some (.cells (k.cs (.slice Ab ls.length cb)) 85 (0, 0))) ∧ PS W0 gk { k with slots := .slice A' (sl.length + 1) c' } pl (sl ++ [x]) ls (w'.setCell ⟨gk, 8, none⟩ (.slice A' (sl.length + 1) c')) ∧ KeptP w (w'.setCell ⟨gk, 8, none⟩ (.slice A' (sl.length + 1) c')) := by
  obtain ⟨h1, h2, ⟨A, c, h3, h4⟩, h5, h6⟩ := h
  obtain ⟨i0, hi, hz0, hz1, hz2⟩ := info_parts Tryd.infoI64
  obtain ⟨v', w', r1, r2, r3, r4⟩ := append_one (P := Tryd.prog) (w := w) W0.heap.size 83 2 i0 _ 8 Tryd.underlying83 hi hz0 hz1 hz2 rfl k.slots sl.length (ivL sl) h6 (.int .i64 x) _ rfl rfl (by unfold maxLen; omega) (by omega) h1.size
  obtain ⟨A', c', rfl, _⟩ := own_slice r2
  have hm := blk_kept h3 r3 (own_blk h6 h3 (by decide))
  have hg := grown_set w' gk 8 (.slice A' (sl.length + 1) c')
  have kbel := below_of_grown h1 (Nat.le_refl _) r3 (fun j hj => (h6.lt j hj).1)
  have h4' := h4.kept r3 (own_ne h4 h6 (by decide))
  have h5' := h5.kept r3 (own_ne h5 h6 (by decide))
  refine ⟨A', c', w', r1, ⟨_, _, hm⟩, ⟨below_set kbel _ _ _ h2, h2, ⟨A, c, ?_, h4'.kept hg (own_blk h4' hm (by decide))⟩, h5'.kept hg (own_blk h5' hm (by decide)), ?_⟩, Nat.le_trans r3.size hg.size, fun b cs T fr hb h7 h8 h9 => ?_⟩
  · exact blk_setCell hm _
  · rw [List.length_append, List.length_singleton, show ivL (sl ++ [x]) = ivL sl ++ [.int .i64 x] by simp [ivL]]
    exact r2.kept hg (own_blk r2 hm (by decide))
  · have hb4 := blk_kept hb r3 (own_blk h6 hb (fun e => h9 e.symm))
    refine (hg.block b (blk_lt hb4) (fun e => ?_)).trans hb4
    have e2 := Option.some.inj e
    subst e2
    rw [hm] at hb4
    simp only [Option.some.injEq, Obj.cells.injEq] at hb4
    exact h8 hb4.2.1.symm
theorem digit_val {a : Nat} (h : a < 10) : (UInt8.ofNat (48 + a)).toNat = 48 + a := by
  rw [UInt8.toNat_ofNat']; omega
def undec (l : List UInt8) : Nat := l.foldl (fun a c => a * 10 + (c.toNat - 48)) 0
theorem undec_dec : ∀ u : Nat, undec (Lib.decDigits u) = u := by
  intro u
  induction u using Nat.strongRecOn with
  | ind u ih =>
    rw [Lib.decDigits]
    split
    · rename_i h
      simp only [undec, List.foldl_cons, List.foldl_nil, digit_val h]; omega
    · rename_i h
      have := ih (u / 10) (by omega)
      unfold undec at this ⊢
      rw [List.foldl_append, this]
      simp only [List.foldl_cons, List.foldl_nil, digit_val (Nat.mod_lt u (by decide))]; omega
theorem dec_chars : ∀ (u : Nat), ∀ c ∈ Lib.decDigits u, 48 ≤ c.toNat ∧ c.toNat ≤ 57 := by
  intro u
  induction u using Nat.strongRecOn with
  | ind u ih =>
    intro c hc
    rw [Lib.decDigits] at hc
    split at hc
    · rename_i h
      simp only [List.mem_singleton] at hc
      subst hc
      rw [digit_val h]; omega
    · rename_i h
      rcases List.mem_append.1 hc with hc | hc
      · exact ih (u / 10) (by omega) c hc
      · simp only [List.mem_singleton] at hc
        subst hc
        rw [digit_val (Nat.mod_lt u (by decide))]; omega
theorem dec_full (u : Nat) : Lib.decDigits u ≠ [] := by
  rw [Lib.decDigits]; split <;> simp
theorem dec_inj {u v : Nat} (h : Lib.decDigits u = Lib.decDigits v) : u = v := by
  have := congrArg undec h
  rwa [undec_dec, undec_dec] at this
theorem itoa_chars (n : Int) : ∀ c ∈ Lib.itoa n, c.toNat = 45 ∨ (48 ≤ c.toNat ∧ c.toNat ≤ 57) := by
  intro c hc
  unfold Lib.itoa at hc
  split at hc
  · rcases List.mem_cons.1 hc with rfl | hc
    · exact Or.inl rfl
    · exact Or.inr (dec_chars _ c hc)
  · exact Or.inr (dec_chars _ c hc)
theorem itoa_full (n : Int) : Lib.itoa n ≠ [] := by
  unfold Lib.itoa
  split
  · simp
  · exact dec_full _
theorem itoa_inj {m n : Int} (h : Lib.itoa m = Lib.itoa n) : m = n := by
  have key : ∀ (a b : Nat), Lib.decDigits a ≠ 45 :: Lib.decDigits b := by
    intro a b e
    have := dec_chars a 45 (by rw [e]; exact List.mem_cons_self)
    exact absurd this (by decide)
  unfold Lib.itoa at h
  split at h <;> split at h
  · simp only [List.cons.injEq, true_and] at h
    have := dec_inj h; omega
  · exact absurd h.symm (key _ _)
  · exact absurd h (key _ _)
  · have := dec_inj h; omega
theorem labB_inj {num a b : Nat} (h : labB num a = labB num b) : a = b := by
  unfold labB at h
  have := itoa_inj (List.append_cancel_left h)
  omega
/-- a whole instruction loaded -/
theorem load_ins {S : World → Prop} {op : Oper} {a : Act} (x : Operand) (ho : op.op = .load 74 x) (g : Nat) (hx : a.eval x = .pointer (some ⟨g, 0, none⟩)) (cs : List Value) (hl : cs.length = 12) (hS : ∀ w, S w → w.heap[g]? = some (.cells cs.toArray 74 (0, 0))) :
    ∀ w, S w → (execOp a.eval op).run Tryd.prog w = .ok (.value (.agg cs.toArray)) w := fun w hw => by
  have hc : w.rangeAt g 0 cs := fun j v hv => by rw [Nat.zero_add]; exact blk_cell (hS w hw) (by simpa using hv)
  have hi : (Tryd.prog.info? 74).map (·.size) = some cs.length := by rw [hl]; kernel_rfl
  unfold execOp
  simp only [ho, hx, Instr.loadAt, Instr.sureAddr, Sem.run_bind, Sem.run_pure, Result.andThen_ok, run_loadVar_mid w g 0 74 cs _ hc Tryd.underlying74 rfl hi]
/-- how the lines end -/
def EndOk (f : FuncD) (i nb : Nat) (ls : List LineD) : Prop := (0 < i → i = nb → ∃ l, ls.getLast? = some l ∧ (l.op = 33 ∨ l.op = 38)) ∧ (0 < i → (∀ b ∈ f.blocks, b.term.kind = 3) → ∃ l, ls.getLast? = some l ∧ l.op = 38)
section
variable (W0 : World) (gk : Nat) (k : PK) (pl sl : List Int)
theorem argOk_of {pl : List Int} {R : Nat} (hpl : pl.length = R) {a : ArgD} (h1 : In64 a.reg) (h2 : In64 a.num) (h : a.reg < (R : Int)) : ArgOk pl a := by
  refine ⟨h1, h2, ?_⟩
  by_cases hn : a.reg < 0
  · exact Or.inl hn
  · exact Or.inr ⟨a.reg.toNat, _, by omega, List.getElem?_eq_getElem (by omega)⟩
/-- a block's end -/
theorem end_any (hk : KOk W0 k pl) (nb n : Nat) (ls0 : List LineD) (w : World) (h : PSeg W0 gk k pl sl nb ls0 n w) (hn : n ≤ 99998000) (fb fo : Nat) (f : FuncD) (hnb : f.blocks.length = nb) (hF : FnP W0 k fb fo nb f.blocks) (i : Nat) (B : BlockD) (hB : f.blocks[i]? = some B) (hM : MarkR W0.heap.size k f w) (hT : TI nb (pl.length : Int) B.term) (h64 : In64 B.term.a.reg ∧ In64 B.term.a.num ∧ In64 B.term.b.reg ∧ In64 B.term.b.num) :
    Calls Tryd.prog 26 #[.pointer (some ⟨gk, 0, none⟩), .int .i64 (i : Nat)] w fun e w' => Ends W0 gk k pl sl nb ls0 n w (B.term.kind = 1 ∧ B.term.to_ = (i : Int) + 1) e w' ∧ (B.term.kind = 3 → PRet W0 gk k pl sl nb ls0 (n + 10) w') := by
  obtain ⟨t1, t2, t3, t4, t5⟩ := hT
  obtain ⟨i1, i2, i3, i4⟩ := h64
  have ha := argsB_all t3
  by_cases k1 : B.term.kind = 1
  · have hx := t5 B.term.to_ (by unfold nextT; rw [if_pos k1]; simp)
    exact (end_jump W0 gk k pl sl hk nb n ls0 w h hn fb fo f.blocks hF i B hB B.term rfl k1 B.term.to_.toNat (by omega) (by omega)).mono (fun e w' h => ⟨h, fun e => by omega⟩)
  · by_cases k2 : B.term.kind = 2
    · have hx := t5 B.term.to_ (by unfold nextT; rw [if_neg k1, if_pos k2]; simp)
      have hy := t5 B.term.els (by unfold nextT; rw [if_neg k1, if_pos k2]; simp)
      obtain ⟨xs, es, bs, a, b, c, d⟩ := hM
      rw [hnb] at b
      have hlen := b.1
      rw [List.length_map] at hlen
      have q1 := ha B.term.a (by unfold readsT; first | (rw [if_pos k2]; simp) | (rw [if_neg k1, if_pos k2]; simp))
      have q2 := ha B.term.b (by unfold readsT; first | (rw [if_pos k2]; simp) | (rw [if_neg k1, if_pos k2]; simp))
      refine Calls.mono ?_ (fun e w' h => ⟨h, fun e => by omega⟩)
      exact end_branch W0 gk k pl sl hk nb n ls0 w h hn fb fo f.blocks hF i B hB B.term rfl es (by omega) b k2 B.term.to_.toNat B.term.els.toNat (by omega) (by omega) (by omega) (by omega) (t4 k2) (argOk_of rfl i1 i2 q1.2) (argOk_of rfl i3 i4 q2.2)
    · have q1 := ha B.term.a (by unfold readsT; first | (rw [if_neg k2, if_pos (by omega)]; simp) | (rw [if_neg k1, if_neg k2]; simp))
      refine (end_ret W0 gk k pl sl hk nb n ls0 w h hn fb fo f.blocks hF i B hB B.term rfl k1 k2 (argOk_of rfl i1 i2 q1.2)).mono (fun e w' h => ?_)
      obtain ⟨h1, h2, h3⟩ := h
      obtain ⟨h4, s, h5, h6, h7, l, h8, h9⟩ := id h3
      exact ⟨⟨h1, h2, Or.inr ⟨h4, s, h5, h6, h7, l, h8, Or.inr h9⟩⟩, fun _ => h3⟩
theorem InsR.reads {w : World} {cs : List Value} {x : InsD} (h : InsR w cs x) : ∀ a ∈ readsD x, In64 a.reg ∧ In64 a.num := by
  obtain ⟨va, _, _, _, h3, h4, h5, h6, _, _, _, h10, _⟩ := h
  obtain ⟨A, c, _, _, _, h11⟩ := h10
  have hargs : ∀ a ∈ x.args, In64 a.reg ∧ In64 a.num := fun a ha => by
    obtain ⟨i, hi⟩ := List.mem_iff_getElem?.1 ha
    obtain ⟨_, _, _, _, _, _, _, q1, q2⟩ := h11 i a hi
    exact ⟨q1, q2⟩
  intro a ha
  unfold readsD at ha
  split at ha
  · exact hargs a ha
  split at ha
  · rcases List.mem_cons.1 ha with rfl | ha
    · exact ⟨h3, h4⟩
    · exact hargs a ha
  split at ha
  · simp only [List.mem_cons, List.not_mem_nil, or_false] at ha
    rcases ha with rfl | rfl
    · exact ⟨h3, h4⟩
    · exact ⟨h5, h6⟩
  split at ha
  · simp at ha
  · simp only [List.mem_cons, List.not_mem_nil, or_false] at ha
    subst ha
    exact ⟨h3, h4⟩
/-- what an instruction that may be brings -/
theorem OneOk.of {pl sl : List Int} {p : ProgD} {f : FuncD} {x : InsD} (hpl : f.regs = (pl.length : Int)) (hsl : sl.length = f.slots.length) (hsr : ∀ (i : Nat) (z : Int), sl[i]? = some z → 0 ≤ z ∧ z ≤ 1000000) (h : InsOk p f x) (hL : InsL x) (hp : ∀ g ∈ p.funcs, g.params ≤ 6) (h64 : ∀ a ∈ readsD x, In64 a.reg ∧ In64 a.num) : OneOk pl sl p.funcs.length p.globals.length x := by
  obtain ⟨o1, o2, o3, o4, o5, o6, o7, o8, o9, o10, o11, o12, o13⟩ := h
  obtain ⟨l1, l2, l3⟩ := hL
  have ha := argsB_all o3
  have hd : 0 ≤ x.dst → ∃ (rn : Nat) (px : Int), x.dst = (rn : Int) ∧ pl[rn]? = some px := fun h0 => ⟨x.dst.toNat, _, by omega, List.getElem?_eq_getElem (by omega)⟩
  refine ⟨⟨o1, o2⟩, fun a hm => ?_, ?_, fun hx => hd (o7 hx), fun hx => ?_, fun hx => ?_, fun hx => ?_, fun hx => ?_, ⟨by omega, by omega⟩, ?_⟩
  · have q := ha a hm
    exact argOk_of rfl (h64 a hm).1 (h64 a hm).2 (by omega)
  · by_cases h0 : 0 ≤ x.dst
    · exact Or.inr (hd h0)
    · exact Or.inl (by omega)
  · have q := o8 hx
    unfold sizedP at q
    exact q
  · have q := o9 hx
    exact ⟨x.ref.toNat, by omega, by omega⟩
  · have q := o10 hx
    obtain ⟨sv, hsv⟩ : ∃ sv, sl[x.ref.toNat]? = some sv := ⟨_, List.getElem?_eq_getElem (by omega)⟩
    have := hsr _ _ hsv
    exact ⟨x.ref.toNat, sv, by omega, hsv, by omega, by omega⟩
  · have q := o11 hx
    exact ⟨x.ref.toNat, by omega, by omega⟩
  · intro hx
    by_cases h9 : x.op = 29
    · exact o13 h9
    · have h8 : x.op = 28 := by omega
      have q := o11 (Or.inr h8)
      have e := o12 h8
      obtain ⟨g, hg⟩ : ∃ g, p.funcs[x.ref.toNat]? = some g := ⟨_, List.getElem?_eq_getElem (by omega)⟩
      have := hp g (List.mem_of_getElem? hg)
      unfold parOf at e
      rw [hg] at e
      simp only at e
      omega
end
end Go.Proofs.YtbogcompeefoaaaDoor
