/- pick: any instruction. No condition. -/
import Derived.Test.YtbogcompeefoaaaDoorPlZ
namespace Go.Proofs.YtbogcompeefoaaaDoor
open Go.RowKit
set_option linter.unusedVariables false
/-- what an instruction brings to its picker -/
structure OneOk (pl sl : List Int) (nf ng : Nat) (x : InsD) : Prop where
  op : 1 ≤ x.op ∧ x.op ≤ 30
  rd : ∀ a ∈ readsD x, ArgOk pl a
  d1 : x.dst = -1 ∨ ∃ (rn : Nat) (px : Int), x.dst = (rn : Int) ∧ pl[rn]? = some px
  d2 : ¬ (x.op = 27 ∨ x.op = 28 ∨ x.op = 29 ∨ x.op = 30) → ∃ (rn : Nat) (px : Int), x.dst = (rn : Int) ∧ pl[rn]? = some px
  sz : (x.op = 22 ∨ x.op = 26 ∨ x.op = 27) → x.size = 1 ∨ x.size = 2 ∨ x.size = 4 ∨ x.size = 8
  rg : x.op = 23 → ∃ rf : Nat, x.ref = (rf : Int) ∧ rf < ng
  rs : x.op = 24 → ∃ (rf : Nat) (sv : Int), x.ref = (rf : Int) ∧ sl[rf]? = some sv ∧ -2147483648 ≤ sv + x.off ∧ sv + x.off ≤ 2147483647
  rf : (x.op = 25 ∨ x.op = 28) → ∃ rf : Nat, x.ref = (rf : Int) ∧ rf < nf
  off : -2147483648 ≤ x.off ∧ x.off ≤ 2147483647
  al : (x.op = 28 ∨ x.op = 29) → x.args.length ≤ 6
section
variable (W0 : World) (gk : Nat) (k : PK) (pl sl : List Int)
theorem one_any (hk : KOk W0 k pl) (nb n : Nat) (ls0 : List LineD) (w : World) (h : PSeg W0 gk k pl sl nb ls0 n w) (hn : n ≤ 99998000) (pb : Nat) (fs : List FuncD) (gs : List GlobD) (hN : NmT W0 k pb fs gs) (hsl : sl.length ≤ 100000) (x : InsD) (va : Value) (hs : SlR W0 2 ArgR va x.args) (ho : OneOk pl sl fs.length gs.length x) (ht : Bool) :
    Calls Tryd.prog 25 #[.pointer (some ⟨gk, 0, none⟩), .agg #[.int .i64 x.op, .int .i64 x.dst, .int .i64 x.a.reg, .int .i64 x.a.num, .int .i64 x.b.reg, .int .i64 x.b.num, .int .i64 x.size, .bool x.signed, .bool x.secret, .int .i64 x.ref, .int .i64 x.off, va], .bool ht] w (Lays W0 gk k pl sl nb ls0 (n + 10) w (.tuple #[])) := by
  obtain ⟨⟨o1, o2⟩, rd, d1, d2, sz, rg, rs, rf, off, al⟩ := ho
  have hcl : (x.op = 1 ∨ x.op = 2) ∨ (3 ≤ x.op ∧ x.op ≤ 15) ∨ (16 ≤ x.op ∧ x.op ≤ 21) ∨ x.op = 22 ∨ x.op = 23 ∨ x.op = 24 ∨ x.op = 25 ∨ x.op = 26 ∨ x.op = 27 ∨ x.op = 28 ∨ x.op = 29 ∨ x.op = 30 := by omega
  rcases hcl with c | c | c | c | c | c | c | c | c | c | c | c
  · obtain ⟨rn, px, e, hr⟩ := d2 (by omega)
    have ha := rd x.a (by unfold readsD; rw [if_neg (by omega), if_neg (by omega), if_neg (by omega), if_neg (by omega)]; simp)
    rw [e]
    exact one_copy W0 gk k pl sl hk nb n ls0 w h hn x va rn px hr ht x.op c ha
  · obtain ⟨rn, px, e, hr⟩ := d2 (by omega)
    have hm : readsD x = [x.a, x.b] := by unfold readsD; rw [if_neg (by omega), if_neg (by omega), if_pos (by omega)]
    rw [e]
    exact one_reckon W0 gk k pl sl hk nb n ls0 w h hn x va rn px hr ht c (rd x.a (by rw [hm]; simp)) (rd x.b (by rw [hm]; simp))
  · obtain ⟨rn, px, e, hr⟩ := d2 (by omega)
    have hm : readsD x = [x.a, x.b] := by unfold readsD; rw [if_neg (by omega), if_neg (by omega), if_pos (by omega)]
    rw [e]
    exact one_compare W0 gk k pl sl hk nb n ls0 w h hn x va rn px hr ht c (rd x.a (by rw [hm]; simp)) (rd x.b (by rw [hm]; simp))
  · obtain ⟨rn, px, e, hr⟩ := d2 (by omega)
    have hm : readsD x = [x.a] := by unfold readsD; rw [if_neg (by omega), if_neg (by omega), if_neg (by omega), if_neg (by omega)]
    have ha := rd x.a (by rw [hm]; simp)
    have hz := sz (Or.inl c)
    rw [e]
    have := one_extend W0 gk k pl sl hk nb n ls0 w h hn x va rn px hr ht ha hz c
    rw [← c] at this
    exact this
  · obtain ⟨rn, px, e, hr⟩ := d2 (by omega)
    obtain ⟨r, e2, hr2⟩ := rg c
    rw [e, e2, c]
    exact one_global W0 gk k pl sl hk nb n ls0 w h hn x va rn px hr ht pb fs gs hN r hr2 off.1 off.2
  · obtain ⟨rn, px, e, hr⟩ := d2 (by omega)
    obtain ⟨r, sv, e2, hr2, v1, v2⟩ := rs c
    rw [e, e2, c]
    exact one_slot W0 gk k pl sl hk nb n ls0 w h hn x va rn px hr ht r sv hr2 v1 v2 hsl
  · obtain ⟨rn, px, e, hr⟩ := d2 (by omega)
    obtain ⟨r, e2, hr2⟩ := rf (Or.inl c)
    rw [e, e2, c]
    exact one_funcof W0 gk k pl sl hk nb n ls0 w h hn x va rn px hr ht pb fs gs hN r hr2
  · obtain ⟨rn, px, e, hr⟩ := d2 (by omega)
    have hm : readsD x = [x.a] := by unfold readsD; rw [if_neg (by omega), if_neg (by omega), if_neg (by omega), if_neg (by omega)]
    have ha := rd x.a (by rw [hm]; simp)
    have hz := sz (Or.inr (Or.inl c))
    rw [e, c]
    exact one_load W0 gk k pl sl hk nb n ls0 w h hn x va rn px hr ht ha hz off.1 off.2
  · have hm : readsD x = [x.a, x.b] := by unfold readsD; rw [if_neg (by omega), if_neg (by omega), if_pos (by omega)]
    have hz := sz (Or.inr (Or.inr c))
    rw [c]
    exact one_store W0 gk k pl sl hk nb n ls0 w h hn x va ht (rd x.a (by rw [hm]; simp)) (rd x.b (by rw [hm]; simp)) hz off.1 off.2
  · have hm : readsD x = x.args := by unfold readsD; rw [if_pos c]
    obtain ⟨VA, vc, rfl, g1, g2, g3⟩ := hs
    rw [c]
    exact one_call28 W0 gk k pl sl hk nb n ls0 w h hn x (.slice VA x.args.length vc) ht pb fs gs hN VA vc ⟨VA, vc, rfl, g1, g2, g3⟩ (al (Or.inl c)) x.dst (fun a h => rd a (by rw [hm]; exact h)) (rf (Or.inr c)) d1
  · have hm : readsD x = x.a :: x.args := by unfold readsD; rw [if_neg (by omega), if_pos c]
    obtain ⟨VA, vc, rfl, g1, g2, g3⟩ := hs
    rw [c]
    exact one_call29 W0 gk k pl sl hk nb n ls0 w h hn x (.slice VA x.args.length vc) ht pb fs gs hN VA vc ⟨VA, vc, rfl, g1, g2, g3⟩ (al (Or.inr c)) x.dst (rd x.a (by rw [hm]; simp)) (fun a h => rd a (by rw [hm]; exact List.mem_cons_of_mem _ h)) trivial d1
  · have hm : readsD x = [x.a] := by unfold readsD; rw [if_neg (by omega), if_neg (by omega), if_neg (by omega), if_neg (by omega)]
    have ha := rd x.a (by rw [hm]; simp)
    rw [c]
    exact one_out W0 gk k pl sl hk nb n ls0 w h hn x va ht ha
end
end Go.Proofs.YtbogcompeefoaaaDoor
