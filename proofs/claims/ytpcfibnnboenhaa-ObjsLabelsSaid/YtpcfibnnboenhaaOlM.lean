/- What a part's labels become: its length; array by array. No condition. -/
import Derived.Test.YtpcfibnnboenhaaOlI
namespace Go.Proofs.Ytpcfibnnboenhaa
open Go.RowKit
set_option linter.unusedVariables false
theorem fold_length {α : Type} (F : List Bool → α → List Bool) (h : ∀ l x, (F l x).length = l.length) : ∀ (xs : List α) (l : List Bool), (xs.foldl F l).length = l.length
  | [], _ => rfl
  | x :: xs, l => by rw [List.foldl_cons, fold_length F h xs, h]
theorem markL_length (tab : List RecP) : ∀ (d : Nat) (t : Ty) (a : Nat) (l : List Bool), (markL tab d t a l).length = l.length
  | d, .int s g c, a, l => by rw [markL]; exact setB_length _ _ _ _
  | d, .ptr e, a, l => by rw [markL] <;> simp
  | d, .arr e n, a, l => by rw [markL]; exact fold_length _ (fun l i => markL_length tab d e _ l) _ _
  | 0, .str k, a, l => by rw [markL]
  | d + 1, .str k, a, l => by rw [markL]; exact fold_length _ (fun l (f : FldP) => markL_length tab d f.ty _ l) _ _
  | d, .fn r x y, a, l => by rw [markL] <;> simp
termination_by d t => (d, SizeOf.sizeOf t)
/-- an array's first j elements -/
def markA (tab : List RecP) (d : Nat) (e : Ty) (a : Nat) (l : List Bool) (j : Nat) : List Bool := (List.range j).foldl (fun l i => markL tab d e (a + i * (sizeT tab e).toNat) l) l
theorem markA_succ (tab : List RecP) (d : Nat) (e : Ty) (a : Nat) (l : List Bool) (j : Nat) : markA tab d e a l (j + 1) = markL tab d e (a + j * (sizeT tab e).toNat) (markA tab d e a l j) := by
  unfold markA
  rw [List.range_succ, List.foldl_append]
  rfl
theorem markL_arr (tab : List RecP) (d : Nat) (e : Ty) (n : Int) (a : Nat) (l : List Bool) : markL tab d (.arr e n) a l = markA tab d e a l n.toNat := by rw [markL]; rfl
theorem markA_length (tab : List RecP) (d : Nat) (e : Ty) (a : Nat) (l : List Bool) (j : Nat) : (markA tab d e a l j).length = l.length := fold_length _ (fun l i => markL_length tab d e _ l) _ _
/-- a struct's first j fields -/
def markF (tab : List RecP) (d : Nat) (fs : List FldP) (a : Nat) (l : List Bool) : List Bool := fs.foldl (fun l f => markL tab d f.ty (a + f.at_.toNat) l) l
theorem markF_snoc (tab : List RecP) (d : Nat) (fs : List FldP) (f : FldP) (a : Nat) (l : List Bool) : markF tab d (fs ++ [f]) a l = markL tab d f.ty (a + f.at_.toNat) (markF tab d fs a l) := by unfold markF; rw [List.foldl_append]; rfl
theorem markL_str (tab : List RecP) (d : Nat) (k : Int) (a : Nat) (l : List Bool) : markL tab (d + 1) (.str k) a l = markF tab d (recT tab k).fields a l := by rw [markL]; rfl
theorem markL_st (tab : List RecP) (d : Nat) (k : Int) (a : Nat) (l : List Bool) (h : Under d (.str k)) : markL tab d (.str k) a l = markF tab (d - 1) (recT tab k).fields a l := by
  match d, h with
  | 0, h =>
    have h : k < ((0 : Nat) : Int) := h
    rw [markL]
    unfold recT
    rw [if_neg (by omega)]
    rfl
  | d + 1, h => exact markL_str tab d k a l
theorem markF_length (tab : List RecP) (d : Nat) (fs : List FldP) (a : Nat) (l : List Bool) : (markF tab d fs a l).length = l.length := fold_length _ (fun l (f : FldP) => markL_length tab d f.ty _ l) _ _
theorem take_more' {α : Type} {xs : List α} {i : Nat} {x : α} (h : xs[i]? = some x) : xs.take (i + 1) = xs.take i ++ [x] := by
  rw [List.take_add_one, h]; rfl
theorem recT_num {tab : List RecP} {k : Int} {f : FldP} (h : f ∈ (recT tab k).fields) : 0 ≤ k := by
  unfold recT at h
  split at h
  · assumption
  · cases h
theorem markL_ptr (tab : List RecP) (d : Nat) (e : Ty) (a : Nat) (l : List Bool) : markL tab d (.ptr e) a l = l := by rw [markL] <;> simp
theorem markL_int (tab : List RecP) (d : Nat) (s : Int) (g c : Bool) (a : Nat) (l : List Bool) : markL tab d (.int s g c) a l = setB l a s.toNat c := by rw [markL]
end Go.Proofs.Ytpcfibnnboenhaa
