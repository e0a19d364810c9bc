/-
  spec.natural gives the same size.
-/
import Derived.Test.YtckggmbmlpikhaaNat
import Derived.Deep.QuietTactic
import Derived.BigQuiet
namespace Go.Proofs.Ytckggmbmlpikhaa
open Go Go.RowKit

/-- along the line: what box k adds; across it -/
def mainOf (b : Bx) (s : Int × Int) : Int := if b.kind = 2 then s.1 else s.2
def crossOf (b : Bx) (s : Int × Int) : Int := if b.kind = 2 then s.2 else s.1
def alongL (b : Bx) (c : Int) (r : List (Int × Int)) : Int := r.foldl (fun a s => a + mainOf b s) c
def acrossL (b : Bx) (c : Int) (r : List (Int × Int)) : Int := r.foldl (fun a s => max a (crossOf b s)) c
theorem alongL_add (b : Bx) : ∀ (r : List (Int × Int)) (c d : Int), alongL b (c + d) r = alongL b c r + d
  | [], _, _ => rfl
  | s :: r, c, d => by
    have := alongL_add b r (c + mainOf b s) d
    simp only [alongL, List.foldl_cons] at this ⊢
    rw [← this]
    congr 1
    omega
def gapsOf (n : Nat) : Int := max 0 ((n : Int) - 1)
theorem foldK_line (b : Bx) : ∀ (r : List (Int × Int)) (k : Nat) (acc : Int × Int), 0 < k → foldK b k acc r = if b.kind = 2 then (alongL b (acc.1 + r.length * b.gap) r, acrossL b acc.2 r) else (acrossL b acc.1 r, alongL b (acc.2 + r.length * b.gap) r)
  | [], k, acc, _ => by simp [foldK, alongL, acrossL]
  | s :: r, k, acc, hk => by
    rw [foldK, foldK_line b r (k + 1) _ (by omega)]
    have e : ((s :: r).length : Int) * b.gap = (r.length : Int) * b.gap + b.gap := by
      rw [List.length_cons]; push_cast; rw [Int.add_mul]; omega
    rw [e]
    generalize (r.length : Int) * b.gap = g
    by_cases h2 : b.kind = 2
    · rw [if_pos h2, if_pos h2, addK_row h2, if_neg (by omega)]
      simp only [alongL, acrossL, List.foldl_cons, mainOf, crossOf, if_pos h2]
      congr 2
      omega
    · rw [if_neg h2, if_neg h2, addK_col h2, if_neg (by omega)]
      simp only [alongL, acrossL, List.foldl_cons, mainOf, crossOf, if_neg h2]
      congr 2
      omega
theorem foldK_zero (b : Bx) (r : List (Int × Int)) : foldK b 0 (0, 0) r = if b.kind = 2 then (alongL b (gapsOf r.length * b.gap) r, acrossL b 0 r) else (acrossL b 0 r, alongL b (gapsOf r.length * b.gap) r) := by
  cases r with
  | nil => simp [foldK, alongL, acrossL, gapsOf, Int.max_def]
  | cons s r =>
    have e : gapsOf (s :: r).length = (r.length : Int) := by
      unfold gapsOf
      rw [List.length_cons]
      omega
    rw [foldK, foldK_line b r 1 _ (by omega), e]
    generalize (r.length : Int) * b.gap = g
    by_cases h2 : b.kind = 2
    · rw [if_pos h2, if_pos h2, addK_row h2, if_pos rfl]
      simp only [alongL, acrossL, List.foldl_cons, mainOf, crossOf, if_pos h2]
      congr 2
      omega
    · rw [if_neg h2, if_neg h2, addK_col h2, if_pos rfl]
      simp only [alongL, acrossL, List.foldl_cons, mainOf, crossOf, if_neg h2]
      congr 2
      omega

theorem natS_leaf {l : List Bx} (hv : Valid l) {i : Nat} (hi : i < l.length) (hk : (bx l i).kind = 0) : natS l i = ((bx l i).w + 2 * (bx l i).pad, (bx l i).h + 2 * (bx l i).pad) := by
  rw [natS_eq (fun k hk => hv.down hk k (Nat.le_refl _)) hi]
  unfold kidS
  rw [(hv.kids i hi).2 hk]
  rfl
theorem natS_box {l : List Bx} (hv : Valid l) {i : Nat} (hi : i < l.length) (hk : ¬ (bx l i).kind = 0) :
    natS l i = if (bx l i).kind = 2 then (alongL (bx l i) (gapsOf (kid l (i : Int)).length * (bx l i).gap) (kidS l i) + 2 * (bx l i).pad, acrossL (bx l i) 0 (kidS l i) + 2 * (bx l i).pad)
      else (acrossL (bx l i) 0 (kidS l i) + 2 * (bx l i).pad, alongL (bx l i) (gapsOf (kid l (i : Int)).length * (bx l i).gap) (kidS l i) + 2 * (bx l i).pad) := by
  have hb := hv.ok i hi
  unfold okB at hb
  simp only [Bool.and_eq_true, inR_iff, if_neg hk] at hb
  rw [natS_eq (fun k hk => hv.down hk k (Nat.le_refl _)) hi, show (bx l i).w = 0 from by omega, show (bx l i).h = 0 from by omega, foldK_zero, kidS_length]
  split <;> rfl

def alongTo (l : List Bx) (i j : Nat) : Int := alongL (bx l i) (gapsOf (kid l (i : Int)).length * (bx l i).gap) ((kidS l i).take j)
def acrossTo (l : List Bx) (i j : Nat) : Int := acrossL (bx l i) 0 ((kidS l i).take j)
theorem kidS_take {l : List Bx} {i j k : Nat} (hk : (kid l (i : Int))[j]? = some k) : (kidS l i).take (j + 1) = (kidS l i).take j ++ [natS l k] := by
  rw [List.take_add_one]
  simp [kidS, hk]
theorem alongTo_succ {l : List Bx} {i j k : Nat} (hk : (kid l (i : Int))[j]? = some k) : alongTo l i (j + 1) = alongTo l i j + mainOf (bx l i) (natS l k) := by
  unfold alongTo
  rw [kidS_take hk]
  simp [alongL]
theorem acrossTo_succ {l : List Bx} {i j k : Nat} (hk : (kid l (i : Int))[j]? = some k) : acrossTo l i (j + 1) = max (acrossTo l i j) (crossOf (bx l i) (natS l k)) := by
  unfold acrossTo
  rw [kidS_take hk]
  simp [acrossL]
theorem line_sz {l : List Bx} (hv : Valid l) {i : Nat} (hi : i < l.length) : ∀ (j : Nat), j ≤ (kid l (i : Int)).length → 0 ≤ alongTo l i j ∧ alongTo l i j ≤ 350 + j * 24126426575199000 ∧ 0 ≤ acrossTo l i j ∧ acrossTo l i j ≤ 24126426575199000
  | 0, _ => by
    have hb := okB_bounds (hv.ok i hi)
    have hk := (hv.kids i hi).1
    have hg : 0 ≤ gapsOf (kid l (i : Int)).length ∧ gapsOf (kid l (i : Int)).length ≤ 7 := by unfold gapsOf; omega
    have h1 : gapsOf (kid l (i : Int)).length * (bx l i).gap ≤ 7 * 50 := Int.mul_le_mul (by omega) (by omega) (by omega) (by omega)
    have h2 : 0 ≤ gapsOf (kid l (i : Int)).length * (bx l i).gap := Int.mul_nonneg hg.1 (by omega)
    unfold alongTo acrossTo
    simp only [List.take_zero, alongL, acrossL, List.foldl_nil]
    omega
  | j + 1, h => by
    obtain ⟨k, hk⟩ : ∃ k, (kid l (i : Int))[j]? = some k := ⟨_, List.getElem?_eq_getElem (by omega)⟩
    obtain ⟨hkl, _⟩ := mem_kid.1 (List.mem_of_getElem? hk)
    have ih := line_sz hv hi j (by omega)
    obtain ⟨n1, n2, n3, n4⟩ := natS_sz hv hkl
    rw [alongTo_succ hk, acrossTo_succ hk]
    unfold mainOf crossOf
    split <;> (push_cast; omega)
theorem line_full {l : List Bx} (hv : Valid l) {i : Nat} (hi : i < l.length) (hk : ¬ (bx l i).kind = 0) :
    natS l i = if (bx l i).kind = 2 then (alongTo l i (kid l (i : Int)).length + 2 * (bx l i).pad, acrossTo l i (kid l (i : Int)).length + 2 * (bx l i).pad) else (acrossTo l i (kid l (i : Int)).length + 2 * (bx l i).pad, alongTo l i (kid l (i : Int)).length + 2 * (bx l i).pad) := by
  rw [natS_box hv hi hk]
  unfold alongTo acrossTo
  rw [List.take_of_length_le (by rw [kidS_length]; exact Nat.le_refl _)]

theorem skid_valid {l : List Bx} (hv : Valid l) (i : Nat) : skid l i = kid l (i : Int) := skid_eq_kid fun k hk => hv.down hk k (Nat.le_refl _)
/-- the box that spec.natural keeps in memory -/
structure OneBox (B : Nat) (w : World) (x : Bx) : Prop where
  size : B < w.heap.size
  b : ∃ e, w.heap[B]? = some (.cells x.arr e)
theorem OneBox.ext {B : Nat} {w w' : World} {x : Bx} (h : OneBox B w x) (hx : Ext w w') : OneBox B w' x := by
  obtain ⟨h1, ⟨e1, h2⟩⟩ := h
  exact ⟨Nat.lt_of_lt_of_le h1 hx.size, ⟨e1, by rw [hx.block B (by omega)]; exact h2⟩⟩

end Go.Proofs.Ytckggmbmlpikhaa
