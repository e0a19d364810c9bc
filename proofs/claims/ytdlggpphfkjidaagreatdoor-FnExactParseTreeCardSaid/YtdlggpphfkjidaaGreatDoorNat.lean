/-
  The size that a box needs: impl.natural.
-/
import Derived.Test.YtdlggpphfkjidaaGreatDoorSVal
namespace Go.Proofs.YtdlggpphfkjidaaGreatDoor
open Go Go.RowKit

/-- what one box more adds -/
def addK (b : Bx) (k : Nat) (acc s : Int × Int) : Int × Int :=
  if b.kind = 2 then (acc.1 + (if k = 0 then 0 else b.gap) + s.1, max acc.2 s.2) else (max acc.1 s.1, acc.2 + (if k = 0 then 0 else b.gap) + s.2)
def foldK (b : Bx) : Nat → Int × Int → List (Int × Int) → Int × Int
  | _, acc, [] => acc
  | k, acc, s :: r => foldK b (k + 1) (addK b k acc s) r
def natF (l : List Bx) : Nat → Nat → Int × Int
  | 0, _ => (0, 0)
  | f + 1, i => ((foldK (bx l i) 0 ((bx l i).w, (bx l i).h) ((kid l (i : Int)).map (natF l f))).1 + 2 * (bx l i).pad, (foldK (bx l i) 0 ((bx l i).w, (bx l i).h) ((kid l (i : Int)).map (natF l f))).2 + 2 * (bx l i).pad)
/-- the size that box i needs -/
def natS (l : List Bx) (i : Nat) : Int × Int := natF l (l.length - i) i

theorem natF_enough {l : List Bx} (hd : ∀ k, k < l.length → par l k < k) : ∀ (f g i : Nat), l.length - i ≤ f → l.length - i ≤ g → i < l.length → natF l f i = natF l g i
  | 0, _, _, h, _, hi => by omega
  | _ + 1, 0, _, _, h, hi => by omega
  | f + 1, g + 1, i, hf, hg, hi => by
    have : (kid l (i : Int)).map (natF l f) = (kid l (i : Int)).map (natF l g) := by
      apply List.map_congr_left
      intro k hk
      obtain ⟨hkl, hkp⟩ := mem_kid.1 hk
      have := hd k hkl
      exact natF_enough hd f g k (by omega) (by omega) hkl
    simp only [natF, this]
/-- the sizes of the boxes directly in box i -/
def kidS (l : List Bx) (i : Nat) : List (Int × Int) := (kid l (i : Int)).map (natS l)
theorem natS_eq {l : List Bx} (hd : ∀ k, k < l.length → par l k < k) {i : Nat} (hi : i < l.length) :
    natS l i = ((foldK (bx l i) 0 ((bx l i).w, (bx l i).h) (kidS l i)).1 + 2 * (bx l i).pad, (foldK (bx l i) 0 ((bx l i).w, (bx l i).h) (kidS l i)).2 + 2 * (bx l i).pad) := by
  have : (kid l (i : Int)).map (natF l (l.length - i - 1)) = kidS l i := by
    apply List.map_congr_left
    intro k hk
    obtain ⟨hkl, hkp⟩ := mem_kid.1 hk
    have := hd k hkl
    exact natF_enough hd _ _ k (by omega) (by omega) hkl
  unfold natS
  rw [show l.length - i = (l.length - i - 1) + 1 from by omega]
  simp only [natF, this]

theorem okB_bounds {b : Bx} (h : okB b = true) : 0 ≤ b.kind ∧ b.kind ≤ 3 ∧ 0 ≤ b.w ∧ b.w ≤ 100 ∧ 0 ≤ b.h ∧ b.h ≤ 100 ∧ 0 ≤ b.pad ∧ b.pad ≤ 50 ∧ 0 ≤ b.gap ∧ b.gap ≤ 50 ∧ 0 ≤ b.grow ∧ b.grow ≤ 10 ∧ 0 ≤ b.shrink ∧ b.shrink ≤ 10 ∧ 0 ≤ b.justify ∧ b.justify ≤ 3 := by
  rw [okB_eq] at h
  simp only [Bool.and_eq_true, inR_iff] at h
  omega

/-- both numbers in 0 to m -/
def Sz (m : Int) (s : Int × Int) : Prop := 0 ≤ s.1 ∧ s.1 ≤ m ∧ 0 ≤ s.2 ∧ s.2 ≤ m
theorem addK_sz {b : Bx} (hb : okB b = true) {k : Nat} {acc s : Int × Int} {m n : Int} (ha : Sz m acc) (hs : Sz n s) : Sz (m + n + 50) (addK b k acc s) := by
  have := okB_bounds hb
  obtain ⟨a1, a2, a3, a4⟩ := ha
  obtain ⟨s1, s2, s3, s4⟩ := hs
  unfold addK Sz
  split <;> (dsimp only; split <;> omega)
theorem foldK_sz {b : Bx} (hb : okB b = true) {n : Int} (hn : 0 ≤ n) : ∀ (r : List (Int × Int)) (k : Nat) (acc : Int × Int) (m : Int), Sz m acc → (∀ s, s ∈ r → Sz n s) → Sz (m + r.length * (n + 50)) (foldK b k acc r)
  | [], _, _, _, ha, _ => by simpa [foldK] using ha
  | s :: r, k, acc, m, ha, hr => by
    have h := foldK_sz hb hn r (k + 1) _ _ (addK_sz hb (k := k) ha (hr s List.mem_cons_self)) (fun s' hs' => hr s' (List.mem_cons_of_mem _ hs'))
    have e : m + n + 50 + (r.length : Int) * (n + 50) = m + ((s :: r).length : Int) * (n + 50) := by
      rw [List.length_cons]
      push_cast
      rw [Int.add_mul]
      omega
    rw [e] at h
    exact h

def bnd : Nat → Int
  | 0 => 0
  | f + 1 => 8 * bnd f + 600
theorem bnd_pos : ∀ f, 0 ≤ bnd f
  | 0 => by simp [bnd]
  | f + 1 => by have := bnd_pos f; simp only [bnd]; omega
theorem bnd_mono {f g : Nat} (h : f ≤ g) : bnd f ≤ bnd g := by
  induction g with
  | zero => obtain rfl : f = 0 := by omega
            exact Int.le_refl _
  | succ g ih =>
    rcases Nat.lt_or_ge g f with h1 | h1
    · obtain rfl : f = g + 1 := by omega
      exact Int.le_refl _
    · have := ih h1
      have := bnd_pos g
      simp only [bnd]
      omega
theorem bnd_16 : bnd 16 = 24126426575199000 := by decide
theorem Sz.mono {m n : Int} {s : Int × Int} (h : Sz m s) (hm : m ≤ n) : Sz n s := by
  obtain ⟨a, b, c, d⟩ := h
  exact ⟨a, by omega, c, by omega⟩
theorem natF_sz {l : List Bx} (hv : Valid l) : ∀ (f i : Nat), i < l.length → Sz (bnd f) (natF l f i)
  | 0, _, _ => ⟨by simp [natF], by simp [natF, bnd], by simp [natF], by simp [natF, bnd]⟩
  | f + 1, i, hi => by
    have hb := okB_bounds (hv.ok i hi)
    have h := foldK_sz (hv.ok i hi) (bnd_pos f) ((kid l (i : Int)).map (natF l f)) 0 ((bx l i).w, (bx l i).h) 100 ⟨by dsimp only; omega, by dsimp only; omega, by dsimp only; omega, by dsimp only; omega⟩ (fun s hs => by
      rw [List.mem_map] at hs
      obtain ⟨k, hk, rfl⟩ := hs
      exact natF_sz hv f k (mem_kid.1 hk).1)
    rw [List.length_map] at h
    have hk := (hv.kids i hi).1
    have hp := bnd_pos f
    have hm : ((kid l (i : Int)).length : Int) * (bnd f + 50) ≤ 8 * (bnd f + 50) := Int.mul_le_mul_of_nonneg_right (by omega) (by omega)
    obtain ⟨a, b, c, d⟩ := h
    simp only [natF, bnd, Sz]
    omega
theorem natS_sz {l : List Bx} (hv : Valid l) {i : Nat} (hi : i < l.length) : Sz 24126426575199000 (natS l i) := by
  have h := natF_sz hv (l.length - i) i hi
  rw [← bnd_16]
  exact h.mono (bnd_mono (by have := hv.hi; omega))

theorem foldK_snoc (b : Bx) : ∀ (r : List (Int × Int)) (k : Nat) (acc s : Int × Int), foldK b k acc (r ++ [s]) = addK b (k + r.length) (foldK b k acc r) s
  | [], _, _, _ => rfl
  | t :: r, k, acc, s => by
    simp only [List.cons_append, foldK, List.length_cons]
    rw [foldK_snoc b r (k + 1)]
    congr 1
    omega
/-- behind j boxes -/
def natTo (l : List Bx) (i j : Nat) : Int × Int := foldK (bx l i) 0 ((bx l i).w, (bx l i).h) ((kidS l i).take j)
theorem natTo_zero (l : List Bx) (i : Nat) : natTo l i 0 = ((bx l i).w, (bx l i).h) := rfl
theorem natTo_succ {l : List Bx} {i j k : Nat} (hk : (kid l (i : Int))[j]? = some k) : natTo l i (j + 1) = addK (bx l i) j (natTo l i j) (natS l k) := by
  have hj : j < (kidS l i).length := by
    unfold kidS
    rw [List.length_map]
    exact (List.getElem?_eq_some_iff.1 hk).1
  have : (kidS l i).take (j + 1) = (kidS l i).take j ++ [natS l k] := by
    rw [List.take_add_one]
    simp [kidS, hk]
  unfold natTo
  rw [this, foldK_snoc, List.length_take]
  congr 1
  omega
theorem natTo_full {l : List Bx} (i : Nat) : natTo l i (kid l (i : Int)).length = foldK (bx l i) 0 ((bx l i).w, (bx l i).h) (kidS l i) := by
  unfold natTo
  rw [List.take_of_length_le (by simp [kidS])]
theorem natTo_sz {l : List Bx} (hv : Valid l) {i j : Nat} (hi : i < l.length) : Sz (8 * 24126426575199000 + 600) (natTo l i j) := by
  have hb := okB_bounds (hv.ok i hi)
  have h := foldK_sz (hv.ok i hi) (n := 24126426575199000) (by omega) ((kidS l i).take j) 0 ((bx l i).w, (bx l i).h) 100 ⟨by dsimp only; omega, by dsimp only; omega, by dsimp only; omega, by dsimp only; omega⟩ (fun s hs => by
    have hs := List.mem_of_mem_take hs
    unfold kidS at hs
    rw [List.mem_map] at hs
    obtain ⟨k, hk, rfl⟩ := hs
    exact natS_sz hv (mem_kid.1 hk).1)
  have hk := (hv.kids i hi).1
  have hlen : ((kidS l i).take j).length ≤ 8 := by
    rw [List.length_take]
    unfold kidS
    rw [List.length_map]
    omega
  exact h.mono (by omega)
theorem kidS_length (l : List Bx) (i : Nat) : (kidS l i).length = (kid l (i : Int)).length := by simp [kidS]

/-- what impl.natural keeps in memory: its result, the box, what it has reckoned -/
structure NatMem (B : Nat) (w : World) (x : Bx) (s : Int × Int) : Prop where
  size : B + 1 + 1 < w.heap.size
  r : ∃ e, w.heap[B]? = some (.cells #[.int .i64 0, .int .i64 0] e)
  b : ∃ e, w.heap[B + 1]? = some (.cells x.arr e)
  i : ∃ e, w.heap[B + 1 + 1]? = some (.cells #[.int .i64 s.1, .int .i64 s.2] e)
theorem NatMem.ext {B : Nat} {w w' : World} {x : Bx} {s : Int × Int} (h : NatMem B w x s) (hx : Ext w w') : NatMem B w' x s := by
  obtain ⟨h1, ⟨e1, h2⟩, ⟨e2, h3⟩, ⟨e3, h4⟩⟩ := h
  exact ⟨Nat.lt_of_lt_of_le h1 hx.size, ⟨e1, by rw [hx.block B (by omega)]; exact h2⟩, ⟨e2, by rw [hx.block (B + 1) (by omega)]; exact h3⟩, ⟨e3, by rw [hx.block (B + 1 + 1) (by omega)]; exact h4⟩⟩
theorem NatMem.store {B : Nat} {w : World} {x : Bx} {s : Int × Int} (h : NatMem B w x s) (a b : Int) : NatMem B ((w.setCell ⟨B + 1 + 1, 0, none⟩ (.int .i64 a)).setCell ⟨B + 1 + 1, 1, none⟩ (.int .i64 b)) x (a, b) := by
  obtain ⟨h1, ⟨e1, h2⟩, ⟨e2, h3⟩, ⟨e3, h4⟩⟩ := h
  refine ⟨by simpa [World.setCell] using h1, ⟨e1, ?_⟩, ⟨e2, ?_⟩, ⟨e3, ?_⟩⟩
  · rw [Below.heap_setCell _ _ _ _ (by simp; omega), Below.heap_setCell _ _ _ _ (by simp; omega)]
    exact h2
  · rw [Below.heap_setCell _ _ _ _ (by simp), Below.heap_setCell _ _ _ _ (by simp)]
    exact h3
  · simp only [World.setCell, Array.getElem?_modify]
    simp [h4]

theorem heap_new3 (w : World) (o1 o2 o3 : Obj) : (((w.alloc o1).alloc o2).alloc o3).heap[w.heap.size]? = some o1 ∧ (((w.alloc o1).alloc o2).alloc o3).heap[w.heap.size + 1]? = some o2 ∧ (((w.alloc o1).alloc o2).alloc o3).heap[w.heap.size + 1 + 1]? = some o3 := by
  refine ⟨?_, ?_, ?_⟩
  · show (((w.heap.push o1).push o2).push o3)[_]? = _
    simp only [Array.getElem?_push, Array.size_push]
    rw [if_neg (by omega), if_neg (by omega), if_pos trivial]
  · show (((w.heap.push o1).push o2).push o3)[_]? = _
    simp only [Array.getElem?_push, Array.size_push]
    rw [if_neg (by omega), if_pos trivial]
  · show (((w.heap.push o1).push o2).push o3)[_]? = _
    simp only [Array.getElem?_push, Array.size_push]
    rw [if_pos trivial]

theorem NatMem.congr {B : Nat} {w : World} {x : Bx} {s s' : Int × Int} (h : NatMem B w x s) (e : s = s') : NatMem B w x s' := e ▸ h
theorem Own.setBelow {w : World} {base size : Nat} {v : Value} {xs : List Value} (h : Own w base size v xs) {p : Addr} (hp : p.block < base) (u : Value) : Own (w.setCell p u) base size v xs :=
  h.setOther (fun e => by have := (h.lt _ e).1; omega) u

theorem addK_row {b : Bx} (hk : b.kind = 2) (k : Nat) (acc s : Int × Int) : addK b k acc s = (acc.1 + (if k = 0 then 0 else b.gap) + s.1, max acc.2 s.2) := by
  unfold addK
  rw [if_pos hk]
theorem addK_col {b : Bx} (hk : ¬ b.kind = 2) (k : Nat) (acc s : Int × Int) : addK b k acc s = (max acc.1 s.1, acc.2 + (if k = 0 then 0 else b.gap) + s.2) := by
  unfold addK
  rw [if_neg hk]

end Go.Proofs.YtdlggpphfkjidaaGreatDoor
