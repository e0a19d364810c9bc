/-
  Boxes and trees as plain data: the Lean functions that the Go functions of tree, edit and size are shown to compute.
-/
import Derived.Test.YtdlggpphfkjidaaGreatDoorBase
namespace Go.Proofs.YtdlggpphfkjidaaGreatDoor
open Go Go.RowKit

structure Bx where
  parent : Int
  kind : Int
  w : Int
  h : Int
  pad : Int
  gap : Int
  grow : Int
  shrink : Int
  justify : Int

def zb : Bx := ⟨0, 0, 0, 0, 0, 0, 0, 0, 0⟩
def Bx.vals (b : Bx) : List Value :=
  [.int .i64 b.parent, .int .i64 b.kind, .int .i64 b.w, .int .i64 b.h, .int .i64 b.pad, .int .i64 b.gap, .int .i64 b.grow, .int .i64 b.shrink, .int .i64 b.justify]
def Bx.agg (b : Bx) : Value :=
  .agg #[.int .i64 b.parent, .int .i64 b.kind, .int .i64 b.w, .int .i64 b.h, .int .i64 b.pad, .int .i64 b.gap, .int .i64 b.grow, .int .i64 b.shrink, .int .i64 b.justify]
theorem Bx.vals_length (b : Bx) : b.vals.length = 9 := rfl
def Bs (l : List Bx) : List Value := l.flatMap Bx.vals
theorem Bs_nil : Bs [] = [] := rfl
theorem Bs_cons (b : Bx) (l : List Bx) : Bs (b :: l) = b.vals ++ Bs l := rfl
theorem Bs_append (l m : List Bx) : Bs (l ++ m) = Bs l ++ Bs m := by simp [Bs]
theorem Bs_length (l : List Bx) : (Bs l).length = l.length * 9 := by
  induction l with
  | nil => rfl
  | cons b l ih => rw [Bs_cons, List.length_append, ih, Bx.vals_length, List.length_cons]; omega
theorem Bs_get {l : List Bx} {i : Nat} {b : Bx} (h : l[i]? = some b) {j : Nat} (hj : j < 9) : (Bs l)[i * 9 + j]? = b.vals[j]? := by
  induction l generalizing i with
  | nil => simp at h
  | cons c l ih =>
    rw [Bs_cons]
    cases i with
    | zero =>
      simp at h
      subst h
      rw [List.getElem?_append_left (by rw [Bx.vals_length]; omega)]
      simp
    | succ i =>
      simp at h
      rw [List.getElem?_append_right (by rw [Bx.vals_length]; omega), Bx.vals_length, ← ih h]
      congr 1
      omega
theorem Bs_one (l : List Bx) : ∀ y ∈ Bs l, y.oneCell' = true := by
  intro y hy
  simp only [Bs, List.mem_flatMap, Bx.vals, List.mem_cons, List.not_mem_nil, or_false] at hy
  obtain ⟨b, _, h⟩ := hy
  rcases h with h | h | h | h | h | h | h | h | h <;> subst h <;> rfl
theorem Bx.vals_one (b : Bx) : ∀ y ∈ b.vals, y.oneCell' = true := by
  have := Bs_one [b]
  simpa [Bs] using this

/-- the nine cells of a box that is read -/
structure Cells9 (w : World) (b o : Nat) (x : Bx) : Prop where
  c0 : w.cell? ⟨b, o, none⟩ = some (.int .i64 x.parent)
  c1 : w.cell? ⟨b, o + 1, none⟩ = some (.int .i64 x.kind)
  c2 : w.cell? ⟨b, o + 2, none⟩ = some (.int .i64 x.w)
  c3 : w.cell? ⟨b, o + 3, none⟩ = some (.int .i64 x.h)
  c4 : w.cell? ⟨b, o + 4, none⟩ = some (.int .i64 x.pad)
  c5 : w.cell? ⟨b, o + 5, none⟩ = some (.int .i64 x.gap)
  c6 : w.cell? ⟨b, o + 6, none⟩ = some (.int .i64 x.grow)
  c7 : w.cell? ⟨b, o + 7, none⟩ = some (.int .i64 x.shrink)
  c8 : w.cell? ⟨b, o + 8, none⟩ = some (.int .i64 x.justify)

theorem Rd.boxes {w : World} {v : Value} {l : List Bx} (h : Rd w 9 v (Bs l)) :
    ∃ a c, v = .slice a l.length c ∧ l.length ≤ c ∧ c ≤ maxLen ∧ ∀ (k : Nat) (x : Bx), l[k]? = some x → ∃ b off, a = some ⟨b, off, none⟩ ∧ b < w.heap.size ∧ ∀ (j : Nat) (y : Bx), l[j]? = some y → Cells9 w b (off + j * 9) y := by
  obtain ⟨a, n, c, rfl, hl, hn, hc, hx⟩ := h
  rw [Bs_length] at hl
  obtain rfl : n = l.length := by omega
  refine ⟨a, c, rfl, hn, hc, fun k x hk => ?_⟩
  rcases hx with hx | ⟨b, off, rfl, hx⟩
  · have := congrArg List.length hx
    rw [Bs_length] at this
    have : l = [] := List.eq_nil_of_length_eq_zero (by rw [List.length_nil] at this; omega)
    subst this
    simp at hk
  · have key : ∀ (i : Nat) (y : Bx), l[i]? = some y → ∀ (j : Nat), j < 9 → ∀ u, y.vals[j]? = some u → w.cell? ⟨b, off + (i * 9 + j), none⟩ = some u :=
      fun i y hy j hj u hu => hx _ _ (by rw [Bs_get hy hj]; exact hu)
    refine ⟨b, off, rfl, World.block_lt_of_cell? w _ (key k x hk 0 (by omega) _ rfl), fun j y hy => ?_⟩
    have g := key j y hy
    exact ⟨g 0 (by omega) _ rfl, g 1 (by omega) _ rfl, g 2 (by omega) _ rfl, g 3 (by omega) _ rfl, g 4 (by omega) _ rfl, g 5 (by omega) _ rfl, g 6 (by omega) _ rfl, g 7 (by omega) _ rfl, g 8 (by omega) _ rfl⟩

theorem Cells9.below {w w' : World} {b o B : Nat} {x : Bx} (h : Cells9 w b o x) (hb : Below B w w') (hB : b < B) : Cells9 w' b o x := by
  obtain ⟨h0, h1, h2, h3, h4, h5, h6, h7, h8⟩ := h
  constructor <;> (rw [hb.cell (by exact hB)]; assumption)

def Bx.arr (x : Bx) : Array Value := #[.int .i64 x.parent, .int .i64 x.kind, .int .i64 x.w, .int .i64 x.h, .int .i64 x.pad, .int .i64 x.gap, .int .i64 x.grow, .int .i64 x.shrink, .int .i64 x.justify]
theorem frozen_of_heap {w : World} {g off : Nat} {cur : Array Value} {e : TypeId} (h : w.heap[g]? = some (.cells cur e)) : w.frozen? ⟨g, off, none⟩ = false := by
  simp [World.frozen?, h]
theorem cells9_of {w : World} {g : Nat} {x : Bx} {e : TypeId} (h : w.heap[g]? = some (.cells x.arr e)) : Cells9 w g 0 x := by
  constructor <;> (rw [cell_of_heap h]; rfl)
theorem setCell_heap {w : World} {g : Nat} {cs : Array Value} {e : TypeId} (h : w.heap[g]? = some (.cells cs e)) (o : Nat) (u : Value) : (w.setCell ⟨g, o, none⟩ u).heap[g]? = some (.cells (cs.setIfInBounds o u) e) := by
  simp only [World.setCell, Array.getElem?_modify]
  simp [h]
def Bx.at (b : Bx) (p : Int) : Bx := { b with parent := p }

/-- a box stored into a tree of the call's own -/
theorem Own.setBox {w : World} {base : Nat} {v : Value} {l : List Bx} (h : Own w base 9 v (Bs l)) {b off n c : Nat} (hv : v = .slice (some ⟨b, off, none⟩) n c) {i : Nat} (hi : i < l.length) (x : Bx) :
    Own (((((((((w.setCell ⟨b, off + i * 9, none⟩ (.int .i64 x.parent)).setCell ⟨b, off + i * 9 + 1, none⟩ (.int .i64 x.kind)).setCell ⟨b, off + i * 9 + 2, none⟩ (.int .i64 x.w)).setCell ⟨b, off + i * 9 + 3, none⟩ (.int .i64 x.h)).setCell ⟨b, off + i * 9 + 4, none⟩ (.int .i64 x.pad)).setCell ⟨b, off + i * 9 + 5, none⟩ (.int .i64 x.gap)).setCell ⟨b, off + i * 9 + 6, none⟩ (.int .i64 x.grow)).setCell ⟨b, off + i * 9 + 7, none⟩ (.int .i64 x.shrink)).setCell ⟨b, off + i * 9 + 8, none⟩ (.int .i64 x.justify)) base 9 v (Bs (l.set i x)) := by
  have step : ∀ (w : World) (xs : List Value), Own w base 9 v xs → ∀ (j : Nat) (u : Value), j < xs.length → Own (w.setCell ⟨b, off + j, none⟩ u) base 9 v (xs.set j u) := fun w xs ho j u hj => by
    obtain ⟨b', off', n', c', e, _, _, _, _, _, _, hset⟩ := ho.cells (by intro e; subst e; simp at hj)
    rw [hv] at e
    cases e
    exact hset j u hj
  have hl := Bs_length l
  have s0 := step _ _ h (i * 9) (.int .i64 x.parent) (by omega)
  have s1 := step _ _ s0 (i * 9 + 1) (.int .i64 x.kind) (by simp; omega)
  have s2 := step _ _ s1 (i * 9 + 2) (.int .i64 x.w) (by simp; omega)
  have s3 := step _ _ s2 (i * 9 + 3) (.int .i64 x.h) (by simp; omega)
  have s4 := step _ _ s3 (i * 9 + 4) (.int .i64 x.pad) (by simp; omega)
  have s5 := step _ _ s4 (i * 9 + 5) (.int .i64 x.gap) (by simp; omega)
  have s6 := step _ _ s5 (i * 9 + 6) (.int .i64 x.grow) (by simp; omega)
  have s7 := step _ _ s6 (i * 9 + 7) (.int .i64 x.shrink) (by simp; omega)
  have s8 := step _ _ s7 (i * 9 + 8) (.int .i64 x.justify) (by simp; omega)
  simp only [← Nat.add_assoc] at s8
  have e : Bs (l.set i x) = (((((((((Bs l).set (i * 9) (.int .i64 x.parent)).set (i * 9 + 1) (.int .i64 x.kind)).set (i * 9 + 2) (.int .i64 x.w)).set (i * 9 + 3) (.int .i64 x.h)).set (i * 9 + 4) (.int .i64 x.pad)).set (i * 9 + 5) (.int .i64 x.gap)).set (i * 9 + 6) (.int .i64 x.grow)).set (i * 9 + 7) (.int .i64 x.shrink)).set (i * 9 + 8) (.int .i64 x.justify) := by
    apply List.ext_getElem?
    intro q
    by_cases hq : q < l.length * 9
    · obtain ⟨k, hk⟩ : ∃ k, k = q / 9 := ⟨_, rfl⟩
      obtain ⟨j, hj⟩ : ∃ j, j = q % 9 := ⟨_, rfl⟩
      have hqe : q = k * 9 + j := by omega
      have hj9 : j < 9 := by omega
      have hkl : k < l.length := by omega
      clear hk hj
      subst hqe
      have hget : ∀ y, (l.set i x)[k]? = some y → (Bs (l.set i x))[k * 9 + j]? = y.vals[j]? := fun y hy => Bs_get hy hj9
      simp only [List.getElem?_set, List.length_set, hl]
      by_cases hki : k = i
      · subst hki
        rw [hget x (by simp [hkl])]
        have : j = 0 ∨ j = 1 ∨ j = 2 ∨ j = 3 ∨ j = 4 ∨ j = 5 ∨ j = 6 ∨ j = 7 ∨ j = 8 := by omega
        rcases this with rfl | rfl | rfl | rfl | rfl | rfl | rfl | rfl | rfl <;> simp [Bx.vals] <;> omega
      · obtain ⟨y, hy⟩ : ∃ y, l[k]? = some y := ⟨_, List.getElem?_eq_getElem hkl⟩
        rw [hget y (by rw [List.getElem?_set_ne (by omega)]; exact hy), ← Bs_get hy hj9]
        rw [if_neg (by omega), if_neg (by omega), if_neg (by omega), if_neg (by omega), if_neg (by omega), if_neg (by omega), if_neg (by omega), if_neg (by omega), if_neg (by omega)]
    · rw [List.getElem?_eq_none (by rw [Bs_length, List.length_set]; omega), List.getElem?_eq_none (by simp only [List.length_set, hl]; omega)]
  rw [e]
  exact s8

/-! ### numbers -/
def inR (n a b : Int) : Bool := decide (a ≤ n) && decide (n ≤ b)
theorem inR_iff {n a b : Int} : inR n a b = true ↔ a ≤ n ∧ n ≤ b := by simp [inR]
theorem inR_no {n a b : Int} : inR n a b = false ↔ ¬ (a ≤ n ∧ n ≤ b) := by rw [← inR_iff]; simp

/-- a box that is in order, but for its Parent -/
def okB (b : Bx) : Bool :=
  inR b.kind 0 3 && inR b.w 0 (if b.kind = 0 then 100 else 0) && inR b.h 0 (if b.kind = 0 then 100 else 0) && inR b.pad 0 50 && inR b.gap 0 50 && inR b.grow 0 10 && inR b.shrink 0 10 && inR b.justify 0 3

/-! ### trees -/
def bx (l : List Bx) (i : Nat) : Bx := l.getD i zb
def par (l : List Bx) (i : Nat) : Int := (bx l i).parent
def up (l : List Bx) : Nat → Nat → List Nat
  | 0, _ => []
  | f + 1, i => i :: (if 0 ≤ par l i then up l f (par l i).toNat else [])
/-- the box and the boxes around it, from within -/
def anc (l : List Bx) (i : Nat) : List Nat := up l (i + 1) i
/-- up to i the parents are smaller -/
def Down (l : List Bx) (i : Nat) : Prop := ∀ k, k ≤ i → par l k < k
theorem Down.mono {l : List Bx} {i j : Nat} (h : Down l i) (hj : j ≤ i) : Down l j := fun k hk => h k (Nat.le_trans hk hj)

theorem up_enough {l : List Bx} : ∀ (f g i : Nat), Down l i → i < f → i < g → up l f i = up l g i
  | 0, _, _, _, h, _ => by omega
  | _ + 1, 0, _, _, _, h => by omega
  | f + 1, g + 1, i, hd, hf, hg => by
    simp only [up]
    split
    · rename_i h0
      have := hd i (Nat.le_refl _)
      rw [up_enough f g _ (hd.mono (by omega)) (by omega) (by omega)]
    · rfl

theorem anc_eq {l : List Bx} {i : Nat} (hd : Down l i) : anc l i = i :: (if 0 ≤ par l i then anc l (par l i).toNat else []) := by
  unfold anc
  rw [show up l (i + 1) i = i :: (if 0 ≤ par l i then up l i (par l i).toNat else []) from rfl]
  split
  · rename_i h0
    have := hd i (Nat.le_refl _)
    rw [up_enough i ((par l i).toNat + 1) _ (hd.mono (by omega)) (by omega) (by omega)]
  · rfl
theorem anc_root {l : List Bx} {i : Nat} (hd : Down l i) (h : par l i < 0) : anc l i = [i] := by
  rw [anc_eq hd, if_neg (by omega)]
theorem anc_up {l : List Bx} {i p : Nat} (hd : Down l i) (h : par l i = p) : anc l i = i :: anc l p := by
  rw [anc_eq hd, h, if_pos (by omega)]
  simp

def ni (l : List Nat) : List Int := l.map fun (x : Nat) => (x : Int)
theorem ni_length (l : List Nat) : (ni l).length = l.length := by simp [ni]
theorem ni_append (l m : List Nat) : ni (l ++ m) = ni l ++ ni m := by simp [ni]
theorem ni_reverse (l : List Nat) : ni l.reverse = (ni l).reverse := by simp [ni]
theorem mem_ni {l : List Nat} {x : Int} : x ∈ ni l ↔ ∃ n, n ∈ l ∧ (n : Int) = x := by simp [ni]
theorem mem_ni_nat {l : List Nat} {n : Nat} : (n : Int) ∈ ni l ↔ n ∈ l := by
  rw [mem_ni]
  constructor
  · rintro ⟨m, hm, h⟩
    obtain rfl : m = n := by omega
    exact hm
  · exact fun h => ⟨n, h, rfl⟩

def kidTo (l : List Bx) (i : Int) (n : Nat) : List Nat := (List.range n).filter fun k => decide (par l k = i)
theorem kidTo_length (l : List Bx) (i : Int) (n : Nat) : (kidTo l i n).length ≤ n := by
  have := List.length_filter_le (fun k => decide (par l k = i)) (List.range n)
  rw [List.length_range] at this
  exact this
theorem kidTo_succ (l : List Bx) (i : Int) (n : Nat) : kidTo l i (n + 1) = kidTo l i n ++ (if par l n = i then [n] else []) := by
  unfold kidTo
  rw [List.range_succ, List.filter_append]
  by_cases h : par l n = i <;> simp [h]
/-- the boxes directly in a box -/
def kid (l : List Bx) (i : Int) : List Nat := (List.range l.length).filter fun k => decide (par l k = i)
def dep (l : List Bx) (i : Nat) : Nat := (anc l i).length - 1
/-- is a around i? -/
def arB (l : List Bx) (a i : Nat) : Bool := decide (a ∈ anc l i)
def cnt (l : List Bx) (a : Nat) : Nat := ((List.range l.length).filter fun i => arB l a i).length

structure Valid (l : List Bx) : Prop where
  lo : 1 ≤ l.length
  hi : l.length ≤ 16
  root : par l 0 = -1
  ok : ∀ i, i < l.length → okB (bx l i) = true
  par : ∀ i, 0 < i → i < l.length → 0 ≤ par l i ∧ par l i < i ∧ (par l i).toNat ∈ anc l (i - 1)
  depth : ∀ i, i < l.length → (anc l i).length ≤ 6
  kids : ∀ i : Nat, i < l.length → (kid l i).length ≤ 8 ∧ ((bx l i).kind = 0 → kid l i = [])

def vldB (l : List Bx) : Bool :=
  decide (1 ≤ l.length) && decide (l.length ≤ 16) && decide (par l 0 = -1) && (List.range l.length).all (fun i => okB (bx l i)) &&
  (List.range l.length).all (fun i => decide (i = 0) || (decide (0 ≤ par l i) && decide (par l i < i) && decide ((par l i).toNat ∈ anc l (i - 1)))) &&
  (List.range l.length).all (fun i => decide ((anc l i).length ≤ 6)) &&
  (List.range l.length).all (fun i => decide ((kid l i).length ≤ 8) && (!decide ((bx l i).kind = 0) || decide (kid l i = [])))

theorem vldB_iff {l : List Bx} : vldB l = true ↔ Valid l := by
  unfold vldB
  simp only [Bool.and_eq_true, decide_eq_true_eq, List.all_eq_true, List.mem_range, Bool.or_eq_true, Bool.not_eq_true', decide_eq_false_iff_not]
  constructor
  · rintro ⟨⟨⟨⟨⟨⟨h1, h2⟩, h3⟩, h4⟩, h5⟩, h6⟩, h7⟩
    refine ⟨h1, h2, h3, h4, fun i h0 hi => ?_, h6, fun i hi => ⟨(h7 i hi).1, fun hk => ?_⟩⟩
    · rcases h5 i hi with h | ⟨⟨h, h'⟩, h''⟩
      · omega
      · exact ⟨h, h', h''⟩
    · rcases (h7 i hi).2 with h | h
      · exact absurd hk h
      · exact h
  · rintro ⟨h1, h2, h3, h4, h5, h6, h7⟩
    refine ⟨⟨⟨⟨⟨⟨h1, h2⟩, h3⟩, h4⟩, fun i hi => ?_⟩, h6⟩, fun i hi => ⟨(h7 i hi).1, ?_⟩⟩
    · rcases Nat.eq_zero_or_pos i with h | h
      · exact .inl h
      · exact .inr ⟨⟨(h5 i h hi).1, (h5 i h hi).2.1⟩, (h5 i h hi).2.2⟩
    · by_cases hk : (bx l i).kind = 0
      · exact .inr ((h7 i hi).2 hk)
      · exact .inl hk

theorem Valid.down {l : List Bx} (h : Valid l) {i : Nat} (hi : i < l.length) : Down l i := by
  intro k hk
  rcases Nat.eq_zero_or_pos k with h0 | h0
  · subst h0
    rw [h.root]
    omega
  · exact (h.par k h0 (by omega)).2.1

end Go.Proofs.YtdlggpphfkjidaaGreatDoor
