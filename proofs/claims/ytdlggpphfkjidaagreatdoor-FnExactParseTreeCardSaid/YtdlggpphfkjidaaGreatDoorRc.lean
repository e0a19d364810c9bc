/-
  Rectangles and flexible sizes as plain data, and as cells in memory.
-/
import Derived.Test.YtdlggpphfkjidaaGreatDoorTree
import Derived.Test.YtdlggpphfkjidaaGreatDoorFx
namespace Go.Proofs.YtdlggpphfkjidaaGreatDoor
open Go Go.RowKit

/-! ### lists of things of k cells -/
def Gs {α : Type} (f : α → List Value) (l : List α) : List Value := l.flatMap f
theorem Gs_append {α : Type} (f : α → List Value) (l m : List α) : Gs f (l ++ m) = Gs f l ++ Gs f m := by simp [Gs]
theorem Gs_length {α : Type} {f : α → List Value} {k : Nat} (hf : ∀ x, (f x).length = k) : ∀ (l : List α), (Gs f l).length = l.length * k
  | [] => by simp [Gs]
  | b :: l => by
    have := Gs_length hf l
    show (f b ++ Gs f l).length = _
    rw [List.length_append, this, hf, List.length_cons, Nat.add_mul]
    omega
theorem Gs_get {α : Type} {f : α → List Value} {k : Nat} (hf : ∀ x, (f x).length = k) : ∀ {l : List α} {i : Nat} {b : α}, l[i]? = some b → ∀ {j : Nat}, j < k → (Gs f l)[i * k + j]? = (f b)[j]?
  | [], _, _, h, _, _ => by simp at h
  | c :: l, 0, b, h, j, hj => by
    simp only [List.getElem?_cons_zero, Option.some.injEq] at h
    subst h
    show (f c ++ Gs f l)[_]? = _
    rw [List.getElem?_append_left (by rw [hf]; omega)]
    simp
  | c :: l, i + 1, b, h, j, hj => by
    simp only [List.getElem?_cons_succ] at h
    show (f c ++ Gs f l)[_]? = _
    rw [List.getElem?_append_right (by rw [hf, Nat.add_mul]; omega), hf, ← Gs_get hf h hj]
    congr 1
    rw [Nat.add_mul]
    omega
theorem Rd.gs {α : Type} {f : α → List Value} {k : Nat} (hk : 0 < k) (hf : ∀ x, (f x).length = k) {w : World} {v : Value} {l : List α} (h : Rd w k v (Gs f l)) :
    ∃ a c, v = .slice a l.length c ∧ l.length ≤ c ∧ c ≤ maxLen ∧ ∀ (q : Nat) (x : α), l[q]? = some x → ∃ b off, a = some ⟨b, off, none⟩ ∧ b < w.heap.size ∧
      ∀ (i : Nat) (y : α), l[i]? = some y → ∀ (j : Nat), j < k → ∀ u, (f y)[j]? = some u → w.cell? ⟨b, off + (i * k + j), none⟩ = some u := by
  obtain ⟨a, n, c, rfl, hl, hn, hc, hx⟩ := h
  rw [Gs_length hf] at hl
  obtain rfl : l.length = n := Nat.eq_of_mul_eq_mul_right hk hl
  refine ⟨a, c, rfl, hn, hc, fun q x hq => ?_⟩
  rcases hx with hx | ⟨b, off, rfl, hx⟩
  · have := congrArg List.length hx
    rw [Gs_length hf, List.length_nil] at this
    have hlt := (List.getElem?_eq_some_iff.1 hq).1
    have := Nat.mul_pos (show 0 < l.length by omega) hk
    omega
  · have key : ∀ (i : Nat) (y : α), l[i]? = some y → ∀ (j : Nat), j < k → ∀ u, (f y)[j]? = some u → w.cell? ⟨b, off + (i * k + j), none⟩ = some u :=
      fun i y hy j hj u hu => hx _ _ (by rw [Gs_get hf hy hj]; exact hu)
    obtain ⟨u, hu⟩ : ∃ u, (f x)[0]? = some u := ⟨_, List.getElem?_eq_getElem (by rw [hf]; exact hk)⟩
    exact ⟨b, off, rfl, World.block_lt_of_cell? w _ (key q x hq 0 hk u hu), key⟩

/-! ### rectangles -/
structure Rc where
  x : Int
  y : Int
  w : Int
  h : Int
def zr : Rc := ⟨0, 0, 0, 0⟩
def Rc.vals (r : Rc) : List Value := [.int .i64 r.x, .int .i64 r.y, .int .i64 r.w, .int .i64 r.h]
def Rc.arr (r : Rc) : Array Value := #[.int .i64 r.x, .int .i64 r.y, .int .i64 r.w, .int .i64 r.h]
def Rc.agg (r : Rc) : Value := .agg #[.int .i64 r.x, .int .i64 r.y, .int .i64 r.w, .int .i64 r.h]
def Rs (l : List Rc) : List Value := Gs Rc.vals l
theorem Rc.vals_length (r : Rc) : r.vals.length = 4 := rfl
theorem Rs_length (l : List Rc) : (Rs l).length = l.length * 4 := Gs_length Rc.vals_length l
theorem Rs_append (l m : List Rc) : Rs (l ++ m) = Rs l ++ Rs m := Gs_append _ l m
theorem Rs_one (l : List Rc) : ∀ y ∈ Rs l, y.oneCell' = true := by
  intro y hy
  simp only [Rs, Gs, List.mem_flatMap, Rc.vals, List.mem_cons, List.not_mem_nil, or_false] at hy
  obtain ⟨b, _, h⟩ := hy
  rcases h with h | h | h | h <;> subst h <;> rfl
/-- the four cells of a rectangle that is read -/
structure Cells4 (w : World) (b o : Nat) (r : Rc) : Prop where
  c0 : w.cell? ⟨b, o, none⟩ = some (.int .i64 r.x)
  c1 : w.cell? ⟨b, o + 1, none⟩ = some (.int .i64 r.y)
  c2 : w.cell? ⟨b, o + 2, none⟩ = some (.int .i64 r.w)
  c3 : w.cell? ⟨b, o + 3, none⟩ = some (.int .i64 r.h)
theorem Rd.rects {w : World} {v : Value} {l : List Rc} (h : Rd w 4 v (Rs l)) :
    ∃ a c, v = .slice a l.length c ∧ l.length ≤ c ∧ c ≤ maxLen ∧ ∀ (k : Nat) (x : Rc), l[k]? = some x → ∃ b off, a = some ⟨b, off, none⟩ ∧ b < w.heap.size ∧ ∀ (j : Nat) (y : Rc), l[j]? = some y → Cells4 w b (off + j * 4) y := by
  obtain ⟨a, c, rfl, hn, hc, hx⟩ := Rd.gs (by omega) Rc.vals_length h
  refine ⟨a, c, rfl, hn, hc, fun k x hk => ?_⟩
  obtain ⟨b, off, rfl, hb, key⟩ := hx k x hk
  refine ⟨b, off, rfl, hb, fun j y hy => ?_⟩
  have g := key j y hy
  exact ⟨g 0 (by omega) _ rfl, g 1 (by omega) _ rfl, g 2 (by omega) _ rfl, g 3 (by omega) _ rfl⟩
theorem Cells4.below {w w' : World} {b o B : Nat} {x : Rc} (h : Cells4 w b o x) (hb : Below B w w') (hB : b < B) : Cells4 w' b o x := by
  obtain ⟨h0, h1, h2, h3⟩ := h
  constructor <;> (rw [hb.cell (by exact hB)]; assumption)
theorem cells4_of {w : World} {g : Nat} {x : Rc} {e : TypeId} (h : w.heap[g]? = some (.cells x.arr e)) : Cells4 w g 0 x := by
  constructor <;> (rw [cell_of_heap h]; rfl)
/-- a rectangle stored into a list of the call's own -/
theorem Own.setRc {w : World} {base : Nat} {v : Value} {l : List Rc} (h : Own w base 4 v (Rs l)) {b off n c : Nat} (hv : v = .slice (some ⟨b, off, none⟩) n c) {i : Nat} (hi : i < l.length) (x : Rc) :
    Own ((((w.setCell ⟨b, off + i * 4, none⟩ (.int .i64 x.x)).setCell ⟨b, off + i * 4 + 1, none⟩ (.int .i64 x.y)).setCell ⟨b, off + i * 4 + 2, none⟩ (.int .i64 x.w)).setCell ⟨b, off + i * 4 + 3, none⟩ (.int .i64 x.h)) base 4 v (Rs (l.set i x)) := by
  have step : ∀ (w : World) (xs : List Value), Own w base 4 v xs → ∀ (j : Nat) (u : Value), j < xs.length → Own (w.setCell ⟨b, off + j, none⟩ u) base 4 v (xs.set j u) := fun w xs ho j u hj => by
    obtain ⟨b', off', n', c', e, _, _, _, _, _, _, hset⟩ := ho.cells (by intro e; subst e; simp at hj)
    rw [hv] at e
    cases e
    exact hset j u hj
  have hl := Rs_length l
  have s0 := step _ _ h (i * 4) (.int .i64 x.x) (by omega)
  have s1 := step _ _ s0 (i * 4 + 1) (.int .i64 x.y) (by simp; omega)
  have s2 := step _ _ s1 (i * 4 + 2) (.int .i64 x.w) (by simp; omega)
  have s3 := step _ _ s2 (i * 4 + 3) (.int .i64 x.h) (by simp; omega)
  simp only [← Nat.add_assoc] at s3
  have e : Rs (l.set i x) = ((((Rs l).set (i * 4) (.int .i64 x.x)).set (i * 4 + 1) (.int .i64 x.y)).set (i * 4 + 2) (.int .i64 x.w)).set (i * 4 + 3) (.int .i64 x.h) := by
    apply List.ext_getElem?
    intro q
    by_cases hq : q < l.length * 4
    · obtain ⟨k, hk⟩ : ∃ k, k = q / 4 := ⟨_, rfl⟩
      obtain ⟨j, hj⟩ : ∃ j, j = q % 4 := ⟨_, rfl⟩
      have hqe : q = k * 4 + j := by omega
      have hj4 : j < 4 := by omega
      have hkl : k < l.length := by omega
      clear hk hj
      subst hqe
      have hget : ∀ y, (l.set i x)[k]? = some y → (Rs (l.set i x))[k * 4 + j]? = y.vals[j]? := fun y hy => Gs_get Rc.vals_length hy hj4
      simp only [List.getElem?_set, List.length_set, hl]
      by_cases hki : k = i
      · subst hki
        rw [hget x (by simp [hkl])]
        have : j = 0 ∨ j = 1 ∨ j = 2 ∨ j = 3 := by omega
        rcases this with rfl | rfl | rfl | rfl <;> simp [Rc.vals] <;> omega
      · obtain ⟨y, hy⟩ : ∃ y, l[k]? = some y := ⟨_, List.getElem?_eq_getElem hkl⟩
        rw [hget y (by rw [List.getElem?_set_ne (by omega)]; exact hy), show (Rs l)[k * 4 + j]? = y.vals[j]? from Gs_get Rc.vals_length hy hj4]
        rw [if_neg (by omega), if_neg (by omega), if_neg (by omega), if_neg (by omega)]
    · rw [List.getElem?_eq_none (by rw [Rs_length, List.length_set]; omega), List.getElem?_eq_none (by simp only [List.length_set, hl]; omega)]
  rw [e]
  exact s3
theorem Rs_zero (n : Nat) : Rs (List.replicate n zr) = List.replicate (n * 4) (.int .i64 0) := by
  induction n with
  | zero => rfl
  | succ n ih =>
    rw [List.replicate_succ]
    show Rc.vals zr ++ Rs (List.replicate n zr) = _
    rw [ih, show (n + 1) * 4 = n * 4 + 1 + 1 + 1 + 1 from by omega]
    simp only [List.replicate_succ]
    rfl

/-! ### flexible sizes -/
def Flx.vals (f : Flx) : List Value := [.int .i64 f.base, .int .i64 f.min, .int .i64 f.max, .int .i64 f.grow, .int .i64 f.shrink]
def Flx.arr (f : Flx) : Array Value := #[.int .i64 f.base, .int .i64 f.min, .int .i64 f.max, .int .i64 f.grow, .int .i64 f.shrink]
def Fs (l : List Flx) : List Value := Gs Flx.vals l
theorem Flx.vals_length (f : Flx) : f.vals.length = 5 := rfl
theorem Fs_length (l : List Flx) : (Fs l).length = l.length * 5 := Gs_length Flx.vals_length l
theorem Fs_append (l m : List Flx) : Fs (l ++ m) = Fs l ++ Fs m := Gs_append _ l m
theorem Fs_one (l : List Flx) : ∀ y ∈ Fs l, y.oneCell' = true := by
  intro y hy
  simp only [Fs, Gs, List.mem_flatMap, Flx.vals, List.mem_cons, List.not_mem_nil, or_false] at hy
  obtain ⟨b, _, h⟩ := hy
  rcases h with h | h | h | h | h <;> subst h <;> rfl
structure Cells5 (w : World) (b o : Nat) (f : Flx) : Prop where
  c0 : w.cell? ⟨b, o, none⟩ = some (.int .i64 f.base)
  c1 : w.cell? ⟨b, o + 1, none⟩ = some (.int .i64 f.min)
  c2 : w.cell? ⟨b, o + 2, none⟩ = some (.int .i64 f.max)
  c3 : w.cell? ⟨b, o + 3, none⟩ = some (.int .i64 f.grow)
  c4 : w.cell? ⟨b, o + 4, none⟩ = some (.int .i64 f.shrink)
theorem Rd.flxs {w : World} {v : Value} {l : List Flx} (h : Rd w 5 v (Fs l)) :
    ∃ a c, v = .slice a l.length c ∧ l.length ≤ c ∧ c ≤ maxLen ∧ ∀ (k : Nat) (x : Flx), l[k]? = some x → ∃ b off, a = some ⟨b, off, none⟩ ∧ b < w.heap.size ∧ ∀ (j : Nat) (y : Flx), l[j]? = some y → Cells5 w b (off + j * 5) y := by
  obtain ⟨a, c, rfl, hn, hc, hx⟩ := Rd.gs (by omega) Flx.vals_length h
  refine ⟨a, c, rfl, hn, hc, fun k x hk => ?_⟩
  obtain ⟨b, off, rfl, hb, key⟩ := hx k x hk
  refine ⟨b, off, rfl, hb, fun j y hy => ?_⟩
  have g := key j y hy
  exact ⟨g 0 (by omega) _ rfl, g 1 (by omega) _ rfl, g 2 (by omega) _ rfl, g 3 (by omega) _ rfl, g 4 (by omega) _ rfl⟩
theorem Cells5.below {w w' : World} {b o B : Nat} {x : Flx} (h : Cells5 w b o x) (hb : Below B w w') (hB : b < B) : Cells5 w' b o x := by
  obtain ⟨h0, h1, h2, h3, h4⟩ := h
  constructor <;> (rw [hb.cell (by exact hB)]; assumption)

end Go.Proofs.YtdlggpphfkjidaaGreatDoor
