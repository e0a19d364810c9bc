/-
  The plain words about memory that all texts of this seat use: a slice that reads as a list (Rd), a slice of the call's own (Own), append, in any program.
-/
import Derived.Test.YtdlggpphfkjidaaGreatDoorProg
import Derived.WalkKit
import Derived.WalkSpells
import Derived.WalkLawsBesides
import Derived.ArgAppend
import Derived.Lib.Hide
namespace Go.Proofs.YtdlggpphfkjidaaGreatDoor
open Go Go.RowKit

structure EL (P : Program) (t e : TypeId) (z : Value) (size bytes : Nat) : Prop where
  und : P.underlying t = some (.slice e)
  info : ∃ i, P.info? e = some i ∧ i.zero = some z ∧ i.size = size ∧ i.bytes = bytes
  zs : z.cells.size = size
  pos : 0 < size
  small : bytes ≤ 1024

def Rd (w : World) (size : Nat) (v : Value) (xs : List Value) : Prop :=
  ∃ (a : Option Addr) (n c : Nat), v = .slice a n c ∧ xs.length = n * size ∧ n ≤ c ∧ c ≤ maxLen ∧
    (xs = [] ∨ ∃ b off, a = some ⟨b, off, none⟩ ∧ ∀ j x, xs[j]? = some x → w.cell? ⟨b, off + j, none⟩ = some x)

def Own (w : World) (base size : Nat) (v : Value) (xs : List Value) : Prop :=
  ∃ (a : Option Addr) (n c : Nat), v = .slice a n c ∧ xs.length = n * size ∧ n ≤ c ∧ c ≤ maxLen ∧
    (c = 0 ∨ ∃ g off cur e, a = some ⟨g, off, none⟩ ∧ base ≤ g ∧ w.heap[g]? = some (.cells cur e (0, 0)) ∧ off + c * size ≤ cur.size ∧ (cur.toList.drop off).take (n * size) = xs)

/-- the block that a store through v may turn -/
def blk : Value → Option Nat
  | .slice (some a) _ c => if c = 0 then none else some a.block
  | _ => none

theorem cell_of_heap {w : World} {g off : Nat} {cur : Array Value} {e : TypeId} {f : Nat × Nat} (h : w.heap[g]? = some (.cells cur e f)) : w.cell? ⟨g, off, none⟩ = cur[off]? := by
  simp [World.cell?, h]

theorem Own.nil (w : World) (base size : Nat) : Own w base size (.slice none 0 0) [] :=
  ⟨none, 0, 0, rfl, by simp, Nat.le_refl _, Nat.zero_le _, .inl rfl⟩
theorem Rd.nil (w : World) (size : Nat) : Rd w size (.slice none 0 0) [] :=
  ⟨none, 0, 0, rfl, by simp, Nat.le_refl _, Nat.zero_le _, .inl rfl⟩
theorem Rd.empty (w : World) (size : Nat) (a : Option Addr) (c : Nat) (hc : c ≤ maxLen) : Rd w size (.slice a 0 c) [] :=
  ⟨a, 0, c, rfl, by simp, Nat.zero_le _, hc, .inl rfl⟩
theorem Own.empty (w : World) (base size : Nat) (a : Option Addr) : Own w base size (.slice a 0 0) [] :=
  ⟨a, 0, 0, rfl, by simp, Nat.le_refl _, Nat.zero_le _, .inl rfl⟩

theorem Own.rd {w : World} {base size : Nat} {v : Value} {xs : List Value} (h : Own w base size v xs) : Rd w size v xs := by
  obtain ⟨a, n, c, rfl, hl, hn, hc, h⟩ := h
  refine ⟨a, n, c, rfl, hl, hn, hc, ?_⟩
  rcases h with rfl | ⟨g, off, cur, e, rfl, hg, hb, hs, ht⟩
  · left
    obtain rfl : n = 0 := by omega
    exact List.eq_nil_of_length_eq_zero (by simpa using hl)
  · right
    refine ⟨g, off, rfl, fun j x hj => ?_⟩
    rw [cell_of_heap hb]
    subst ht
    rw [List.getElem?_take] at hj
    split at hj
    · rw [List.getElem?_drop] at hj
      simpa using hj
    · cases hj

theorem Own.lt {w : World} {base size : Nat} {v : Value} {xs : List Value} (h : Own w base size v xs) : ∀ k, blk v = some k → base ≤ k ∧ k < w.heap.size := by
  obtain ⟨a, n, c, rfl, hl, hn, hc, h⟩ := h
  intro k hk
  rcases h with rfl | ⟨g, off, cur, e, rfl, hg, hb, hs, ht⟩
  · cases a <;> simp [blk] at hk
  · simp [blk] at hk
    obtain ⟨_, rfl⟩ := hk
    exact ⟨hg, (Array.getElem?_eq_some_iff.1 hb).1⟩

theorem Own.weak {w : World} {base base' size : Nat} {v : Value} {xs : List Value} (h : Own w base size v xs) (hb : base' ≤ base) : Own w base' size v xs := by
  obtain ⟨a, n, c, rfl, hl, hn, hc, h⟩ := h
  refine ⟨a, n, c, rfl, hl, hn, hc, ?_⟩
  rcases h with rfl | ⟨g, off, cur, e, rfl, hg, h⟩
  · exact .inl rfl
  · exact .inr ⟨g, off, cur, e, rfl, Nat.le_trans hb hg, h⟩

theorem Own.kept {w w' : World} {row : Option Nat} {base size : Nat} {v : Value} {xs : List Value} (h : Own w base size v xs) (hg : w.grownBy w' row) (hne : blk v = none ∨ blk v ≠ row) : Own w' base size v xs := by
  obtain ⟨a, n, c, rfl, hl, hn, hc, h⟩ := h
  refine ⟨a, n, c, rfl, hl, hn, hc, ?_⟩
  rcases h with rfl | ⟨g, off, cur, e, rfl, hb, hh, hs, ht⟩
  · exact .inl rfl
  · by_cases hc0 : c = 0
    · exact .inl hc0
    · refine .inr ⟨g, off, cur, e, rfl, hb, ?_, hs, ht⟩
      rw [hg.block g ((Array.getElem?_eq_some_iff.1 hh).1) (by simp [blk, hc0] at hne; exact hne)]
      exact hh

/-- what is read stays as it was where old memory stays as it was -/
theorem Rd.below {w w' : World} {size B : Nat} {v : Value} {xs : List Value} (h : Rd w size v xs) (hb : Below B w w') (hB : w.heap.size ≤ B) : Rd w' size v xs := by
  obtain ⟨a, n, c, rfl, hl, hn, hc, h⟩ := h
  refine ⟨a, n, c, rfl, hl, hn, hc, ?_⟩
  rcases h with rfl | ⟨b, off, rfl, h⟩
  · exact .inl rfl
  · refine .inr ⟨b, off, rfl, fun j x hj => ?_⟩
    have := h j x hj
    rw [hb.cell (p := ⟨b, off + j, none⟩) (Nat.lt_of_lt_of_le (World.block_lt_of_cell? w _ this) hB)]
    exact this

theorem Own.below {w w' : World} {base size B : Nat} {v : Value} {xs : List Value} (h : Own w base size v xs) (hb : Below B w w') (hB : w.heap.size ≤ B) : Own w' base size v xs := by
  obtain ⟨a, n, c, rfl, hl, hn, hc, h⟩ := h
  refine ⟨a, n, c, rfl, hl, hn, hc, ?_⟩
  rcases h with rfl | ⟨g, off, cur, e, rfl, hg, hh, hs, ht⟩
  · exact .inl rfl
  · refine .inr ⟨g, off, cur, e, rfl, hg, ?_, hs, ht⟩
    rw [hb.block g (Nat.lt_of_lt_of_le ((Array.getElem?_eq_some_iff.1 hh).1) hB)]
    exact hh

theorem Below.of_alloc (w : World) (o : Obj) : Below w.heap.size w (w.alloc o) := (Below.refl _ _).alloc (Nat.le_refl _) o
theorem Rd.alloc {w : World} {size : Nat} {v : Value} {xs : List Value} (h : Rd w size v xs) (o : Obj) : Rd (w.alloc o) size v xs := h.below (Below.of_alloc w o) (Nat.le_refl _)
theorem Own.alloc {w : World} {base size : Nat} {v : Value} {xs : List Value} (h : Own w base size v xs) (o : Obj) : Own (w.alloc o) base size v xs := h.below (Below.of_alloc w o) (Nat.le_refl _)
theorem Rd.drew {w : World} {size : Nat} {v : Value} {xs : List Value} (h : Rd w size v xs) : Rd w.drew size v xs := h
theorem Own.drew {w : World} {base size : Nat} {v : Value} {xs : List Value} (h : Own w base size v xs) : Own w.drew base size v xs := h

/-- a new block that holds just the cells -/
theorem Own.made (w : World) (cur : Array Value) (e : TypeId) (base size n c : Nat) (hb : base ≤ w.heap.size) (hn : n ≤ c) (hc : c ≤ maxLen) (hs : cur.size = c * size) :
    Own (w.alloc (.cells cur e)) base size (.slice (some ⟨w.heap.size, 0, none⟩) n c) (cur.toList.take (n * size)) := by
  refine ⟨_, n, c, rfl, ?_, hn, hc, .inr ⟨w.heap.size, 0, cur, e, rfl, hb, heap_alloc_new w _, by omega, by simp⟩⟩
  simp only [List.length_take, Array.length_toList, hs]
  have := Nat.mul_le_mul_right size hn
  omega

theorem Rd.cells {w : World} {size : Nat} {a : Option Addr} {n c : Nat} {xs : List Value} (h : Rd w size (.slice a n c) xs) (hx : xs ≠ []) :
    ∃ b off, a = some ⟨b, off, none⟩ ∧ ∀ j x, xs[j]? = some x → w.cell? ⟨b, off + j, none⟩ = some x := by
  obtain ⟨a', n', c', e, hl, hn, hc, h⟩ := h
  cases e
  rcases h with rfl | h
  · exact absurd rfl hx
  · exact h

section
variable {P : Program} {w : World}
theorem run_firstCells_Rd {size m : Nat} {a : Option Addr} {c : Nat} {ys : List Value} (h : Rd w size (.slice a m c) ys) :
    (Builtin.firstCells size m (.slice a m c)).run P w = .ok ys.toArray w := by
  obtain ⟨a', n', c', e, hl, hn, hc, h⟩ := h
  cases e
  cases a with
  | none =>
    rcases h with rfl | ⟨b, off, h, _⟩
    · simp [Builtin.firstCells]
    · cases h
  | some a =>
    rcases h with rfl | ⟨b, off, h, hcell⟩
    · exact run_firstCells_some (P := P) w size m a m c [] hl (by simp)
    · cases h
      refine run_firstCells_some (P := P) w size m _ m c ys hl fun j v hj => ?_
      rw [Addr.add_lit]
      exact hcell j v hj

theorem run_append_Own {t e ty : TypeId} {z : Value} {size bytes : Nat} (E : EL P t e z size bytes) {base : Nat} {v : Value} {xs : List Value} (hv : Own w base size v xs)
    {src : Value} {ys : List Value} (hs : Rd w size src ys) (h1 : ∀ y ∈ ys, y.oneCell' = true) (hlen : xs.length + ys.length ≤ 1073741824) (hbase : base ≤ w.heap.size) :
    ∃ v' w', (Builtin.append_ #[t, t] ty #[v, src]).run P w = .ok v' w' ∧ Own w' base size v' (xs ++ ys) ∧ w.grownBy w' (blk v) ∧
      (blk v' = blk v ∨ ∃ k, blk v' = some k ∧ w.heap.size ≤ k) := by
  obtain ⟨i, hi, hz, hsz, hby⟩ := E.info
  have ht := E.und
  have hpos := E.pos
  have hsm := E.small
  have hzs := E.zs
  have hv' := hv
  have hs' := hs
  obtain ⟨a, n, c, rfl, hl, hn, hc, hown⟩ := hv
  obtain ⟨sa, m, sc, rfl, hsl, hsn, hsc, hrd⟩ := hs
  have hf := run_firstCells_Rd (P := P) hs'
  have hnl : n ≤ xs.length := by rw [hl]; exact Nat.le_mul_of_pos_right n hpos
  have hml : m ≤ ys.length := by rw [hsl]; exact Nat.le_mul_of_pos_right m hpos
  have hnm : n + m ≤ 1073741824 := by omega
  subst hsz
  by_cases hroom : n + m ≤ c
  · by_cases hm : m = 0
    · subst hm
      obtain rfl : ys = [] := List.eq_nil_of_length_eq_zero (by simpa using hsl)
      refine ⟨.slice a n c, w, ?_, by simpa using hv', ⟨rfl, rfl, rfl, Nat.le_refl _, fun _ _ _ => rfl⟩, .inl rfl⟩
      cases a with
      | none => simp [Builtin.append_, run_underlying ht, sizeOf, typeInfo, hi, Builtin.lenOf, hn, hf]
      | some a => simp [Builtin.append_, run_underlying ht, sizeOf, typeInfo, hi, Builtin.lenOf, hn, hf, storeCells]
    · rcases hown with rfl | ⟨g, off, cur, e', rfl, hg, hh, hfit, htake⟩
      · omega
      · have hlen' : (n + m) * i.size ≤ c * i.size := Nat.mul_le_mul_right _ hroom
        have hfit' : off + n * i.size + ys.length ≤ cur.size := by
          rw [Nat.add_mul] at hlen'
          omega
        have hst := run_storeCells_at P g (off + n * i.size) e' ys 0 cur w hh (by simpa using hfit') h1
        simp only [Nat.add_zero] at hst
        refine ⟨_, _, (by simp [Builtin.append_, run_underlying ht, sizeOf, typeInfo, hi, Builtin.lenOf, hroom, hf, Addr.add_lit, hst]; exact ⟨rfl, rfl⟩), ?_, ?_, .inl ?_⟩
        · refine ⟨_, n + m, c, rfl, by rw [List.length_append, hl, hsl, Nat.add_mul], hroom, hc, .inr ⟨g, off, _, e', rfl, hg, setRow_heap w g cur _ e' _ hh, ?_, ?_⟩⟩
          · simp only [List.size_toArray, List.length_append, List.length_take, List.length_drop, Array.length_toList]
            omega
          · have hd : (cur.toList.drop off).take (n * i.size) = xs := htake
            have hxl : (List.take (off + n * i.size) cur.toList).length = off + n * i.size := by
              rw [List.length_take, Array.length_toList]; omega
            rw [Nat.add_mul, ← hsl]
            dsimp only
            rw [List.drop_append_of_le_length (by omega), List.drop_take, show off + n * i.size - off = n * i.size from by omega, hd, ← List.append_assoc, ← hl, ← List.length_append]
            exact List.take_left
        · have hc0 : c ≠ 0 := by omega
          exact ⟨rfl, rfl, rfl, by simp, fun k _ hk => setRow_other w g k _ (fun e => hk (by simp [blk, e, hc0]))⟩
        · simp [blk]
  · have hfo := run_firstCells_Rd (P := P) hv'.rd
    have hfo' := run_firstCells_Rd (P := P) (w := w.drew) (hv'.rd.drew)
    have hf' := run_firstCells_Rd (P := P) (w := w.drew) (hs'.drew)
    have hge := grownCap_ge w (n + m) c e
    have hcm : grownCap w (n + m) c e ≤ maxLen := grownCap_le_maxLen w (n + m) c e (by simp only [maxLen]; omega)
    have hn' : ¬ (n + m ≤ c) := hroom
    have h63' : ¬ (9223372036854775807 < ((n : Int) + (m : Int))) := by omega
    have hb47 : (n + m) * i.bytes ≤ 140737488355328 := by
      rw [hby]
      have := Nat.mul_le_mul hnm hsm
      omega
    have h48 := growslice_fits (bytes := i.bytes) (show c < n + m by omega) hb47
    have h48' : ¬ (281474976710656 < Builtin.nextslicecap (n + m) c * i.bytes) := by omega
    refine ⟨.slice (some ⟨w.heap.size, 0, none⟩) (n + m) (grownCap w (n + m) c e), w.drew.alloc (.cells (xs.toArray ++ ys.toArray ++ Builtin.zeroCells z.cells (grownCap w (n + m) c e - (n + m))) e), ?_, ?_, ?_, ?_⟩
    · simp [Builtin.append_, run_underlying ht, sizeOf, typeInfo, zeroValue, hi, hz, Builtin.lenOf, hn', h63', h48', Question.forced, hf', hfo', newRow, grownCap]
      congr 2
      apply Array.ext'
      simp
    · refine ⟨_, _, _, rfl, by rw [List.length_append, hl, hsl, Nat.add_mul], hge, hcm, .inr ⟨w.heap.size, 0, _, e, rfl, hbase, heap_alloc_new w.drew _, ?_, ?_⟩⟩
      · simp only [Array.size_append, List.size_toArray, size_zeroCells, hzs, hl, hsl, ← Nat.add_mul]
        rw [show n + m + (grownCap w (n + m) c e - (n + m)) = grownCap w (n + m) c e from by omega]
        omega
      · simp only [Array.toList_append, List.append_assoc, List.drop_zero]
        rw [← List.append_assoc, Nat.add_mul, ← hl, ← hsl, ← List.length_append]
        exact List.take_left
    · exact ⟨rfl, rfl, rfl, by simp, fun k hk _ => Below.heap_alloc w.drew _ k hk⟩
    · right
      refine ⟨w.heap.size, ?_, Nat.le_refl _⟩
      have : ¬ grownCap w (n + m) c e = 0 := by omega
      simp [blk, this]
end

/-! ### lists of ints -/
def Is (l : List Int) : List Value := l.map (Value.int .i64)
theorem Is_length (l : List Int) : (Is l).length = l.length := by simp [Is]
theorem Is_append (l m : List Int) : Is (l ++ m) = Is l ++ Is m := by simp [Is]
theorem Is_get {l : List Int} {j : Nat} {x : Int} (h : l[j]? = some x) : (Is l)[j]? = some (.int .i64 x) := by simp [Is, h]
theorem Is_one (l : List Int) : ∀ y ∈ Is l, y.oneCell' = true := by
  intro y hy
  simp only [Is, List.mem_map] at hy
  obtain ⟨x, _, rfl⟩ := hy
  rfl

theorem Rd.ints {w : World} {v : Value} {l : List Int} (h : Rd w 1 v (Is l)) :
    ∃ a c, v = .slice a l.length c ∧ l.length ≤ c ∧ c ≤ maxLen ∧ ∀ (k : Nat) (x : Int), l[k]? = some x → ∃ b off, a = some ⟨b, off, none⟩ ∧ ∀ (j : Nat) (y : Int), l[j]? = some y → w.cell? ⟨b, off + j, none⟩ = some (.int .i64 y) := by
  obtain ⟨a, n, c, rfl, hl, hn, hc, hx⟩ := h
  rw [Is_length] at hl
  obtain rfl : n = l.length := by omega
  refine ⟨a, c, rfl, hn, hc, fun k x hk => ?_⟩
  rcases hx with hx | ⟨b, off, rfl, hx⟩
  · have := congrArg List.length hx
    rw [Is_length] at this
    have : l = [] := List.eq_nil_of_length_eq_zero this
    subst this
    simp at hk
  · exact ⟨b, off, rfl, fun j y hy => hx j _ (Is_get hy)⟩

/-- the one element of '[]int{x}' -/
theorem Rd.one (w : World) (cs : Array Value) (e : TypeId) : Rd (w.alloc (.cells cs e)) cs.size (.slice (some ⟨w.heap.size, 0, none⟩) 1 1) cs.toList := by
  refine ⟨_, 1, 1, rfl, by simp, Nat.le_refl _, by decide, .inr ⟨_, 0, rfl, fun j x hj => ?_⟩⟩
  rw [cell_of_heap (heap_alloc_new w _)]
  simpa using hj

theorem Rd.oneAt {w : World} {g : Nat} (cs : Array Value) (e : TypeId) (hg : g = w.heap.size) : Rd (w.alloc (.cells cs e)) cs.size (.slice (some ⟨g, 0, none⟩) 1 1) cs.toList := by
  subst hg
  exact Rd.one w cs e

section
variable {P : Program} {w : World} {ops : Array Oper} {rest : List Oper} {o : Oper} {a : Act} {Q : Exit → Act → World → Prop}
/-- append in a walk -/
theorem wpList_app (hg : o.guard = none) (s x : Operand) (t : TypeId) (hop : o.op = Op.call { callee := Callee.builtin Builtin.append, args := #[s, x], argTypes := #[t, t] })
    {e : TypeId} {z : Value} {size bytes : Nat} (E : EL P t e z size bytes) {base : Nat} {v : Value} {xs : List Value} (hs : a.eval s = v) (hv : Own w base size v xs)
    {src : Value} {ys : List Value} (hx : a.eval x = src) (hsrc : Rd w size src ys) (h1 : ∀ y ∈ ys, y.oneCell' = true) (hlen : xs.length + ys.length ≤ 1073741824) (hbase : base ≤ w.heap.size)
    (hK : ∀ v' w', Own w' base size v' (xs ++ ys) → w.grownBy w' (blk v) → (blk v' = blk v ∨ ∃ k, blk v' = some k ∧ w.heap.size ≤ k) → wpList P ops Q rest (a.put o.dst v') w') :
    wpList P ops Q (o :: rest) a w := by
  refine wpList_plain hg fun K hK' => ?_
  obtain ⟨v', w', hrun, r1, r2, r3⟩ := run_append_Own (P := P) (ty := o.type) E hv hsrc h1 hlen hbase
  unfold Oper.wp
  simp [execOp, hop, resolve, invoke, builtin, hs, hx, hrun, Result.andThen]
  exact hK' _ _ (hK v' w' r1 r2 r3)
end

theorem below_app {B base size : Nat} {a w w' : World} {v : Value} {xs : List Value} (h : Below B a w) (ho : Own w base size v xs) (hg : w.grownBy w' (blk v)) (hB : B ≤ w.heap.size) (hb : B ≤ base) : Below B a w' :=
  h.grown hg hB fun k hk => Nat.le_trans hb (ho.lt k hk).1

theorem Own.clip {w : World} {base size : Nat} {a : Option Addr} {n c : Nat} {xs : List Value} (h : Own w base size (.slice a n c) xs) : Own w base size (.slice a n n) xs := by
  obtain ⟨a', n', c', e, hl, hn, hc, h⟩ := h
  cases e
  refine ⟨a, n, n, rfl, hl, Nat.le_refl _, by omega, ?_⟩
  rcases h with rfl | ⟨g, off, cur, e, rfl, hg, hh, hs, ht⟩
  · exact .inl (by omega)
  · have := Nat.mul_le_mul_right size hn
    exact .inr ⟨g, off, cur, e, rfl, hg, hh, by omega, ht⟩

theorem Own.cells {w : World} {base size : Nat} {v : Value} {xs : List Value} (h : Own w base size v xs) (hx : xs ≠ []) :
    ∃ b off n c, v = .slice (some ⟨b, off, none⟩) n c ∧ xs.length = n * size ∧ blk v = some b ∧ base ≤ b ∧ b < w.heap.size ∧ (∀ j x, xs[j]? = some x → w.cell? ⟨b, off + j, none⟩ = some x) ∧ (∀ j, w.frozen? ⟨b, off + j, none⟩ = false) ∧
      ∀ j u, j < xs.length → Own (w.setCell ⟨b, off + j, none⟩ u) base size v (xs.set j u) := by
  have hrd := h.rd
  obtain ⟨a, n, c, rfl, hl, hn, hc, h⟩ := h
  rcases h with rfl | ⟨g, off, cur, e, rfl, hg, hh, hs, ht⟩
  · obtain rfl : n = 0 := by omega
    exact absurd (List.eq_nil_of_length_eq_zero (by simpa using hl)) hx
  · obtain ⟨b', off', e', hcell⟩ := hrd.cells hx
    cases e'
    have hc0 : ¬ c = 0 := by
      rintro rfl
      obtain rfl : n = 0 := by omega
      exact hx (List.eq_nil_of_length_eq_zero (by simpa using hl))
    refine ⟨g, off, n, c, rfl, hl, by simp [blk, hc0], hg, (Array.getElem?_eq_some_iff.1 hh).1, hcell, fun j => by simp [World.frozen?, hh], fun j u hj => ?_⟩
    refine ⟨_, n, c, rfl, by simpa using hl, hn, hc, .inr ⟨g, off, cur.setIfInBounds (off + j) u, e, rfl, hg, ?_, by simpa using hs, ?_⟩⟩
    · simp only [World.setCell, Array.getElem?_modify]
      simp [hh]
    · subst ht
      apply List.ext_getElem?
      intro i
      simp only [List.getElem?_take, List.getElem?_drop, List.getElem?_set, Array.toList_setIfInBounds]
      simp only [List.length_take, List.length_drop, Array.length_toList] at hj ⊢
      by_cases hi : i < n * size
      · by_cases hij : j = i
        · subst hij
          have : off + j < cur.size := by omega
          simp [hi, this]
          omega
        · have : ¬ (off + j = off + i) := by omega
          simp [hi, hij]
      · simp [hi]
        omega

theorem Own.setOther {w : World} {base size : Nat} {v : Value} {xs : List Value} (h : Own w base size v xs) {p : Addr} (hp : blk v ≠ some p.block) (u : Value) : Own (w.setCell p u) base size v xs := by
  obtain ⟨a, n, c, rfl, hl, hn, hc, h⟩ := h
  refine ⟨a, n, c, rfl, hl, hn, hc, ?_⟩
  rcases h with rfl | ⟨g, off, cur, e, rfl, hb, hh, hs, ht⟩
  · exact .inl rfl
  · by_cases hc0 : c = 0
    · exact .inl hc0
    · refine .inr ⟨g, off, cur, e, rfl, hb, ?_, hs, ht⟩
      rw [Below.heap_setCell _ _ _ _ (by intro e; simp [blk, hc0] at hp; exact hp e)]
      exact hh

end Go.Proofs.YtdlggpphfkjidaaGreatDoor
