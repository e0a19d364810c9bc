/-
  Reading texts back, of the program: ParseTree, a range over the iterator of strings.SplitSeq.
-/
import Derived.RangeFuncNested
import Derived.RangeFuncBound
import Derived.RangeFuncCalls
import Derived.RangeFuncLeaves
import Derived.Shelf.Abstract
import Derived.WalkKit
import Derived.OwnWalkIn
import Derived.TacticsInMore
import Derived.LoopNIn
import Derived.LoopIn
import Derived.Sort.CutIn
import Derived.StillTailTactics
import Derived.Test.YtdlggpphfkjidaaGreatDoorRng
import Derived.Test.YtdlggpphfkjidaaGreatDoorISeq
import Derived.Test.YtdlggpphfkjidaaGreatDoorIPb
import Derived.Test.YtdlggpphfkjidaaGreatDoorSPt
import Derived.Test.YtdlggpphfkjidaaGreatDoorFTxt
namespace Go.Proofs.YtdlggpphfkjidaaGreatDoor
open Go Go.RowKit
attribute [local go_sem] Oper.semAt_some

/-! ### the blocks of ParseTree -/
theorem Own.cellsAt {w : World} {base size : Nat} {v : Value} {xs : List Value} (h : Own w base size v xs) {q : Nat} (hq : blk v = some q) : ∃ cur e, w.heap[q]? = some (.cells cur e (0, 0)) := by
  obtain ⟨a, n, c, rfl, hl, hn, hc, h⟩ := h
  rcases h with rfl | ⟨g, off, cur, e, rfl, hg, hb, hs, ht⟩
  · cases a <;> simp [blk] at hq
  · unfold blk at hq
    dsimp only at hq
    split at hq
    · cases hq
    · cases hq
      exact ⟨cur, e, hb⟩
theorem keepG {k : Nat} {o : Obj} {w w' : World} {row : Option Nat} (h : Keep k o w) (hg : w.grownBy w' row) (hne : some k ≠ row) : Keep k o w' := (hg.block k h.lt hne).trans h
theorem Own.takeG {w : World} {base size : Nat} {a : Option Addr} {n c : Nat} {xs : List Value} (h : Own w base size (.slice a n c) xs) {m : Nat} (hm : m ≤ n) : Own w base size (.slice a m c) (xs.take (m * size)) := by
  obtain ⟨a2, n2, c2, e, hl, hn, hc, h⟩ := h
  cases e
  have := Nat.mul_le_mul_right size hm
  refine ⟨a, m, c, rfl, by rw [List.length_take]; omega, by omega, hc, ?_⟩
  rcases h with rfl | ⟨g, off, cur, e, rfl, hg, hb, hs, ht⟩
  · exact .inl rfl
  · refine .inr ⟨g, off, cur, e, rfl, hg, hb, hs, ?_⟩
    rw [← ht, List.take_take, Nat.min_eq_left (by omega)]
theorem Own.raise {w : World} {base base' size : Nat} {v : Value} {xs : List Value} (h : Own w base size v xs) (hb : ∀ q, blk v = some q → base' ≤ q) : Own w base' size v xs := by
  obtain ⟨a, n, c, rfl, hl, hn, hc, h⟩ := h
  refine ⟨a, n, c, rfl, hl, hn, hc, ?_⟩
  rcases h with rfl | ⟨g, off, cur, e, rfl, hg, hh, hs, ht⟩
  · exact .inl rfl
  · by_cases hc0 : c = 0
    · exact .inl hc0
    · exact .inr ⟨g, off, cur, e, rfl, hb g (by simp [blk, hc0]), hh, hs, ht⟩
/-- the two results are stored, and the block of deferred calls is shut -/
def fin (n D : Nat) (W : World) (v : Value) (b : Bool) : World := ((W.setCell ⟨n, 0, none⟩ v).setCell ⟨n + 1, 0, none⟩ (.bool b)).putObj D (.deferred none)
theorem fin_cells {n D : Nat} {W W0 : World} {v v0 : Value} {b : Bool} (k0 : Keep n (.cells #[v0] 23) W) (k1 : Keep (n + 1) (.cells #[.bool false] 4) W) (hD : n + 9 ≤ D) (hb : Below n W0 W) (hn : n = W0.heap.size) :
    (fin n D W v b).cell? ⟨n, 0, none⟩ = some v ∧ (fin n D W v b).cell? ⟨n + 1, 0, none⟩ = some (.bool b) ∧ Ext W0 (fin n D W v b) := by
  have k0' : Keep n (.cells #[v] 23) (W.setCell ⟨n, 0, none⟩ v) := k0.store 0 _
  have k1' : Keep (n + 1) (.cells #[.bool false] 4) (W.setCell ⟨n, 0, none⟩ v) := k1.setOther (p := ⟨n, 0, none⟩) (by show n + 1 ≠ n; omega) _
  have k0'' : Keep n (.cells #[v] 23) ((W.setCell ⟨n, 0, none⟩ v).setCell ⟨n + 1, 0, none⟩ (.bool b)) := k0'.setOther (p := ⟨n + 1, 0, none⟩) (by show n ≠ n + 1; omega) _
  have k1'' : Keep (n + 1) (.cells #[.bool b] 4) ((W.setCell ⟨n, 0, none⟩ v).setCell ⟨n + 1, 0, none⟩ (.bool b)) := k1'.store 0 _
  have hb' : Below n W0 ((W.setCell ⟨n, 0, none⟩ v).setCell ⟨n + 1, 0, none⟩ (.bool b)) := (hb.setCell (p := ⟨n, 0, none⟩) (Nat.le_refl _) _).setCell (p := ⟨n + 1, 0, none⟩) (by show n ≤ n + 1; omega) _
  have hs := k0''.lt
  refine ⟨(keepG k0'' (grownBy_putObj' _ D _) (fun e => by cases e; omega)).cell 0, (keepG k1'' (grownBy_putObj' _ D _) (fun e => by cases e; omega)).cell 0, ?_⟩
  subst hn
  exact hb'.grown (grownBy_putObj' _ D _) (by omega) (fun k e => by cases e; omega)
theorem fin_own {n D : Nat} {W : World} {v u : Value} {b : Bool} {xs : List Value} (h : Own W (n + 9) 9 v xs) (hK : W.heap[D]? = some (.deferred (some []))) : Own (fin n D W u b) n 9 v xs := by
  have hv : ∀ k, k < n + 9 → blk v ≠ some k := fun k hk e => by
    have := (h.lt _ e).1
    omega
  have h2 := (h.setOther (p := ⟨n, 0, none⟩) (hv n (by omega)) u).setOther (p := ⟨n + 1, 0, none⟩) (hv (n + 1) (by omega)) (.bool b)
  refine (h2.kept (grownBy_putObj' _ D _) ?_).weak (by omega)
  cases hbv : blk v with
  | none => exact .inl rfl
  | some q =>
    refine .inr fun e => ?_
    cases e
    obtain ⟨cur, e2, h9⟩ := h.cellsAt hbv
    rw [hK] at h9
    cases h9
theorem fin_open {n D : Nat} {W : World} {u : Value} {b : Bool} (hK : W.heap[D]? = some (.deferred (some []))) : ((W.setCell ⟨n, 0, none⟩ u).setCell ⟨n + 1, 0, none⟩ (.bool b)).heap[D]? = some (.deferred (some [])) :=
  ((KeepsOthers.setCell W ⟨n, 0, none⟩ u).trans (KeepsOthers.setCell _ ⟨n + 1, 0, none⟩ (.bool b))).same D _ hK rfl
/-- the result, the tree and the open boxes -/
def QT (n : Nat) (W0 : World) (out : List Bx) (path : List Nat) (vo vp : Value) (W : World) : Prop :=
  PT n W0 vo vp out path W ∧ Keep n (.cells #[.slice none 0 0] 23) W ∧ Keep (n + 1) (.cells #[.bool false] 4) W ∧ Keep (n + 3) (.cells #[vo] 23) W ∧ Keep (n + 5) (.cells #[vp] 41) W ∧ (∀ q, blk vo = some q → n + 8 < q) ∧ (∀ q, blk vp = some q → n + 8 < q)
theorem QT.grown {n : Nat} {W0 W W' : World} {out : List Bx} {path : List Nat} {vo vp : Value} (h : QT n W0 out path vo vp W) {row : Option Nat} (hg : W.grownBy W' row) (hr : ∀ r, row = some r → (n + 6 ≤ r ∧ r ≤ n + 8) ∨ (n + 9 ≤ r ∧ ∃ o : Obj, W.heap[r]? = some o ∧ o.isCells = false)) (hn : n ≤ W.heap.size) : QT n W0 out path vo vp W' := by
  obtain ⟨⟨ho, hp, hd, hb⟩, k0, k1, k3, k5, hqo, hqp⟩ := h
  have hk : ∀ k, k < n + 6 → some k ≠ row := fun k hk e => by
    rcases hr k e.symm with h | h <;> omega
  have hv : ∀ {v : Value} {size : Nat} {xs : List Value}, Own W n size v xs → (∀ q, blk v = some q → n + 8 < q) → blk v = none ∨ blk v ≠ row := fun {v size xs} hv hq => by
    cases hbv : blk v with
    | none => exact .inl rfl
    | some q =>
      refine .inr fun e => ?_
      have h9 := hq q hbv
      rcases hr q e.symm with h | ⟨_, o, ho, hc⟩
      · omega
      · obtain ⟨cur, e2, h2⟩ := hv.cellsAt hbv
        rw [h2] at ho
        cases ho
        cases hc
  exact ⟨⟨ho.kept hg (hv ho hqo), hp.kept hg (hv hp hqp), hd, hb.grown hg hn fun k e => by rcases hr k e with h | h <;> omega⟩, keepG k0 hg (hk _ (by omega)), keepG k1 hg (hk _ (by omega)), keepG k3 hg (hk _ (by omega)), keepG k5 hg (hk _ (by omega)), hqo, hqp⟩
theorem keepsExt {W W' : World} (hx : Ext W W') : KeepsOthers W W' := ⟨hx.size, fun k _ hk _ => (hx.block k (Array.getElem?_eq_some_iff.1 hk).1).trans hk⟩
/-- .. and what the round has turned since its beginning -/
def RT (n : Nat) (W0 Wr : World) (out : List Bx) (path : List Nat) (vo vp : Value) (W : World) : Prop :=
  QT n W0 out path vo vp W ∧ KeepsOthers Wr W ∧ Three (n + 6) Wr W ∧ n + 8 < W.heap.size ∧ n = W0.heap.size
theorem RT.ext {n : Nat} {W0 Wr W W' : World} {out : List Bx} {path : List Nat} {vo vp : Value} (h : RT n W0 Wr out path vo vp W) (hx : Ext W W') : RT n W0 Wr out path vo vp W' := by
  obtain ⟨⟨hpt, k0, k1, k3, k5, hqo, hqp⟩, hko, ⟨t0, t1, t2⟩, hs, hn⟩ := h
  have hsz := hx.size
  exact ⟨⟨hpt.ext hx (by omega), keepE k0 hx, keepE k1 hx, keepE k3 hx, keepE k5 hx, hqo, hqp⟩, hko.trans (keepsExt hx), ⟨(hx.block _ (by omega)).trans t0, (hx.block _ (by omega)).trans t1, (hx.block _ (by omega)).trans t2⟩, by omega, hn⟩
theorem RT.drew {n : Nat} {W0 Wr W : World} {out : List Bx} {path : List Nat} {vo vp : Value} (h : RT n W0 Wr out path vo vp W) : RT n W0 Wr out path vo vp W.drew := by
  obtain ⟨⟨hpt, k0, k1, k3, k5, hqo, hqp⟩, hko, ht, hs, hn⟩ := h
  exact ⟨⟨hpt.drew, k0, k1, k3, k5, hqo, hqp⟩, hko.trans (KeepsOthers.drew _), ht, hs, hn⟩
theorem RT.set {n g : Nat} {W0 Wr W : World} {out : List Bx} {path : List Nat} {vo vp : Value} (h : RT n W0 Wr out path vo vp W) (hg : n + 8 < g) (ho : blk vo ≠ some g) (hp : blk vp ≠ some g) (f : Nat) (u : Value) : RT n W0 Wr out path vo vp (W.setCell ⟨g, f, none⟩ u) := by
  obtain ⟨⟨hpt, k0, k1, k3, k5, hqo, hqp⟩, hko, ⟨t0, t1, t2⟩, hs, hn⟩ := h
  have hb : ∀ k, k < g → (W.setCell ⟨g, f, none⟩ u).heap[k]? = W.heap[k]? := fun k hk => Below.heap_setCell _ _ _ _ (by show k ≠ g; omega)
  exact ⟨⟨hpt.set ho hp (by omega) f u, (hb _ (by omega)).trans k0, (hb _ (by omega)).trans k1, (hb _ (by omega)).trans k3, (hb _ (by omega)).trans k5, hqo, hqp⟩, hko.trans (KeepsOthers.setCell _ _ _), ⟨(hb _ (by omega)).trans t0, (hb _ (by omega)).trans t1, (hb _ (by omega)).trans t2⟩, by simpa [World.setCell] using hs, hn⟩
/-- the open boxes' list has grown, and is stored -/
theorem RT.pushOpen {n m : Nat} {W0 Wr X X2 : World} {out : List Bx} {path path' : List Nat} {vo v' : Value} {a : Option Addr} {c : Nat} (h : RT n W0 Wr out path vo (.slice a path.length c) X) (hg : X.grownBy X2 (blk (.slice a m c))) (ho' : Own X2 n 1 v' (Is (natI path'))) (hf : blk v' = blk (.slice a m c) ∨ ∃ k, blk v' = some k ∧ X.heap.size ≤ k) : RT n W0 Wr out path' vo v' (X2.setCell ⟨n + 5, 0, none⟩ v') := by
  obtain ⟨⟨⟨ho, hp, hd, hb⟩, k0, k1, k3, k5, hqo, hqp⟩, hko, ⟨t0, t1, t2⟩, hs, hn⟩ := h
  have hbe : blk (.slice a m c) = blk (.slice a path.length c) := by cases a <;> rfl
  rw [hbe] at hg hf
  have hrow : ∀ k, k < n + 9 → some k ≠ blk (.slice a path.length c) := fun k hk e => by
    have := hqp k e.symm
    omega
  have hqv : ∀ q, blk v' = some q → n + 8 < q := fun q hq => by
    rcases hf with e | ⟨k, e, hk⟩
    · exact hqp q (e ▸ hq)
    · rw [e] at hq
      cases hq
      omega
  have hne : ∀ k, k ≠ n + 5 → ∀ u, (X2.setCell ⟨n + 5, 0, none⟩ u).heap[k]? = X2.heap[k]? := fun k hk u => Below.heap_setCell _ _ _ _ hk
  have hlt : ∀ k, k < n + 9 → X2.heap[k]? = X.heap[k]? := fun k hk => hg.block k (by omega) (hrow k hk)
  have hovn : ∀ q, blk vo = some q → blk v' ≠ some q := fun q hq e => by
    rcases hf with e1 | ⟨k, e1, hk⟩
    · exact hd q hq (by rw [← e1]; exact e)
    · rw [e1] at e
      cases e
      have := (ho.lt _ hq).2
      omega
  have hob : blk vo ≠ some (n + 5) := fun e => by have := hqo _ e; omega
  have hvb : blk v' ≠ some (n + 5) := fun e => by have := hqv _ e; omega
  refine ⟨⟨⟨?_, ho'.setOther (p := ⟨n + 5, 0, none⟩) hvb v', hovn, ?_⟩, (hne _ (by omega) _).trans ((hlt _ (by omega)).trans k0), (hne _ (by omega) _).trans ((hlt _ (by omega)).trans k1), (hne _ (by omega) _).trans ((hlt _ (by omega)).trans k3), ?_, hqo, hqv⟩, ?_, ⟨(hne _ (by omega) _).trans ((hlt _ (by omega)).trans t0), (hne _ (by omega) _).trans ((hlt _ (by omega)).trans t1), (hne _ (by omega) _).trans ((hlt _ (by omega)).trans t2)⟩, ?_, hn⟩
  · exact (ho.kept hg (blk_apart hd)).setOther (p := ⟨n + 5, 0, none⟩) hob v'
  · exact (hb.grown hg (by omega) fun k e => by have := hqp k e; omega).setCell (p := ⟨n + 5, 0, none⟩) (by show n ≤ n + 5; omega) v'
  · exact (show Keep (n + 5) (.cells #[.slice a path.length c] 41) X2 from (hlt _ (by omega)).trans k5).store 0 v'
  · exact (hko.trans (KeepsOthers.of_grownBy hg fun j o e hj => by
      obtain ⟨cur, e2, h2⟩ := hp.cellsAt e
      rw [h2] at hj
      cases hj
      rfl)).trans (KeepsOthers.setCell _ _ _)
  · have := hg.size
    show n + 8 < (X2.setCell _ _).heap.size
    simp [World.setCell]
    omega
/-- the tree has grown, and is stored -/
theorem RT.pushTree {n : Nat} {W0 Wr X X2 : World} {out out' : List Bx} {path : List Nat} {vo vp v' : Value} (h : RT n W0 Wr out path vo vp X) (hg : X.grownBy X2 (blk vo)) (ho' : Own X2 n 9 v' (Bs out')) (hf : blk v' = blk vo ∨ ∃ k, blk v' = some k ∧ X.heap.size ≤ k) : RT n W0 Wr out' path v' vp (X2.setCell ⟨n + 3, 0, none⟩ v') := by
  obtain ⟨⟨⟨ho, hp, hd, hb⟩, k0, k1, k3, k5, hqo, hqp⟩, hko, ⟨t0, t1, t2⟩, hs, hn⟩ := h
  have hrow : ∀ k, k < n + 9 → some k ≠ blk vo := fun k hk e => by
    have := hqo k e.symm
    omega
  have hqv : ∀ q, blk v' = some q → n + 8 < q := fun q hq => by
    rcases hf with e | ⟨k, e, hk⟩
    · exact hqo q (e ▸ hq)
    · rw [e] at hq
      cases hq
      omega
  have hne : ∀ k, k ≠ n + 3 → ∀ u, (X2.setCell ⟨n + 3, 0, none⟩ u).heap[k]? = X2.heap[k]? := fun k hk u => Below.heap_setCell _ _ _ _ hk
  have hlt : ∀ k, k < n + 9 → X2.heap[k]? = X.heap[k]? := fun k hk => hg.block k (by omega) (hrow k hk)
  have hovn : ∀ q, blk v' = some q → blk vp ≠ some q := fun q hq e => by
    rcases hf with e1 | ⟨k, e1, hk⟩
    · exact hd q (by rw [← e1]; exact hq) e
    · rw [e1] at hq
      cases hq
      have := (hp.lt _ e).2
      omega
  have hpb : blk vp ≠ some (n + 3) := fun e => by have := hqp _ e; omega
  have hvb : blk v' ≠ some (n + 3) := fun e => by have := hqv _ e; omega
  have hap : blk vp = none ∨ blk vp ≠ blk vo := by
    cases hbv : blk vp with
    | none => exact .inl rfl
    | some q => exact .inr fun e => hd q e.symm hbv
  refine ⟨⟨⟨ho'.setOther (p := ⟨n + 3, 0, none⟩) hvb v', (hp.kept hg hap).setOther (p := ⟨n + 3, 0, none⟩) hpb v', hovn, ?_⟩, (hne _ (by omega) _).trans ((hlt _ (by omega)).trans k0), (hne _ (by omega) _).trans ((hlt _ (by omega)).trans k1), ?_, (hne _ (by omega) _).trans ((hlt _ (by omega)).trans k5), hqv, hqp⟩, ?_, ⟨(hne _ (by omega) _).trans ((hlt _ (by omega)).trans t0), (hne _ (by omega) _).trans ((hlt _ (by omega)).trans t1), (hne _ (by omega) _).trans ((hlt _ (by omega)).trans t2)⟩, ?_, hn⟩
  · exact (hb.grown hg (by omega) fun k e => by have := hqo k e; omega).setCell (p := ⟨n + 3, 0, none⟩) (by show n ≤ n + 3; omega) v'
  · exact (show Keep (n + 3) (.cells #[vo] 23) X2 from (hlt _ (by omega)).trans k3).store 0 v'
  · exact (hko.trans (KeepsOthers.of_grownBy hg fun j o e hj => by
      obtain ⟨cur, e2, h2⟩ := ho.cellsAt e
      rw [h2] at hj
      cases hj
      rfl)).trans (KeepsOthers.setCell _ _ _)
  · have := hg.size
    show n + 8 < (X2.setCell _ _).heap.size
    simp [World.setCell]
    omega
theorem trim_dash (x : List UInt8) : Lib.trimLeftB x 45 = x.drop (dashes x) := by
  refine Lib.trimLeftB_drop x 45 (dashes x) (dash_le x) (fun j b hj hb => ?_) (fun b hb e => ?_)
  · rw [dash_get x j hj] at hb
    exact (Option.some.inj hb).symm
  · rw [e] at hb
    exact dash_end x hb
theorem nine_alloc (w : World) (n : Nat) (hn : w.heap.size = n) (o0 o1 o2 o3 o4 o5 o6 o7 o8 : Obj) (X : World) (hX : ((((((((w.alloc o0).alloc o1).alloc o2).alloc o3).alloc o4).alloc o5).alloc o6).alloc o7).alloc o8 = X) :
    X.heap.size = n + 9 ∧ Keep n o0 X ∧ Keep (n + 1) o1 X ∧ Keep (n + 3) o3 X ∧ Keep (n + 5) o5 X ∧ Keep (n + 6) o6 X ∧ Keep (n + 7) o7 X ∧ Keep (n + 8) o8 X ∧ Below n w X := by
  subst hX hn
  refine ⟨by simp, ?_, ?_, ?_, ?_, ?_, ?_, ?_, ?_⟩
  · exact ((((((((Keep.new w o0).alloc o1).alloc o2).alloc o3).alloc o4).alloc o5).alloc o6).alloc o7).alloc o8
  · have k := Keep.new (w.alloc o0) o1
    simp only [World.size_alloc] at k
    exact ((((((k.alloc o2).alloc o3).alloc o4).alloc o5).alloc o6).alloc o7).alloc o8
  · have k := Keep.new (((w.alloc o0).alloc o1).alloc o2) o3
    simp only [World.size_alloc] at k
    exact ((((k.alloc o4).alloc o5).alloc o6).alloc o7).alloc o8
  · have k := Keep.new (((((w.alloc o0).alloc o1).alloc o2).alloc o3).alloc o4) o5
    simp only [World.size_alloc] at k
    exact ((k.alloc o6).alloc o7).alloc o8
  · have k := Keep.new ((((((w.alloc o0).alloc o1).alloc o2).alloc o3).alloc o4).alloc o5) o6
    simp only [World.size_alloc] at k
    exact (k.alloc o7).alloc o8
  · have k := Keep.new (((((((w.alloc o0).alloc o1).alloc o2).alloc o3).alloc o4).alloc o5).alloc o6) o7
    simp only [World.size_alloc] at k
    exact k.alloc o8
  · have k := Keep.new ((((((((w.alloc o0).alloc o1).alloc o2).alloc o3).alloc o4).alloc o5).alloc o6).alloc o7) o8
    simp only [World.size_alloc] at k
    exact k
  exact ((((((((Below.of_alloc w o0).trans ((Below.of_alloc _ o1).mono (by simp))).trans ((Below.of_alloc _ o2).mono (by simp; omega))).trans ((Below.of_alloc _ o3).mono (by simp; omega))).trans ((Below.of_alloc _ o4).mono (by simp; omega))).trans ((Below.of_alloc _ o5).mono (by simp; omega))).trans ((Below.of_alloc _ o6).mono (by simp; omega))).trans ((Below.of_alloc _ o7).mono (by simp; omega))).trans ((Below.of_alloc _ o8).mono (by simp; omega))
/-- between two rounds -/
def IT (n : Nat) (W0 : World) (pre : List (List UInt8)) (W : World) : Prop := n = W0.heap.size ∧ n + 8 < W.heap.size ∧ ∃ out path vo vp, runP pre ([], []) = some (out, path) ∧ QT n W0 out path vo vp W
/-- a round has left -/
def IX (s : List UInt8) (n : Nat) (W0 : World) (_ : List (List UInt8)) (W : World) : Prop := parseT s = none ∧ Keep n (.cells #[.slice none 0 0] 23) W ∧ Keep (n + 1) (.cells #[.bool false] 4) W ∧ Below n W0 W ∧ n + 8 < W.heap.size
theorem IT.bides (n : Nat) (W0 : World) : Bides (n + 6) (n + 9) (IT n W0) := by
  rintro pre W W' row ⟨hn, hs, out, path, vo, vp, hr, hq⟩ hg hm
  have hsz := hg.size
  refine ⟨hn, by omega, out, path, vo, vp, hr, hq.grown hg (fun r e => ?_) (by omega)⟩
  rcases hm r e with h | h
  · exact .inl ⟨by omega, by omega⟩
  · exact .inr h
theorem IX.bides (s : List UInt8) (n : Nat) (W0 : World) : Bides (n + 6) (n + 9) (IX s n W0) := by
  rintro pre W W' row ⟨hp, k0, k1, hb, hs⟩ hg hm
  have hsz := hg.size
  have hk : ∀ k, k < n + 6 → some k ≠ row := fun k hk e => by
    rcases hm k e.symm with h | h <;> omega
  exact ⟨hp, keepG k0 hg (hk _ (by omega)), keepG k1 hg (hk _ (by omega)), hb.grown hg (by omega) (fun k e => by rcases hm k e with h | h <;> omega), by omega⟩
theorem RT.leave {s : List UInt8} {n : Nat} {W0 Wr W : World} {out : List Bx} {path : List Nat} {vo vp : Value} (h : RT n W0 Wr out path vo vp W) (hp : parseT s = none) (xs : List (List UInt8)) :
    KeepsFrom (n + 9) Wr ((W.setCell ⟨n, 0, none⟩ (.slice none 0 0)).setCell ⟨n + 1, 0, none⟩ (.bool false)) ∧ IX s n W0 xs ((W.setCell ⟨n, 0, none⟩ (.slice none 0 0)).setCell ⟨n + 1, 0, none⟩ (.bool false)) := by
  obtain ⟨⟨⟨_, _, _, hb⟩, k0, k1, _⟩, hko, _, hs, hn⟩ := h
  have k0' : Keep n (.cells #[.slice none 0 0] 23) (W.setCell ⟨n, 0, none⟩ (.slice none 0 0)) := k0.store 0 _
  have k1' : Keep (n + 1) (.cells #[.bool false] 4) (W.setCell ⟨n, 0, none⟩ (.slice none 0 0)) := k1.setOther (p := ⟨n, 0, none⟩) (by show n + 1 ≠ n; omega) _
  refine ⟨((hko.trans (KeepsOthers.setCell _ _ _)).trans (KeepsOthers.setCell _ _ _)).from _, hp, k0'.setOther (p := ⟨n + 1, 0, none⟩) (by show n ≠ n + 1; omega) _, k1'.store 0 _, (hb.setCell (p := ⟨n, 0, none⟩) (Nat.le_refl _) _).setCell (p := ⟨n + 1, 0, none⟩) (by show n ≤ n + 1; omega) _, by simpa [World.setCell] using hs⟩
set_option maxRecDepth 100000 in
set_option maxHeartbeats 1600000 in
theorem ParseTree_any (s : List UInt8) (w : World) (hs : s.length ≤ 2000000) (hlaid : LaidP w) :
    Calls Tryz.prog 9 #[sv s] w fun e w' => ∃ v, e = .returned (.tuple #[v, .bool (resT (parseT s))]) ∧ Own w' w.heap.size 9 v (Bs (listT (parseT s))) ∧ Ext w w' := by
  have HSQ := Lib.hid (fun w => SplitSeq_any s 10 w)
  have HLD : Hid (LaidP w) := hlaid
  clear hlaid
  refine (callsIn_wide (n := 3)).1 ?_
  refine callsIn_of_wp_marks Tryz.func9 rfl trivial ?_ rfl
  simp only [Tryz.ntmps9, List.size_toArray, List.length_cons, List.length_nil, Nat.reduceAdd, Nat.reduceSub, Array.replicate_succ, Array.replicate_zero, List.push_toArray, List.append_toArray, List.nil_append, List.cons_append]
  unfold sv
  gi_wp2_with (fail)
  refine ⟨trivial, callsIn_wide.2 ((HSQ.out _).mono ?_)⟩
  rintro e w4 ⟨rfl, rfl⟩
  clear HSQ
  gi_wp2
  obtain ⟨n, hn⟩ : ∃ n, w.heap.size = n := ⟨_, rfl⟩
  rw [hn]
  simp only [Nat.add_assoc, Nat.reduceAdd]
  generalize hX : ((((((((w.alloc (.cells #[.slice none 0 0] 23)).alloc (.cells #[.bool false] 4)).alloc (.cells #[] 39)).alloc (.cells #[.slice (some ⟨n + 2, 0, none⟩) 0 0] 23)).alloc (.cells #[] 3)).alloc (.cells #[.slice (some ⟨n + 4, 0, none⟩) 0 0] 41)).alloc (.cells #[.string ⟨s.toArray⟩] 9)).alloc (.cells #[.string ⟨#[10]⟩] 9)).alloc (.cells #[.int .i64 0] 3) = X
  obtain ⟨hsz, k0, k1, k3, k5, k6, k7, k8, hb0⟩ := nine_alloc w n hn _ _ _ _ _ _ _ _ _ X hX
  clear hX
  have h0 : IT n w [] X := ⟨hn.symm, by omega, [], [], _, _, rfl, ⟨Own.empty _ _ _ _, Own.empty _ _ _ _, fun q hq => by simp [blk] at hq, hb0⟩, k0, k1, k3, k5, fun q hq => by simp [blk] at hq, fun q hq => by simp [blk] at hq⟩
  clear k0 k1 k3 k5
  refine rangeRuns (xs := splitB 10 s) (B := n + 6) (enc := encB) (K := Three (n + 6)) (I := IT n w) (Ix := IX s n w) rfl (enters_of Tryz.func79 (by kernel_rfl) rfl) (by omega) (fun W hb => seq_runs s 10 (n + 6) W hs ((hb.block _ (by omega)).trans k6) ((hb.block _ (by omega)).trans k7) ((hb.block _ (by omega)).trans k8)) (fun A B C h k => ⟨k.1.trans h.1, k.2.1.trans h.2.1, k.2.2.trans h.2.2⟩) (fun W l o' hl => ⟨World.putObj_heap_other (by omega), World.putObj_heap_other (by omega), World.putObj_heap_other (by omega)⟩) (by rw [hsz]; exact IT.bides n w) (by rw [hsz]; exact IX.bides s n w) h0 ?a1 ?assign ?body ?done ?stop
  case assign =>
    intro l x W C hC
    unfold encB
    gi_wp2
    exact hC
  case stop =>
    rintro D pre W hD ⟨hp, k0, k1, hb, hs⟩ hK
    have HP : Hid (parseT s = none) := hp
    have k0' := keepG k0 (grownBy_putObj' W D (.deferred none)) (fun e => by cases e; omega)
    have k1' := keepG k1 (grownBy_putObj' W D (.deferred none)) (fun e => by cases e; omega)
    have hb' := hb.grown (grownBy_putObj' W D (.deferred none)) (by omega) (fun k e => by cases e; omega)
    have g0 : (W.putObj D (.deferred none)).cell? ⟨n, 0, none⟩ = some (.slice none 0 0) := k0'.cell 0
    have g1 : (W.putObj D (.deferred none)).cell? ⟨n + 1, 0, none⟩ = some (.bool false) := k1'.cell 0
    have HB : Hid (Ext w (W.putObj D (.deferred none))) := by
      show Below w.heap.size w _
      rw [hn]
      exact hb'
    clear hn hsz k0 k1 k0' k1' hb hb' hp hb0
    gi_wp2
    refine ⟨by simp, .inl ⟨_, _, rfl, run_takeDeferred hK, ?_⟩⟩
    refine ⟨.tuple #[.slice none 0 0, .bool false], ?_, .slice none 0 0, by rw [HP.out]; rfl, by rw [HP.out]; exact Own.nil _ _ _, HB.out⟩
    simp [results, Tryz.f9, go_sem, g0, g1]
  case done =>
    rintro D W hD ⟨hn', hsw, out, path, vo, vp, hrun, hq⟩ hK
    have HP := Lib.hid (parse_of hrun)
    have HTX := Lib.hid (run_text hrun)
    dsimp only at HP
    obtain ⟨hpt, k0, k1, k3, k5, hqo, hqp⟩ := hq
    have hto := hpt.1
    have hbl := hpt.2.2.2
    have HT := Lib.hid ((HLD.out.below (show Below w.heap.size w W by rw [hn]; exact hbl)).1)
    have hrd := hto.rd
    obtain ⟨ao, co, rfl, hno, hco, hbx⟩ := hto.rd.boxes
    have c3 : W.cell? ⟨n + 3, 0, none⟩ = some (.slice ao out.length co) := k3.cell 0
    have HN : Hid (w.heap.size = n) := hn
    have HSZ : Hid (X.heap.size = n + 9) := hsz
    clear hbx hpt hn hn' hsz hb0 k6 k7 k8 h0
    gi_wp2_with (fail)
    refine ⟨trivial, callsIn_wide.2 ((FormatTree_any (l := out) _ hrd HT.out).mono ?_)⟩
    rintro e W2 ⟨rfl, hx2⟩
    have hD' : n + 9 ≤ D := by have := HSZ.out; omega
    have hK2 : W2.heap[D]? = some (.deferred (some [])) := (hx2.block D (Array.getElem?_eq_some_iff.1 hK).1).trans hK
    have c32 : W2.cell? ⟨n + 3, 0, none⟩ = some (.slice ao out.length co) := (keepE k3 hx2).cell 0
    replace k0 := keepE k0 hx2
    replace k1 := keepE k1 hx2
    replace hbl := after hbl hx2 (by have := HN.out; omega)
    have hto2 : Own W2 (n + 9) 9 (.slice ao out.length co) (Bs out) := (hto.raise fun q hq => hqo q hq).below hx2 (Nat.le_refl _)
    clear hK hx2 c3 k3 hto hrd HT hrun hqo hqp k5
    unfold sv
    by_cases he : fmtT out = s
    · have hq : (fmtT out == s) = true := beq_iff_eq.2 he
      generalize fmtT out = tx at *
      clear he
      gi_wp2_with (fail)
      refine ⟨trivial, callsIn_wide.2 ((made_any (base := n + 9) _ hto2 (by have := (Array.getElem?_eq_some_iff.1 hK2).1; omega)).mono ?_)⟩
      rintro e W3 ⟨v3, rfl, ho3, hx3⟩
      replace k0 := keepE k0 hx3
      replace k1 := keepE k1 hx3
      replace hbl := after hbl hx3 (by have := HN.out; omega)
      have hK3 : W3.heap[D]? = some (.deferred (some [])) := (hx3.block D (Array.getElem?_eq_some_iff.1 hK2).1).trans hK2
      have g0 := k0.cell 0
      have z0 := k0.frozen 0
      have k1' := k1.setOther (p := ⟨n, 0, none⟩) (by show n + 1 ≠ n; omega) v3
      have g1 := k1'.cell 0
      have z1 := k1'.frozen 0
      have HC := Lib.hid (fin_cells (v := v3) (b := vldB out) k0 k1 hD' hbl HN.out.symm)
      have HO := Lib.hid (fin_own (u := v3) (b := vldB out) ho3 hK3)
      have HD := Lib.hid (fin_open (n := n) (u := v3) (b := vldB out) hK3)
      have HPP : Hid (resT (parseT s) = vldB out ∧ listT (parseT s) = orNo (vldB out) out) := by
        show _ ∧ _
        rw [HP.out]
        cases vldB out <;> exact ⟨rfl, rfl⟩
      obtain ⟨a9, n9, c9, hv9, hx9⟩ := ho3
      subst hv9
      clear hx9 hx3 hto2 k0 k1 k1' hbl hK2 hK3 hD'
      generalize vldB out = bv at *
      gi_wp2
      refine ⟨by simp, .inl ⟨_, _, rfl, run_takeDeferred HD.out, ?_⟩⟩
      obtain ⟨q0, q1, q2⟩ := HC.out
      refine ⟨.tuple #[.slice a9 n9 c9, .bool bv], ?_, .slice a9 n9 c9, by rw [HPP.out.1], by rw [HPP.out.2, HN.out]; exact HO.out, q2⟩
      unfold fin at q0 q1
      simp [results, Tryz.f9, go_sem, q0, q1]
    · have hq : (fmtT out == s) = false := beq_eq_false_iff_ne.2 he
      have HPN : Hid (parseT s = none) := by
        show _ = _
        rw [HP.out, if_neg]
        intro hv
        exact he ((fmtT_t hv).trans HTX.out.1)
      generalize fmtT out = tx at *
      have g0 := k0.cell 0
      have z0 := k0.frozen 0
      have k1' := k1.setOther (p := ⟨n, 0, none⟩) (by show n + 1 ≠ n; omega) (.slice none 0 0)
      have g1 := k1'.cell 0
      have z1 := k1'.frozen 0
      have HC := Lib.hid (fin_cells (v := .slice none 0 0) (b := false) k0 k1 hD' hbl HN.out.symm)
      have HD := Lib.hid (fin_open (n := n) (u := .slice none 0 0) (b := false) hK2)
      clear he hto2 k0 k1 k1' hbl hK2 hD' HP HTX
      gi_wp2
      refine ⟨by simp, .inl ⟨_, _, rfl, run_takeDeferred HD.out, ?_⟩⟩
      obtain ⟨q0, q1, q2⟩ := HC.out
      refine ⟨.tuple #[.slice none 0 0, .bool false], ?_, .slice none 0 0, by rw [HPN.out]; rfl, by rw [HPN.out]; exact Own.nil _ _ _, q2⟩
      unfold fin at q0 q1
      simp [results, Tryz.f9, go_sem, q0, q1]
  case body =>
    rintro l pre x rest W hxs ⟨hn', hsw, out, path, vo, vp, hrun, hq⟩
    obtain ⟨hlen, hpl, hpm, hp0⟩ := run_len hrun
    dsimp only at hlen hpl hpm hp0
    have hcnt := splitB_count 10 s
    have hol : out.length ≤ 2000001 := by have := splitB_count 10 s; rw [hxs, List.length_append] at this; omega
    have hxl : x.length ≤ 2000000 := Nat.le_trans (splitB_len 10 s x (by rw [hxs]; simp)) hs
    rw [hxs] at hcnt
    simp only [List.length_append, List.length_cons] at hcnt
    have HS := Lib.hid (runP_app pre x ([], []))
    rw [hrun] at HS
    replace HS : Hid (runP (pre ++ [x]) ([], []) = stepP (out, path) x) := HS
    have HF : Hid (runP (pre ++ [x]) ([], []) = none → parseT s = none) := fun h => parse_none (by rw [hxs, show pre ++ x :: rest = (pre ++ [x]) ++ rest by simp, runP_more, h]; rfl)
    have hrt : RT n w W out path vo vp W := ⟨hq, KeepsOthers.refl _, ⟨rfl, rfl, rfl⟩, hsw, hn'⟩
    have HQ : Hid (n + 9 = X.heap.size) := hsz.symm
    clear hq hrun hxs hlen k6 k7 k8 h0
    obtain ⟨ao, co, rfl, hno, hco, hbx⟩ := hrt.1.1.1.rd.boxes
    clear hbx
    obtain ⟨ap, cp, rfl, hnp, hcp, hbx⟩ := hrt.1.1.2.1.rd.ints
    clear hbx
    unfold maxLen at hco hcp
    rw [natI_length] at hnp hrt
    have HTL := Lib.hid (fun w => Tryz.strings_TrimLeft_one ⟨x.toArray⟩ 45 (by decide) w)
    have HTD := Lib.hid (trim_dash x)
    unfold stepP at HS
    dsimp only at HS
    have hdl := dash_le x
    have HTN : Hid ((x.drop (dashes x)).length = x.length - dashes x) := List.length_drop
    have HLD2 := Lib.hid (HLD.out.below (show Below w.heap.size w W from by rw [hn]; exact hrt.1.1.2.2.2))
    have HN : Hid (n = w.heap.size) := hn'
    clear hn' hn hsz hb0
    generalize dashes x = m at *
    generalize x.drop m = T at *
    gi_wp2_with (fail)
    refine ⟨trivial, callsIn_wide.2 ((HTL.out _).mono ?_)⟩
    rintro e w4 ⟨rfl, rfl⟩
    rw [HTD.out]
    clear HTL HTD
    have hTl : (T.length : Int) ≤ x.length := by have := HTN.out; omega
    gi_upto_region 7 with fail
    rw [show (x.length : Int) - T.length = m by have := HTN.out; omega]
    clear hTl
    gi_wp2_with (fail)
    refine ⟨trivial, callsIn_wide.2 ((boxOf_any T _ (by have := HTN.out; omega) HLD2.out).mono ?_)⟩
    rintro e W7 ⟨rfl, hx7⟩
    replace hrt := hrt.ext hx7
    clear hx7 HLD2
    cases hp : pB T with
    | none =>
      rw [hp] at HS
      replace hrt := hrt.ext (Below.of_alloc W7 (.cells zb.arr 39))
      unfold resB Bx.agg
      clear hp
      unfold zb at hrt ⊢
      gi_upto_region 8 with fail
      change Code.wpIn _ _ _ _ _ _ (W7.alloc (.cells (⟨0, 0, 0, 0, 0, 0, 0, 0, 0⟩ : Bx).arr 39))
      generalize W7.alloc (.cells (⟨0, 0, 0, 0, 0, 0, 0, 0, 0⟩ : Bx).arr 39) = W8 at *
      have HP := Lib.hid (HF.out HS.out)
      have k0 := hrt.1.2.1
      have k1 := hrt.1.2.2.1
      have g0 := k0.cell 0
      have z0 := k0.frozen 0
      have g1 := k1.setOther (p := ⟨n, 0, none⟩) (by show n + 1 ≠ n; omega) (.slice none 0 0)
      have g10 := g1.cell 0
      have z10 := g1.frozen 0
      have HL := Lib.hid (hrt.leave HP.out (pre ++ [x]))
      clear hrt k0 k1 g1
      gi_wp2
      show KeepsFrom X.heap.size _ _ ∧ _
      rw [← HQ.out]
      exact HL.out
    | some b =>
      rw [hp] at HS
      replace HS : Hid (runP (pre ++ [x]) ([], []) = if path.length < m ∨ 0 < out.length ∧ m = 0 then none else some (out ++ [b.at (parOf path m)], path.take m ++ [out.length])) := HS
      have hg8 := hrt.2.2.2.1
      have kx := Keep.new W7 (.cells b.arr 39)
      have hbo := hrt.1.1.1.noBlk
      have hbp := hrt.1.1.2.1.noBlk
      replace hrt := hrt.ext (Below.of_alloc W7 (.cells b.arr 39))
      unfold resB Bx.agg
      clear hp
      gi_upto_region 8 with fail
      change Code.wpIn _ _ _ _ _ _ (W7.alloc (.cells b.arr 39))
      generalize W7.alloc (.cells b.arr 39) = W8 at *
      generalize W7.heap.size = g8 at *
      have c5 : W8.cell? ⟨n + 5, 0, none⟩ = some (.slice ap path.length cp) := hrt.1.2.2.2.2.1.cell 0
      have c3 : W8.cell? ⟨n + 3, 0, none⟩ = some (.slice ao out.length co) := hrt.1.2.2.2.1.cell 0
      by_cases c1 : path.length < m
      · have ci : (path.length : Int) < m := by omega
        rw [if_pos (.inl c1)] at HS
        have HP := Lib.hid (HF.out HS.out)
        have k0 := hrt.1.2.1
        have k1 := hrt.1.2.2.1
        have g0 := k0.cell 0
        have z0 := k0.frozen 0
        have g1 := k1.setOther (p := ⟨n, 0, none⟩) (by show n + 1 ≠ n; omega) (.slice none 0 0)
        have g10 := g1.cell 0
        have z10 := g1.frozen 0
        have HL := Lib.hid (hrt.leave HP.out (pre ++ [x]))
        clear hrt k0 k1 g1
        gi_wp2
        show KeepsFrom X.heap.size _ _ ∧ _
        rw [← HQ.out]
        exact HL.out
      · have ci : ¬ (path.length : Int) < m := by omega
        have d0 : W8.cell? ⟨g8, 0, none⟩ = some (.int .i64 b.parent) := kx.cell 0
        have z0 := kx.frozen 0
        have kx2 : Keep g8 (.cells (b.at (-1)).arr 39) (W8.setCell ⟨g8, 0, none⟩ (.int .i64 (-1))) := kx.store 0 _
        have hrt2 := hrt.set hg8 hbo hbp 0 (.int .i64 (-1))
        by_cases hm0 : m = 0
        · subst hm0
          by_cases ho0 : out.length = 0
          · have hob : ((out.length : Int) == 0) = true := by simp [ho0]
            rw [if_neg (by omega)] at HS
            have hmp : 0 ≤ path.length := Nat.zero_le _
            clear ho0
            gi_upto_region 13 with fail
            clear c5 c3 d0 z0 kx hrt
            generalize W8.setCell ⟨g8, 0, none⟩ (.int .i64 (-1)) = W9 at *
            have kx : Keep g8 (.cells (b.at (parOf path 0)).arr 39) W9 := kx2
            have hrt := hrt2
            clear kx2 hrt2
            generalize b.at (parOf path 0) = bb at *
            -- the box bb in block g8 of W9
            have c5 : W9.cell? ⟨n + 5, 0, none⟩ = some (.slice ap path.length cp) := hrt.1.2.2.2.2.1.cell 0
            have k3 := hrt.1.2.2.2.1
            refine region_round (S := fun w' => Keep (n + 3) (.cells #[.slice ao out.length co] 23) w') (by kernel_rfl) (by rintro ⟨a, w, h⟩; exact h) (noDefer_spec (by kernel_rfl)) k3 (fun hS => ?_)
            replace hrt := hrt.drew
            replace kx : Keep g8 (.cells bb.arr 39) W9.drew := kx
            replace c5 : W9.drew.cell? ⟨n + 5, 0, none⟩ = some (.slice ap path.length cp) := c5
            clear k3
            generalize W9.drew = wd at *
            have hgw : g8 < wd.heap.size := kx.lt
            refine hTake (by kernel_rfl) (fun d _ _ _ _ h => by cases d <;> exact h) hS 1 (some 54) _ rfl (v := ?_) (by kernel_rfl) ?_ ?_
            rotate_left
            · intro _ _; go_simp; first | done | with_reducible rfl
            simp only [Act.put, List.setIfInBounds_toArray, List.set_cons_zero, List.set_cons_succ]
            refine hTake (by kernel_rfl) (fun d _ _ _ _ h => by cases d <;> exact h) hS 3 (some 56) _ rfl (v := ?_) (by kernel_rfl) ?_ ?_
            rotate_left
            · intro w9 hS9; have q := hS9.cell 0; go_simp; first | done | with_reducible rfl
            simp only [Act.put, List.setIfInBounds_toArray, List.set_cons_zero, List.set_cons_succ]
            refine hTake (by kernel_rfl) (fun d _ _ _ _ h => by cases d <;> exact h) hS 4 (some 57) _ rfl (v := ?_) (by kernel_rfl) ?_ ?_
            rotate_left
            · intro _ _; go_simp; first | done | with_reducible rfl
            simp only [Act.put, List.setIfInBounds_toArray, List.set_cons_zero, List.set_cons_succ]
            refine wpAnyH_ready (rs := [0, 5]) (by kernel_rfl) (by simp) ?_
            refine AllReadyH.cons (o := _) rfl (fun K9 hK9 => ?_) (AllReadyH.cons (o := _) rfl (fun K9 hK9 => ?_) AllReadyH.nil)
            · go_simp
              refine hK9.out _ _ hS (fun hS => ?_)
              clear hK9 K9
              try simp only [Act.put, List.setIfInBounds_toArray, List.set_cons_zero, List.set_cons_succ]
              refine hTake (by kernel_rfl) (fun d _ _ _ _ h => by cases d <;> exact h) hS 2 (some 55) _ rfl (v := ?_) (by kernel_rfl) ?_ ?_
              rotate_left
              · intro _ _; go_simp; first | done | with_reducible rfl
              simp only [Act.put, List.setIfInBounds_toArray, List.set_cons_zero, List.set_cons_succ]
              refine wpAnyH_ready (rs := [5]) (by kernel_rfl) (by simp) ?_
              refine AllReadyH.cons (o := _) rfl (fun K9 hK9 => ?_) AllReadyH.nil
              go_simp
              replace hrt := hrt.ext (Below.of_alloc wd (.cells #[.int .i64 out.length] 3))
              replace kx := kx.alloc (.cells #[.int .i64 out.length] 3)
              have hgs : g8 < (wd.alloc (.cells #[.int .i64 out.length] 3)).heap.size := kx.lt
              refine hK9.out _ _ (hS.alloc _) (fun hS => ?_)
              clear hK9 K9
              try simp only [Act.put, List.setIfInBounds_toArray, List.set_cons_zero, List.set_cons_succ]
              -- the open boxes' list grows by one
              refine wpAnyH_ready (rs := [6]) (by kernel_rfl) (by simp) ?_
              refine AllReadyH.cons (o := _) rfl (fun K9 hK9 => ?_) AllReadyH.nil
              refine step_app rfl _ _ _ rfl el_int rfl (hrt.1.1.2.1.takeG hmp) rfl (Rd.oneAt _ _ (by simp)) (Is_one [(out.length : Int)]) ?hlua ?hbua ?hKua
              case hlua => have h9 : (Is (natI path)).length = path.length := (Is_length _).trans (natI_length _); rw [List.length_take]; simp; try omega
              case hbua => have := hrt.2.2.2.1; omega
              intro v2 X5 ho2 hg2 hf2
              replace ho2 : Own X5 n 1 v2 (Is (natI (path.take 0 ++ [out.length]))) := by rw [natI_take]; simpa using ho2
              have hgx := hrt.1.1.2.1
              have hrow : ∀ q, some q = blk (.slice ap 0 cp) → blk (.slice ap path.length cp) = some q := fun q e => by rw [e]; cases ap <;> rfl
              have hqp := hrt.1.2.2.2.2.2.2
              have k3 : Keep (n + 3) (.cells #[.slice ao out.length co] 23) X5 := keepG hrt.1.2.2.2.1 hg2 (fun e => by have := hqp _ (hrow _ e); omega)
              have k5 : Keep (n + 5) (.cells #[.slice ap path.length cp] 41) X5 := keepG hrt.1.2.2.2.2.1 hg2 (fun e => by have := hqp _ (hrow _ e); omega)
              replace kx : Keep g8 (.cells bb.arr 39) X5 := keepG kx hg2 (fun e => hbp (hrow _ e))
              have hvg : blk v2 ≠ some g8 := blk_grown (v := .slice ap 0 cp) hf2 (fun e => hbp (hrow _ e.symm)) hgs
              replace hrt := hrt.pushOpen hg2 ho2 hf2
              replace kx := kx.setOther (p := ⟨n + 5, 0, none⟩) (by show g8 ≠ n + 5; omega) v2
              refine hK9.out _ _ k3 (fun hS => ?_)
              clear hK9 K9
              try simp only [Act.put, List.setIfInBounds_toArray]
              have e5 := k5.cell 0
              have z5 := k5.frozen 0
              obtain ⟨a9, n9, c9, hv9, hx9⟩ := ho2
              subst hv9
              clear hx9 hg2 hf2 hgx hrow hqp
              refine wpAnyH_ready (rs := [7]) (by kernel_rfl) (by simp) ?_
              refine AllReadyH.cons (o := _) rfl (fun K9 hK9 => ?_) AllReadyH.nil
              go_simp
              refine hK9.out _ _ (k3.setOther (p := ⟨n + 5, 0, none⟩) (by show n + 3 ≠ n + 5; omega) _) (fun hS => ?_)
              clear hK9 K9
              try simp only [Act.put, List.setIfInBounds_toArray, List.set_cons_zero, List.set_cons_succ]
              refine wpAnyH_done (by kernel_rfl) ?_ _
              clear hS k3 k5 e5 z5
              generalize X5.setCell ⟨n + 5, 0, none⟩ (.slice a9 n9 c9) = X6 at *
              gi_upto_region 14 with fail
              have c3 : X6.cell? ⟨n + 3, 0, none⟩ = some (.slice ao out.length co) := hrt.1.2.2.2.1.cell 0
              have d0 : X6.cell? ⟨g8, 0, none⟩ = some (.int .i64 bb.parent) := kx.cell 0
              have d1 : X6.cell? ⟨g8, 1, none⟩ = some (.int .i64 bb.kind) := kx.cell 1
              have d2 : X6.cell? ⟨g8, 2, none⟩ = some (.int .i64 bb.w) := kx.cell 2
              have d3 : X6.cell? ⟨g8, 3, none⟩ = some (.int .i64 bb.h) := kx.cell 3
              have d4 : X6.cell? ⟨g8, 4, none⟩ = some (.int .i64 bb.pad) := kx.cell 4
              have d5 : X6.cell? ⟨g8, 5, none⟩ = some (.int .i64 bb.gap) := kx.cell 5
              have d6 : X6.cell? ⟨g8, 6, none⟩ = some (.int .i64 bb.grow) := kx.cell 6
              have d7 : X6.cell? ⟨g8, 7, none⟩ = some (.int .i64 bb.shrink) := kx.cell 7
              have d8 : X6.cell? ⟨g8, 8, none⟩ = some (.int .i64 bb.justify) := kx.cell 8
              have hrt7 := hrt.ext (Below.of_alloc X6 (.cells bb.arr 39))
              gi_wp2_with (gi_at_builtin; refine wpListIn_app rfl _ _ _ rfl el_box rfl hrt7.1.1.1 rfl (Rd.oneAt bb.arr 39 (by simp)) (Bx.vals_one _) ?hl3ua ?hb3ua ?hK3ua)
              case hl3ua => rw [Bs_length]; simp [Bx.arr]; omega
              case hb3ua => have := hrt.2.2.2.1; simp; omega
              intro v3 X7 ho3 hg3 hf3
              replace ho3 : Own X7 n 9 v3 (Bs (out ++ [bb])) := by rw [Bs_append]; exact ho3
              have hqo := hrt7.1.2.2.2.2.2.1
              have k3 : Keep (n + 3) (.cells #[.slice ao out.length co] 23) X7 := keepG hrt7.1.2.2.2.1 hg3 (fun e => by have := hqo _ e.symm; omega)
              have HR := Lib.hid (hrt7.pushTree hg3 ho3 (by rw [World.size_alloc]; exact hf3))
              have e3 := k3.cell 0
              have z3 := k3.frozen 0
              obtain ⟨a8, n8, c8, hv8, hx8⟩ := ho3
              subst hv8
              clear hx8 hg3 hf3 hqo hrt hrt7 k3 d0 d1 d2 d3 d4 d5 d6 d7 d8 c3 kx
              gi_wp2
              show KeepsFrom X.heap.size _ _ ∧ _
              exact ⟨HR.out.2.1.from _, HR.out.2.2.1, HR.out.2.2.2.2, HR.out.2.2.2.1, _, _, _, _, HS.out, HR.out.1⟩
            · go_simp
              replace hrt := hrt.ext (Below.of_alloc wd (.cells #[.int .i64 out.length] 3))
              replace kx := kx.alloc (.cells #[.int .i64 out.length] 3)
              have hgs : g8 < (wd.alloc (.cells #[.int .i64 out.length] 3)).heap.size := kx.lt
              clear c5
              have c5 : (wd.alloc (.cells #[.int .i64 out.length] 3)).cell? ⟨n + 5, 0, none⟩ = some (.slice ap path.length cp) := hrt.1.2.2.2.2.1.cell 0
              refine hK9.out _ _ (hS.alloc _) (fun hS => ?_)
              clear hK9 K9
              try simp only [Act.put, List.setIfInBounds_toArray, List.set_cons_zero, List.set_cons_succ]
              refine wpAnyH_ready (rs := [0]) (by kernel_rfl) (by simp) ?_
              refine AllReadyH.cons (o := _) rfl (fun K9 hK9 => ?_) AllReadyH.nil
              go_simp
              refine hK9.out _ _ hS (fun hS => ?_)
              clear hK9 K9
              try simp only [Act.put, List.setIfInBounds_toArray, List.set_cons_zero, List.set_cons_succ]
              refine hTake (by kernel_rfl) (fun d _ _ _ _ h => by cases d <;> exact h) hS 2 (some 55) _ rfl (v := ?_) (by kernel_rfl) ?_ ?_
              rotate_left
              · intro _ _; go_simp; first | done | with_reducible rfl
              simp only [Act.put, List.setIfInBounds_toArray, List.set_cons_zero, List.set_cons_succ]
              -- the open boxes' list grows by one
              refine wpAnyH_ready (rs := [6]) (by kernel_rfl) (by simp) ?_
              refine AllReadyH.cons (o := _) rfl (fun K9 hK9 => ?_) AllReadyH.nil
              refine step_app rfl _ _ _ rfl el_int rfl (hrt.1.1.2.1.takeG hmp) rfl (Rd.oneAt _ _ (by simp)) (Is_one [(out.length : Int)]) ?hlub ?hbub ?hKub
              case hlub => have h9 : (Is (natI path)).length = path.length := (Is_length _).trans (natI_length _); rw [List.length_take]; simp; try omega
              case hbub => have := hrt.2.2.2.1; omega
              intro v2 X5 ho2 hg2 hf2
              replace ho2 : Own X5 n 1 v2 (Is (natI (path.take 0 ++ [out.length]))) := by rw [natI_take]; simpa using ho2
              have hgx := hrt.1.1.2.1
              have hrow : ∀ q, some q = blk (.slice ap 0 cp) → blk (.slice ap path.length cp) = some q := fun q e => by rw [e]; cases ap <;> rfl
              have hqp := hrt.1.2.2.2.2.2.2
              have k3 : Keep (n + 3) (.cells #[.slice ao out.length co] 23) X5 := keepG hrt.1.2.2.2.1 hg2 (fun e => by have := hqp _ (hrow _ e); omega)
              have k5 : Keep (n + 5) (.cells #[.slice ap path.length cp] 41) X5 := keepG hrt.1.2.2.2.2.1 hg2 (fun e => by have := hqp _ (hrow _ e); omega)
              replace kx : Keep g8 (.cells bb.arr 39) X5 := keepG kx hg2 (fun e => hbp (hrow _ e))
              have hvg : blk v2 ≠ some g8 := blk_grown (v := .slice ap 0 cp) hf2 (fun e => hbp (hrow _ e.symm)) hgs
              replace hrt := hrt.pushOpen hg2 ho2 hf2
              replace kx := kx.setOther (p := ⟨n + 5, 0, none⟩) (by show g8 ≠ n + 5; omega) v2
              refine hK9.out _ _ k3 (fun hS => ?_)
              clear hK9 K9
              try simp only [Act.put, List.setIfInBounds_toArray]
              have e5 := k5.cell 0
              have z5 := k5.frozen 0
              obtain ⟨a9, n9, c9, hv9, hx9⟩ := ho2
              subst hv9
              clear hx9 hg2 hf2 hgx hrow hqp
              refine wpAnyH_ready (rs := [7]) (by kernel_rfl) (by simp) ?_
              refine AllReadyH.cons (o := _) rfl (fun K9 hK9 => ?_) AllReadyH.nil
              go_simp
              refine hK9.out _ _ (k3.setOther (p := ⟨n + 5, 0, none⟩) (by show n + 3 ≠ n + 5; omega) _) (fun hS => ?_)
              clear hK9 K9
              try simp only [Act.put, List.setIfInBounds_toArray, List.set_cons_zero, List.set_cons_succ]
              refine wpAnyH_done (by kernel_rfl) ?_ _
              clear hS k3 k5 e5 z5
              generalize X5.setCell ⟨n + 5, 0, none⟩ (.slice a9 n9 c9) = X6 at *
              gi_upto_region 14 with fail
              have c3 : X6.cell? ⟨n + 3, 0, none⟩ = some (.slice ao out.length co) := hrt.1.2.2.2.1.cell 0
              have d0 : X6.cell? ⟨g8, 0, none⟩ = some (.int .i64 bb.parent) := kx.cell 0
              have d1 : X6.cell? ⟨g8, 1, none⟩ = some (.int .i64 bb.kind) := kx.cell 1
              have d2 : X6.cell? ⟨g8, 2, none⟩ = some (.int .i64 bb.w) := kx.cell 2
              have d3 : X6.cell? ⟨g8, 3, none⟩ = some (.int .i64 bb.h) := kx.cell 3
              have d4 : X6.cell? ⟨g8, 4, none⟩ = some (.int .i64 bb.pad) := kx.cell 4
              have d5 : X6.cell? ⟨g8, 5, none⟩ = some (.int .i64 bb.gap) := kx.cell 5
              have d6 : X6.cell? ⟨g8, 6, none⟩ = some (.int .i64 bb.grow) := kx.cell 6
              have d7 : X6.cell? ⟨g8, 7, none⟩ = some (.int .i64 bb.shrink) := kx.cell 7
              have d8 : X6.cell? ⟨g8, 8, none⟩ = some (.int .i64 bb.justify) := kx.cell 8
              have hrt7 := hrt.ext (Below.of_alloc X6 (.cells bb.arr 39))
              gi_wp2_with (gi_at_builtin; refine wpListIn_app rfl _ _ _ rfl el_box rfl hrt7.1.1.1 rfl (Rd.oneAt bb.arr 39 (by simp)) (Bx.vals_one _) ?hl3ub ?hb3ub ?hK3ub)
              case hl3ub => rw [Bs_length]; simp [Bx.arr]; omega
              case hb3ub => have := hrt.2.2.2.1; simp; omega
              intro v3 X7 ho3 hg3 hf3
              replace ho3 : Own X7 n 9 v3 (Bs (out ++ [bb])) := by rw [Bs_append]; exact ho3
              have hqo := hrt7.1.2.2.2.2.2.1
              have k3 : Keep (n + 3) (.cells #[.slice ao out.length co] 23) X7 := keepG hrt7.1.2.2.2.1 hg3 (fun e => by have := hqo _ e.symm; omega)
              have HR := Lib.hid (hrt7.pushTree hg3 ho3 (by rw [World.size_alloc]; exact hf3))
              have e3 := k3.cell 0
              have z3 := k3.frozen 0
              obtain ⟨a8, n8, c8, hv8, hx8⟩ := ho3
              subst hv8
              clear hx8 hg3 hf3 hqo hrt hrt7 k3 d0 d1 d2 d3 d4 d5 d6 d7 d8 c3 kx
              gi_wp2
              show KeepsFrom X.heap.size _ _ ∧ _
              exact ⟨HR.out.2.1.from _, HR.out.2.2.1, HR.out.2.2.2.2, HR.out.2.2.2.1, _, _, _, _, HS.out, HR.out.1⟩
          · have hob : ((out.length : Int) == 0) = false := beq_eq_false_iff_ne.2 (by omega)
            rw [if_pos (.inr ⟨by omega, rfl⟩)] at HS
            have HP := Lib.hid (HF.out HS.out)
            have k0 := hrt.1.2.1
            have k1 := hrt.1.2.2.1
            have g0 := k0.cell 0
            have z0 := k0.frozen 0
            have g1 := k1.setOther (p := ⟨n, 0, none⟩) (by show n + 1 ≠ n; omega) (.slice none 0 0)
            have g10 := g1.cell 0
            have z10 := g1.frozen 0
            have HL := Lib.hid (hrt.leave HP.out (pre ++ [x]))
            clear hrt k0 k1 g1
            gi_wp2
            show KeepsFrom X.heap.size _ _ ∧ _
            rw [← HQ.out]
            exact HL.out
        · rw [if_neg (by omega)] at HS
          have hmz : ((m : Int) == 0) = false := beq_eq_false_iff_ne.2 (by omega)
          have hob : ((out.length : Int) == 0) = false := beq_eq_false_iff_ne.2 (by omega)
          have hmi : (0 : Int) < m := by omega
          gi_upto_region 12 with fail
          clear c5 c3 d0 z0 kx hrt hob
          generalize W8.setCell ⟨g8, 0, none⟩ (.int .i64 (-1)) = W9 at *
          have hml : m - 1 < path.length := by omega
          obtain ⟨q, hq⟩ : ∃ q, path[m - 1]? = some q := ⟨_, List.getElem?_eq_getElem hml⟩
          have hpq : parOf path m = (q : Int) := by
            unfold parOf
            rw [if_neg hm0, List.getD_eq_getElem?_getD, hq]
            rfl
          obtain ⟨bP, offP, hap, cq⟩ := rd_int hrt2.1.1.2.1.rd (natI_get hq)
          have c5 : W9.cell? ⟨n + 5, 0, none⟩ = some (.slice (some ⟨bP, offP, none⟩) path.length cp) := by rw [← hap]; exact hrt2.1.2.2.2.2.1.cell 0
          clear hap
          have d0 : W9.cell? ⟨g8, 0, none⟩ = some (.int .i64 (-1)) := kx2.cell 0
          have z0 := kx2.frozen 0
          have kx3 : Keep g8 (.cells (b.at (q : Int)).arr 39) (W9.setCell ⟨g8, 0, none⟩ (.int .i64 (q : Int))) := kx2.store 0 _
          have hrt3 := hrt2.set hg8 hbo hbp 0 (.int .i64 (q : Int))
          have hj : ((m : Int) - 1).toNat = m - 1 := by omega
          have hj0 : (0 : Int) ≤ (m : Int) - 1 := by omega
          have hj1 : (m : Int) - 1 < path.length := by omega
          gi_upto_region 13 with fail
          clear d0 z0 cq hj hj0 hj1 c5 hrt2 kx2
          generalize W9.setCell ⟨g8, 0, none⟩ (.int .i64 (q : Int)) = WX at *
          rw [← hpq] at kx3
          have hmp : m ≤ path.length := by omega
          generalize b.at (parOf path m) = bb at *
          clear hq hpq hm0 hmz
          have hcap : ((m : Nat) : Int) ≤ cp := by omega
          have hm00 : (0 : Int) ≤ ((m : Nat) : Int) := by omega
          have kx := kx3
          have hrt := hrt3
          clear kx3 hrt3
          generalize WX = W9 at *
          -- the box bb in block g8 of W9
          have c5 : W9.cell? ⟨n + 5, 0, none⟩ = some (.slice ap path.length cp) := hrt.1.2.2.2.2.1.cell 0
          have k3 := hrt.1.2.2.2.1
          refine region_round (S := fun w' => Keep (n + 3) (.cells #[.slice ao out.length co] 23) w') (by kernel_rfl) (by rintro ⟨a, w, h⟩; exact h) (noDefer_spec (by kernel_rfl)) k3 (fun hS => ?_)
          replace hrt := hrt.drew
          replace kx : Keep g8 (.cells bb.arr 39) W9.drew := kx
          replace c5 : W9.drew.cell? ⟨n + 5, 0, none⟩ = some (.slice ap path.length cp) := c5
          clear k3
          generalize W9.drew = wd at *
          have hgw : g8 < wd.heap.size := kx.lt
          refine hTake (by kernel_rfl) (fun d _ _ _ _ h => by cases d <;> exact h) hS 1 (some 54) _ rfl (v := ?_) (by kernel_rfl) ?_ ?_
          rotate_left
          · intro _ _; go_simp; first | done | with_reducible rfl
          simp only [Act.put, List.setIfInBounds_toArray, List.set_cons_zero, List.set_cons_succ]
          refine hTake (by kernel_rfl) (fun d _ _ _ _ h => by cases d <;> exact h) hS 3 (some 56) _ rfl (v := ?_) (by kernel_rfl) ?_ ?_
          rotate_left
          · intro w9 hS9; have q := hS9.cell 0; go_simp; first | done | with_reducible rfl
          simp only [Act.put, List.setIfInBounds_toArray, List.set_cons_zero, List.set_cons_succ]
          refine hTake (by kernel_rfl) (fun d _ _ _ _ h => by cases d <;> exact h) hS 4 (some 57) _ rfl (v := ?_) (by kernel_rfl) ?_ ?_
          rotate_left
          · intro _ _; go_simp; first | done | with_reducible rfl
          simp only [Act.put, List.setIfInBounds_toArray, List.set_cons_zero, List.set_cons_succ]
          refine wpAnyH_ready (rs := [0, 5]) (by kernel_rfl) (by simp) ?_
          refine AllReadyH.cons (o := _) rfl (fun K9 hK9 => ?_) (AllReadyH.cons (o := _) rfl (fun K9 hK9 => ?_) AllReadyH.nil)
          · go_simp
            refine hK9.out _ _ hS (fun hS => ?_)
            clear hK9 K9
            try simp only [Act.put, List.setIfInBounds_toArray, List.set_cons_zero, List.set_cons_succ]
            refine hTake (by kernel_rfl) (fun d _ _ _ _ h => by cases d <;> exact h) hS 2 (some 55) _ rfl (v := ?_) (by kernel_rfl) ?_ ?_
            rotate_left
            · intro _ _; go_simp; first | done | with_reducible rfl
            simp only [Act.put, List.setIfInBounds_toArray, List.set_cons_zero, List.set_cons_succ]
            refine wpAnyH_ready (rs := [5]) (by kernel_rfl) (by simp) ?_
            refine AllReadyH.cons (o := _) rfl (fun K9 hK9 => ?_) AllReadyH.nil
            go_simp
            replace hrt := hrt.ext (Below.of_alloc wd (.cells #[.int .i64 out.length] 3))
            replace kx := kx.alloc (.cells #[.int .i64 out.length] 3)
            have hgs : g8 < (wd.alloc (.cells #[.int .i64 out.length] 3)).heap.size := kx.lt
            refine hK9.out _ _ (hS.alloc _) (fun hS => ?_)
            clear hK9 K9
            try simp only [Act.put, List.setIfInBounds_toArray, List.set_cons_zero, List.set_cons_succ]
            -- the open boxes' list grows by one
            refine wpAnyH_ready (rs := [6]) (by kernel_rfl) (by simp) ?_
            refine AllReadyH.cons (o := _) rfl (fun K9 hK9 => ?_) AllReadyH.nil
            refine step_app rfl _ _ _ rfl el_int rfl (hrt.1.1.2.1.takeG hmp) rfl (Rd.oneAt _ _ (by simp)) (Is_one [(out.length : Int)]) ?hlva ?hbva ?hKva
            case hlva => have h9 : (Is (natI path)).length = path.length := (Is_length _).trans (natI_length _); rw [List.length_take]; simp; try omega
            case hbva => have := hrt.2.2.2.1; omega
            intro v2 X5 ho2 hg2 hf2
            replace ho2 : Own X5 n 1 v2 (Is (natI (path.take m ++ [out.length]))) := by rw [natI_take]; simpa using ho2
            have hgx := hrt.1.1.2.1
            have hrow : ∀ q, some q = blk (.slice ap m cp) → blk (.slice ap path.length cp) = some q := fun q e => by rw [e]; cases ap <;> rfl
            have hqp := hrt.1.2.2.2.2.2.2
            have k3 : Keep (n + 3) (.cells #[.slice ao out.length co] 23) X5 := keepG hrt.1.2.2.2.1 hg2 (fun e => by have := hqp _ (hrow _ e); omega)
            have k5 : Keep (n + 5) (.cells #[.slice ap path.length cp] 41) X5 := keepG hrt.1.2.2.2.2.1 hg2 (fun e => by have := hqp _ (hrow _ e); omega)
            replace kx : Keep g8 (.cells bb.arr 39) X5 := keepG kx hg2 (fun e => hbp (hrow _ e))
            have hvg : blk v2 ≠ some g8 := blk_grown (v := .slice ap m cp) hf2 (fun e => hbp (hrow _ e.symm)) hgs
            replace hrt := hrt.pushOpen hg2 ho2 hf2
            replace kx := kx.setOther (p := ⟨n + 5, 0, none⟩) (by show g8 ≠ n + 5; omega) v2
            refine hK9.out _ _ k3 (fun hS => ?_)
            clear hK9 K9
            try simp only [Act.put, List.setIfInBounds_toArray]
            have e5 := k5.cell 0
            have z5 := k5.frozen 0
            obtain ⟨a9, n9, c9, hv9, hx9⟩ := ho2
            subst hv9
            clear hx9 hg2 hf2 hgx hrow hqp
            refine wpAnyH_ready (rs := [7]) (by kernel_rfl) (by simp) ?_
            refine AllReadyH.cons (o := _) rfl (fun K9 hK9 => ?_) AllReadyH.nil
            go_simp
            refine hK9.out _ _ (k3.setOther (p := ⟨n + 5, 0, none⟩) (by show n + 3 ≠ n + 5; omega) _) (fun hS => ?_)
            clear hK9 K9
            try simp only [Act.put, List.setIfInBounds_toArray, List.set_cons_zero, List.set_cons_succ]
            refine wpAnyH_done (by kernel_rfl) ?_ _
            clear hS k3 k5 e5 z5
            generalize X5.setCell ⟨n + 5, 0, none⟩ (.slice a9 n9 c9) = X6 at *
            gi_upto_region 14 with fail
            have c3 : X6.cell? ⟨n + 3, 0, none⟩ = some (.slice ao out.length co) := hrt.1.2.2.2.1.cell 0
            have d0 : X6.cell? ⟨g8, 0, none⟩ = some (.int .i64 bb.parent) := kx.cell 0
            have d1 : X6.cell? ⟨g8, 1, none⟩ = some (.int .i64 bb.kind) := kx.cell 1
            have d2 : X6.cell? ⟨g8, 2, none⟩ = some (.int .i64 bb.w) := kx.cell 2
            have d3 : X6.cell? ⟨g8, 3, none⟩ = some (.int .i64 bb.h) := kx.cell 3
            have d4 : X6.cell? ⟨g8, 4, none⟩ = some (.int .i64 bb.pad) := kx.cell 4
            have d5 : X6.cell? ⟨g8, 5, none⟩ = some (.int .i64 bb.gap) := kx.cell 5
            have d6 : X6.cell? ⟨g8, 6, none⟩ = some (.int .i64 bb.grow) := kx.cell 6
            have d7 : X6.cell? ⟨g8, 7, none⟩ = some (.int .i64 bb.shrink) := kx.cell 7
            have d8 : X6.cell? ⟨g8, 8, none⟩ = some (.int .i64 bb.justify) := kx.cell 8
            have hrt7 := hrt.ext (Below.of_alloc X6 (.cells bb.arr 39))
            gi_wp2_with (gi_at_builtin; refine wpListIn_app rfl _ _ _ rfl el_box rfl hrt7.1.1.1 rfl (Rd.oneAt bb.arr 39 (by simp)) (Bx.vals_one _) ?hl3va ?hb3va ?hK3va)
            case hl3va => rw [Bs_length]; simp [Bx.arr]; omega
            case hb3va => have := hrt.2.2.2.1; simp; omega
            intro v3 X7 ho3 hg3 hf3
            replace ho3 : Own X7 n 9 v3 (Bs (out ++ [bb])) := by rw [Bs_append]; exact ho3
            have hqo := hrt7.1.2.2.2.2.2.1
            have k3 : Keep (n + 3) (.cells #[.slice ao out.length co] 23) X7 := keepG hrt7.1.2.2.2.1 hg3 (fun e => by have := hqo _ e.symm; omega)
            have HR := Lib.hid (hrt7.pushTree hg3 ho3 (by rw [World.size_alloc]; exact hf3))
            have e3 := k3.cell 0
            have z3 := k3.frozen 0
            obtain ⟨a8, n8, c8, hv8, hx8⟩ := ho3
            subst hv8
            clear hx8 hg3 hf3 hqo hrt hrt7 k3 d0 d1 d2 d3 d4 d5 d6 d7 d8 c3 kx
            gi_wp2
            show KeepsFrom X.heap.size _ _ ∧ _
            exact ⟨HR.out.2.1.from _, HR.out.2.2.1, HR.out.2.2.2.2, HR.out.2.2.2.1, _, _, _, _, HS.out, HR.out.1⟩
          · go_simp
            replace hrt := hrt.ext (Below.of_alloc wd (.cells #[.int .i64 out.length] 3))
            replace kx := kx.alloc (.cells #[.int .i64 out.length] 3)
            have hgs : g8 < (wd.alloc (.cells #[.int .i64 out.length] 3)).heap.size := kx.lt
            clear c5
            have c5 : (wd.alloc (.cells #[.int .i64 out.length] 3)).cell? ⟨n + 5, 0, none⟩ = some (.slice ap path.length cp) := hrt.1.2.2.2.2.1.cell 0
            refine hK9.out _ _ (hS.alloc _) (fun hS => ?_)
            clear hK9 K9
            try simp only [Act.put, List.setIfInBounds_toArray, List.set_cons_zero, List.set_cons_succ]
            refine wpAnyH_ready (rs := [0]) (by kernel_rfl) (by simp) ?_
            refine AllReadyH.cons (o := _) rfl (fun K9 hK9 => ?_) AllReadyH.nil
            go_simp
            refine hK9.out _ _ hS (fun hS => ?_)
            clear hK9 K9
            try simp only [Act.put, List.setIfInBounds_toArray, List.set_cons_zero, List.set_cons_succ]
            refine hTake (by kernel_rfl) (fun d _ _ _ _ h => by cases d <;> exact h) hS 2 (some 55) _ rfl (v := ?_) (by kernel_rfl) ?_ ?_
            rotate_left
            · intro _ _; go_simp; first | done | with_reducible rfl
            simp only [Act.put, List.setIfInBounds_toArray, List.set_cons_zero, List.set_cons_succ]
            -- the open boxes' list grows by one
            refine wpAnyH_ready (rs := [6]) (by kernel_rfl) (by simp) ?_
            refine AllReadyH.cons (o := _) rfl (fun K9 hK9 => ?_) AllReadyH.nil
            refine step_app rfl _ _ _ rfl el_int rfl (hrt.1.1.2.1.takeG hmp) rfl (Rd.oneAt _ _ (by simp)) (Is_one [(out.length : Int)]) ?hlvb ?hbvb ?hKvb
            case hlvb => have h9 : (Is (natI path)).length = path.length := (Is_length _).trans (natI_length _); rw [List.length_take]; simp; try omega
            case hbvb => have := hrt.2.2.2.1; omega
            intro v2 X5 ho2 hg2 hf2
            replace ho2 : Own X5 n 1 v2 (Is (natI (path.take m ++ [out.length]))) := by rw [natI_take]; simpa using ho2
            have hgx := hrt.1.1.2.1
            have hrow : ∀ q, some q = blk (.slice ap m cp) → blk (.slice ap path.length cp) = some q := fun q e => by rw [e]; cases ap <;> rfl
            have hqp := hrt.1.2.2.2.2.2.2
            have k3 : Keep (n + 3) (.cells #[.slice ao out.length co] 23) X5 := keepG hrt.1.2.2.2.1 hg2 (fun e => by have := hqp _ (hrow _ e); omega)
            have k5 : Keep (n + 5) (.cells #[.slice ap path.length cp] 41) X5 := keepG hrt.1.2.2.2.2.1 hg2 (fun e => by have := hqp _ (hrow _ e); omega)
            replace kx : Keep g8 (.cells bb.arr 39) X5 := keepG kx hg2 (fun e => hbp (hrow _ e))
            have hvg : blk v2 ≠ some g8 := blk_grown (v := .slice ap m cp) hf2 (fun e => hbp (hrow _ e.symm)) hgs
            replace hrt := hrt.pushOpen hg2 ho2 hf2
            replace kx := kx.setOther (p := ⟨n + 5, 0, none⟩) (by show g8 ≠ n + 5; omega) v2
            refine hK9.out _ _ k3 (fun hS => ?_)
            clear hK9 K9
            try simp only [Act.put, List.setIfInBounds_toArray]
            have e5 := k5.cell 0
            have z5 := k5.frozen 0
            obtain ⟨a9, n9, c9, hv9, hx9⟩ := ho2
            subst hv9
            clear hx9 hg2 hf2 hgx hrow hqp
            refine wpAnyH_ready (rs := [7]) (by kernel_rfl) (by simp) ?_
            refine AllReadyH.cons (o := _) rfl (fun K9 hK9 => ?_) AllReadyH.nil
            go_simp
            refine hK9.out _ _ (k3.setOther (p := ⟨n + 5, 0, none⟩) (by show n + 3 ≠ n + 5; omega) _) (fun hS => ?_)
            clear hK9 K9
            try simp only [Act.put, List.setIfInBounds_toArray, List.set_cons_zero, List.set_cons_succ]
            refine wpAnyH_done (by kernel_rfl) ?_ _
            clear hS k3 k5 e5 z5
            generalize X5.setCell ⟨n + 5, 0, none⟩ (.slice a9 n9 c9) = X6 at *
            gi_upto_region 14 with fail
            have c3 : X6.cell? ⟨n + 3, 0, none⟩ = some (.slice ao out.length co) := hrt.1.2.2.2.1.cell 0
            have d0 : X6.cell? ⟨g8, 0, none⟩ = some (.int .i64 bb.parent) := kx.cell 0
            have d1 : X6.cell? ⟨g8, 1, none⟩ = some (.int .i64 bb.kind) := kx.cell 1
            have d2 : X6.cell? ⟨g8, 2, none⟩ = some (.int .i64 bb.w) := kx.cell 2
            have d3 : X6.cell? ⟨g8, 3, none⟩ = some (.int .i64 bb.h) := kx.cell 3
            have d4 : X6.cell? ⟨g8, 4, none⟩ = some (.int .i64 bb.pad) := kx.cell 4
            have d5 : X6.cell? ⟨g8, 5, none⟩ = some (.int .i64 bb.gap) := kx.cell 5
            have d6 : X6.cell? ⟨g8, 6, none⟩ = some (.int .i64 bb.grow) := kx.cell 6
            have d7 : X6.cell? ⟨g8, 7, none⟩ = some (.int .i64 bb.shrink) := kx.cell 7
            have d8 : X6.cell? ⟨g8, 8, none⟩ = some (.int .i64 bb.justify) := kx.cell 8
            have hrt7 := hrt.ext (Below.of_alloc X6 (.cells bb.arr 39))
            gi_wp2_with (gi_at_builtin; refine wpListIn_app rfl _ _ _ rfl el_box rfl hrt7.1.1.1 rfl (Rd.oneAt bb.arr 39 (by simp)) (Bx.vals_one _) ?hl3vb ?hb3vb ?hK3vb)
            case hl3vb => rw [Bs_length]; simp [Bx.arr]; omega
            case hb3vb => have := hrt.2.2.2.1; simp; omega
            intro v3 X7 ho3 hg3 hf3
            replace ho3 : Own X7 n 9 v3 (Bs (out ++ [bb])) := by rw [Bs_append]; exact ho3
            have hqo := hrt7.1.2.2.2.2.2.1
            have k3 : Keep (n + 3) (.cells #[.slice ao out.length co] 23) X7 := keepG hrt7.1.2.2.2.1 hg3 (fun e => by have := hqo _ e.symm; omega)
            have HR := Lib.hid (hrt7.pushTree hg3 ho3 (by rw [World.size_alloc]; exact hf3))
            have e3 := k3.cell 0
            have z3 := k3.frozen 0
            obtain ⟨a8, n8, c8, hv8, hx8⟩ := ho3
            subst hv8
            clear hx8 hg3 hf3 hqo hrt hrt7 k3 d0 d1 d2 d3 d4 d5 d6 d7 d8 c3 kx
            gi_wp2
            show KeepsFrom X.heap.size _ _ ∧ _
            exact ⟨HR.out.2.1.from _, HR.out.2.2.1, HR.out.2.2.2.2, HR.out.2.2.2.1, _, _, _, _, HS.out, HR.out.1⟩
end Go.Proofs.YtdlggpphfkjidaaGreatDoor
