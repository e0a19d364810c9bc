/-
  Parts of the proof: Reg Val Str Val2 Edit.
-/
import Derived.Test.YthkkgleoikpfgaaGreatDoorKAa
import Derived.Deep.RegionHeld3
namespace Go.Proofs.YthkkgleoikpfgaaGreatDoor
open Go Go.RowKit
section
variable {P : Program} {ops : Array Oper} {Q : Exit → Act → World → Prop} {md : Region.Mode} {S : World → Prop}
def putUndef (ds : List (Option Tmp)) (a : Act) : Act := ds.foldl (fun a d => a.put d undef) a
def skipB (md : Region.Mode) (ops : Array Oper) : List Nat → List (Option Tmp) → Array Bool → Act → Bool
 | [], [], _, _ => true
 | i :: is, d :: ds, listed, a =>
  match ops[i]? with
  | none => false
  | some o => o.dst == d && Region.free md ops listed i && (Region.ready md ops listed).contains i && !(Region.wanted o (yielded ops a.tmps)) && skipB md ops is ds (listed.setIfInBounds i true) (a.put d undef)
 | _, _, _, _ => false
def listAll (is : List Nat) (listed : Array Bool) : Array Bool := is.foldl (fun l i => l.setIfInBounds i true) listed
/-- operations that are passed over -/
theorem hSkips (hs : Region.noSelect ops = true) (hQ : ∀ (d : Option Tmp) (v : Value) c a w, Q (.panic c) (a.put d v) w → Q (.panic c) a w) {w : World} (hS : S w) :
 ∀ (is : List Nat) (ds : List (Option Tmp)) {fuel : Nat} {listed : Array Bool} {a : Act}, skipB md ops is ds listed a = true →
 wpAnyH P md ops Q S fuel (listAll is listed) (putUndef ds a) w → wpAnyH P md ops Q S (fuel + is.length) listed a w
 | [], [], _, _, _, _, h => h
 | [], _ :: _, _, _, _, hb, _ => by simp [skipB] at hb
 | _ :: _, [], _, _, _, hb, _ => by simp [skipB] at hb
 | i :: is, d :: ds, fuel, listed, a, hb, h => by
  unfold skipB at hb
  split at hb
  ·cases hb
  ·rename_i o ho
   simp only [Bool.and_eq_true, beq_iff_eq, Bool.not_eq_true'] at hb
   obtain ⟨⟨⟨⟨hd, hf⟩, hr⟩, hw⟩, hrest⟩ := hb
   subst hd
   exact wpAnyH_take ho hs hf hr (hQ _ _) (Or.inr ⟨hw, rfl⟩) hS (hSkips hs hQ hS is ds hrest h)
def takeB (md : Region.Mode) (ops : Array Oper) (i : Nat) (d : Option Tmp) (listed : Array Bool) (a : Act) : Bool :=
 match ops[i]? with
 | none => false
 | some o => o.dst == d && Region.free md ops listed i && (Region.ready md ops listed).contains i && Region.wanted o (yielded ops a.tmps)
/-- one operation that yields v in every world at hand -/
theorem hTake (hs : Region.noSelect ops = true) (hQ : ∀ (d : Option Tmp) (v : Value) c a w, Q (.panic c) (a.put d v) w → Q (.panic c) a w) {w : World} (hS : S w)
 (i : Nat) (d : Option Tmp) (o : Oper) (ho : ops[i]? = some o) {v : Value} {fuel : Nat} {listed : Array Bool} {a : Act} (hb : takeB md ops i d listed a = true)
 (hy : ∀ w, S w → (execOp a.eval o).run P w = .ok (.value v) w)
 (h : wpAnyH P md ops Q S fuel (listed.setIfInBounds i true) (a.put d v) w) : wpAnyH P md ops Q S (fuel + 1) listed a w := by
 unfold takeB at hb
 rw [ho] at hb
 simp only [Bool.and_eq_true, beq_iff_eq] at hb
 obtain ⟨⟨⟨hd, hf⟩, hr⟩, hw⟩ := hb
 subst hd
 exact wpAnyH_take ho hs hf hr (hQ _ _) (Or.inl ⟨hw, hy⟩) hS h
end
/-- append, one operation of a region that draws -/
theorem step_app {P : Program} {ops : Array Oper} {o : Oper} {a : Act} {w : World} {K : Act → World → Prop} {Q : Exit → Act → World → Prop} (hw : Region.wanted o (yielded ops a.tmps) = true) (s x : Operand) (t : TypeId) (hop : o.op = Op.call { callee := Callee.builtin Builtin.append, args := #[s, x], argTypes := #[t, t] })
 {e : TypeId} {z : Value} {size bytes : Nat} (E : EL P t e z size bytes) {base : Nat} {v : Value} {xs : List Value} (hs : a.eval s = v) (hv : Own w base size v xs)
 {src : Value} {ys : List Value} (hx : a.eval x = src) (hsrc : Rd w size src ys) (h1 : ∀ y ∈ ys, y.oneCell' = true) (hlen : xs.length + ys.length ≤ 1073741824) (hbase : base ≤ w.heap.size)
 (hK : ∀ v' w', Own w' base size v' (xs ++ ys) → w.grownBy w' (blk v) → (blk v' = blk v ∨ ∃ k, blk v' = some k ∧ w.heap.size ≤ k) → K (a.put o.dst v') w') :
 if Region.wanted o (yielded ops a.tmps) = true then Oper.wp P o a w K Q else K (a.put o.dst undef) w := by
 rw [if_pos hw]
 obtain ⟨v', w', hrun, r1, r2, r3⟩ := run_append_Own (P := P) (ty := o.type) E hv hsrc h1 hlen hbase
 unfold Oper.wp
 simp [execOp, hop, resolve, invoke, builtin, hs, hx, hrun, Result.andThen]
 exact hK _ _ r1 r2 r3
/-- as hTake, its side conditions paid by themselves -/
theorem hTk {P : Program} {ops : Array Oper} {Q : Exit → Act → World → Prop} {md : Region.Mode} {S : World → Prop} {w : World} (hS : S w) (i d : Nat) {o : Oper} (ho : ops[i]? = some o) {v : Value} {fuel : Nat} {listed : Array Bool} {a : Act}
  (hy : ∀ w, S w → (execOp a.eval o).run P w = .ok (.value v) w) (h : wpAnyH P md ops Q S fuel (listed.setIfInBounds i true) (a.put (some d) v) w)
  (hs : Region.noSelect ops = true := by kernel_rfl) (hQ : ∀ (d : Option Tmp) (v : Value) c a w, Q (.panic c) (a.put d v) w → Q (.panic c) a w := by intro d _ _ _ _ h; cases d <;> exact h) (hb : takeB md ops i (some d) listed a = true := by kernel_rfl) :
  wpAnyH P md ops Q S (fuel + 1) listed a w := hTake hs hQ hS i (some d) o ho hb hy h
theorem lsA {α : Type} (l : List α) (i : Nat) (a : α) : l.toArray.setIfInBounds i a = (l.set i a).toArray := List.setIfInBounds_toArray l i a
theorem ls0 {α : Type} {x : α} {xs : List α} {a : α} : (x :: xs).set 0 a = a :: xs := rfl
theorem ls1 {α : Type} {x : α} {xs : List α} {i : Nat} {a : α} : (x :: xs).set (i + 1) a = x :: xs.set i a := rfl
theorem after {B : Nat} {w w1 w2 : World} (h : Below B w w1) (h2 : Ext w1 w2) (hB : B ≤ w.heap.size) : Below B w w2 :=
 h.trans (h2.mono (Nat.le_trans hB h.size))
theorem cellOn {w1 w2 : World} {b o : Nat} {v : Option Value} (h2 : Ext w1 w2) (hb : b < w1.heap.size) (h : w1.cell? ⟨b, o, none⟩ = v) : w2.cell? ⟨b, o, none⟩ = v := by
 rw [h2.cell (by exact hb)]
 exact h
/-- a box that has just been laid into a variable -/
theorem cells9_new (w : World) (x : Bx) (e : TypeId) : Cells9 (w.alloc (.cells #[.int .i64 x.parent, .int .i64 x.kind, .int .i64 x.w, .int .i64 x.h, .int .i64 x.pad, .int .i64 x.gap, .int .i64 x.grow, .int .i64 x.shrink, .int .i64 x.justify] e)).drew w.heap.size 0 x := by
 constructor <;> (show (w.alloc _).cell? _ = _; rw [cell_of_heap (heap_alloc_new w _)]; rfl)
/-- box k is in order beside those before it -/
def goodAt (l : List Bx) (k : Nat) : Prop :=
 okB (bx l k) = true ∧ (0 < k → 0 ≤ par l k ∧ par l k < k ∧ (par l k).toNat ∈ anc l (k - 1)) ∧ (anc l k).length ≤ 6
/-- a box has not too many boxes -/
def kidAt (l : List Bx) (k : Nat) : Prop := (kid l k).length ≤ 8 ∧ ((bx l k).kind = 0 → kid l k = [])
theorem goodAt_down {l : List Bx} {k : Nat} (h0 : par l 0 = -1) (h : ∀ j, j < k → goodAt l j) {i : Nat} (hk : i < k) : Down l i := by
 intro j hj
 rcases Nat.eq_zero_or_pos j with h1 | h1
 ·subst h1; rw [h0]; omega
 ·exact ((h j (by omega)).2.1 h1).2.1
theorem vld_of {l : List Bx} (h1 : 1 ≤ l.length) (h2 : l.length ≤ 16) (h0 : par l 0 = -1) (hg : ∀ j, j < l.length → goodAt l j) (hk : ∀ j, j < l.length → kidAt l j) : vldB l = true :=
 vldB_iff.2 ⟨h1, h2, h0, fun i hi => (hg i hi).1, fun i hp hi => (hg i hi).2.1 hp, fun i hi => (hg i hi).2.2, fun i hi => hk i hi⟩
theorem vld_not_good {l : List Bx} {k : Nat} (hk : k < l.length) (h : ¬ goodAt l k) : vldB l = false := by
 rw [Bool.eq_false_iff]
 intro hv
 have hv := vldB_iff.1 hv
 exact h ⟨hv.ok k hk, fun h0 => hv.par k h0 hk, hv.depth k hk⟩
theorem vld_not_kid {l : List Bx} {k : Nat} (hk : k < l.length) (h : ¬ kidAt l k) : vldB l = false := by
 rw [Bool.eq_false_iff]
 intro hv
 exact h ((vldB_iff.1 hv).kids k hk)
set_option maxHeartbeats 8000000 in
theorem vt_long {v : Value} {l : List Bx} (w : World) (hv : Rd w 9 v (Bs l)) (hl : l.length ≤ 16) (hpos : 1 ≤ l.length) (h0 : par l 0 = -1) :
 Calls Tryz.prog 74 #[v] w fun e w' => e = .returned (.bool (vldB l)) ∧ Ext w w' := by
 have hrd := hv
 obtain ⟨a, c, rfl, hn, hc, hcell⟩ := hv.boxes
 unfold maxLen at hc
 obtain ⟨b, off, rfl, hbl, hC⟩ := hcell 0 _ (bx_get (by omega))
 have hp0 : ((bx l 0).parent != -1) = false := by simp; exact h0
 have hin : inR (l.length : Int) 1 16 = true := by rw [inR_iff]; omega
 obtain ⟨c00, _⟩ := hC 0 _ (bx_get (by omega))
 have HC := Lib.hid hC
 have H0 := Lib.hid h0
 simp only [Nat.zero_mul, Nat.add_zero] at c00
 clear hcell hC h0
 go_enter Tryz.func74, Tryz.ntmps74
 go_wp2_with (go_at_call 65; refine (within_any _ _ _ _).mono ?_; rintro e w' ⟨rfl, rfl⟩)
 clear c00 hp0 hin
 go_loopw [21] (fun i' wr => ∃ k : Nat, k ≤ l.length ∧ i' = .int .i64 k ∧ Hid (∀ j, j < k → goodAt l j) ∧ Below w.heap.size w wr) (fun i' _ => l.length - (intOf i').toNat)
 case atStart => exact ⟨0, by omega, rfl, fun j hj => by omega, Below.refl _ _⟩
 case round =>
  obtain ⟨k, hk, rfl, hg, hb⟩ := hrel
  have hsz := hb.size
  by_cases hlt : k < l.length
  ·obtain ⟨c0, c1, c2, c3, c4, c5, c6, c7, c8⟩ := (HC.out k _ (bx_get hlt)).below hb hbl
   by_cases hok : okB (bx l k) = true
   ·have hok' := hok
    clear hok
    by_cases hk0 : k = 0
    ·have hdk : Down l ((k : Int)).toNat := by
      rw [Int.toNat_natCast]
      intro j hj
      obtain rfl : j = 0 := by omega
      rw [H0.out]
      omega
     have Hdk := Lib.hid hdk
     have Hk0 := Lib.hid hk0
     clear hdk
     have hgt : decide (0 < k) = false := by simp [hk0]
     have hgt2 : decide ((0 : Int) < (k : Int)) = false := by simp [hk0]
     clear hk0
     go_wp2
     refine wp_region_held_drew (S := fun w' => Below w.heap.size w w' ∧ wr.heap.size < w'.heap.size ∧ Cells9 w' wr.heap.size 0 (bx l k)) (by kernel_rfl) ?_ (fun hS => ?_)
     ·exact ⟨(hb.alloc (by omega) _).drew, by simp, cells9_new _ _ _⟩
     refine hTk hS 0 26 rfl (v := ?_) ?_ ?_
     rotate_left
     ·intro w9 hS9; obtain ⟨_, _, ⟨d0, d1, d2, d3, d4, d5, d6, d7, d8⟩⟩ := hS9; go_simp; first | done | with_reducible rfl
     simp only [Act.put, lsA, ls0, ls1]
     refine wpAnyH_ready (rs := [1]) (by kernel_rfl) (by simp) ?_
     refine AllReadyH.cons (o := _) rfl (fun K9 hK9 => ?_) AllReadyH.nil
     go_simp
     refine (styled_any (bx l k) _).mono ?_; rintro e w' ⟨he, hx⟩; rw [hok'] at he; subst he
     try go_wp2_with fail
     refine hK9.out _ _ ?_ (fun hS => ?_)
     ·obtain ⟨hS1, hS2, hS3⟩ := hS; exact ⟨after hS1 hx (Nat.le_refl _), Nat.lt_of_lt_of_le hS2 hx.size, hS3.below hx (by exact hS2)⟩
     clear hK9 K9
     try simp only [Act.put, lsA, ls0, ls1]
     refine hTk hS 2 28 rfl (v := ?_) ?_ ?_
     rotate_left
     ·intro w9 hS9; obtain ⟨_, _, ⟨d0, d1, d2, d3, d4, d5, d6, d7, d8⟩⟩ := hS9; go_simp; first | done | with_reducible rfl
     simp only [Act.put, lsA, ls0, ls1]
     refine hTk hS 3 29 rfl (v := ?_) ?_ ?_
     rotate_left
     ·intro w9 hS9; obtain ⟨_, _, ⟨d0, d1, d2, d3, d4, d5, d6, d7, d8⟩⟩ := hS9; go_simp; first | done | with_reducible rfl
     simp only [Act.put, lsA, ls0, ls1]
     refine hTk hS 4 30 rfl (v := ?_) ?_ ?_
     rotate_left
     ·intro w9 hS9; obtain ⟨_, _, ⟨d0, d1, d2, d3, d4, d5, d6, d7, d8⟩⟩ := hS9; go_simp; first | done | with_reducible rfl
     simp only [Act.put, lsA, ls0, ls1]
     refine hTk hS 5 31 rfl (v := ?_) ?_ ?_
     rotate_left
     ·intro w9 hS9; obtain ⟨_, _, ⟨d0, d1, d2, d3, d4, d5, d6, d7, d8⟩⟩ := hS9; go_simp; first | done | with_reducible rfl
     simp only [Act.put, lsA, ls0, ls1]
     refine hTk hS 6 32 rfl (v := ?_) ?_ ?_
     rotate_left
     ·intro w9 hS9; obtain ⟨_, _, ⟨d0, d1, d2, d3, d4, d5, d6, d7, d8⟩⟩ := hS9; go_simp; first | done | with_reducible rfl
     simp only [Act.put, lsA, ls0, ls1]
     refine hSkips (by kernel_rfl) (fun d _ _ _ _ h => by cases d <;> exact h) hS [7, 8, 9, 10, 11, 12, 13, 14, 15, 16, 17, 18, 19, 20, 21] [some 33, some 34, some 35, some 36, some 37, some 38, some 39, some 40, some 41, some 42, some 43, some 44, some 45, some 46, some 47] (by kernel_rfl) ?_
     simp only [putUndef, listAll, List.foldl_cons, List.foldl_nil, Act.put, List.setIfInBounds_toArray, List.set_cons_zero, List.set_cons_succ]
     refine hTk hS 22 48 rfl (v := ?_) ?_ ?_
     rotate_left
     ·intro w9 hS9; obtain ⟨_, _, ⟨d0, d1, d2, d3, d4, d5, d6, d7, d8⟩⟩ := hS9; go_simp; first | done | with_reducible rfl
     simp only [Act.put, lsA, ls0, ls1]
     refine hTk hS 23 49 rfl (v := ?_) ?_ ?_
     rotate_left
     ·intro w9 hS9; obtain ⟨_, _, ⟨d0, d1, d2, d3, d4, d5, d6, d7, d8⟩⟩ := hS9; go_simp; first | done | with_reducible rfl
     simp only [Act.put, lsA, ls0, ls1]
     refine wpAnyH_done (by kernel_rfl) ?_ _
     go_wp2_with (fail)
     refine (path_int (l := l) (i := (k : Int)) _ (by omega) (by omega) (hrd.below hS.1 (Nat.le_refl _)) Hdk.out (by omega)).mono ?_
     rintro e w2 ⟨vq, rfl, hoq, hx2⟩
     obtain ⟨aq, cq, rfl, hnq, hcq, _⟩ := hoq.rd.ints
     unfold maxLen at hcq
     rw [ni_length, List.length_reverse] at hnq
     have hb2 := after hS.1 hx2 (Nat.le_refl _)
     simp only [ni_length, List.length_reverse, Int.toNat_natCast] at *
     clear hoq hS hx2
     by_cases h6 : (anc l k).length ≤ 6
     ·have hgk : goodAt l k := ⟨hok', fun h => by have := Hk0.out; omega, h6⟩
      have hg2 : Hid (∀ j, j < k + 1 → goodAt l j) := fun j hj => by
       rcases Nat.lt_or_ge j k with h | h
       ·exact hg.out j h
       ·obtain rfl : j = k := by omega
        exact hgk
      clear hgk
      go_wp2
      go_roundw
      case rel => exact ⟨k + 1, by omega, by go_num, hg2, hb2⟩
      case measure => simp [intOf]; omega
     ·have hng : ¬ goodAt l k := fun hg1 => h6 hg1.2.2
      have Hng := Lib.hid hng
      clear hng
      go_wp2
      go_ret
      exact ⟨by rw [vld_not_good hlt Hng.out]; rfl, hb2⟩
    ·have hkp : 0 < k := by omega
     have hwr : IntKind.i64.wrap ((k : Int) - 1) = (k : Int) - 1 := IntWalk.i64_in _ (by omega)
     by_cases hw : inR (bx l k).parent 0 ((k : Int) - 1) = true
     ·have hw' := hw
      rw [inR_iff] at hw
      have hdn : Down l ((k : Int) - 1).toNat := goodAt_down H0.out hg (by omega)
      have hdk : Down l ((k : Int)).toNat := by
       rw [Int.toNat_natCast]
       intro j hj
       rcases Nat.lt_or_ge j k with h | h
       ·exact goodAt_down H0.out hg h j (Nat.le_refl _)
       ·obtain rfl : j = k := by omega
        unfold par
        omega
      have Hdk := Lib.hid hdk
      clear hdk
      by_cases hm : (bx l k).parent ∈ ni (anc l ((k : Int) - 1).toNat).reverse
      ·have hm' : decide ((bx l k).parent ∈ ni (anc l ((k : Int) - 1).toNat).reverse) = true := by simp only [hm, decide_true]
       have Hm := Lib.hid hm
       have Hdn := Lib.hid hdn
       clear hm hk0
       go_wp2
       refine wp_region_held_drew (S := fun w' => Below w.heap.size w w' ∧ wr.heap.size < w'.heap.size ∧ Cells9 w' wr.heap.size 0 (bx l k)) (by kernel_rfl) ?_ (fun hS => ?_)
       ·exact ⟨(hb.alloc (by omega) _).drew, by simp, cells9_new _ _ _⟩
       refine hTk hS 0 26 rfl (v := ?_) ?_ ?_
       rotate_left
       ·intro w9 hS9; obtain ⟨_, _, ⟨d0, d1, d2, d3, d4, d5, d6, d7, d8⟩⟩ := hS9; go_simp; first | done | with_reducible rfl
       simp only [Act.put, lsA, ls0, ls1]
       refine wpAnyH_ready (rs := [1]) (by kernel_rfl) (by simp) ?_
       refine AllReadyH.cons (o := _) rfl (fun K9 hK9 => ?_) AllReadyH.nil
       go_simp
       refine (styled_any (bx l k) _).mono ?_; rintro e w' ⟨he, hx⟩; rw [hok'] at he; subst he
       try go_wp2_with fail
       refine hK9.out _ _ ?_ (fun hS => ?_)
       ·obtain ⟨hS1, hS2, hS3⟩ := hS; exact ⟨after hS1 hx (Nat.le_refl _), Nat.lt_of_lt_of_le hS2 hx.size, hS3.below hx (by exact hS2)⟩
       clear hK9 K9
       try simp only [Act.put, lsA, ls0, ls1]
       refine hTk hS 2 28 rfl (v := ?_) ?_ ?_
       rotate_left
       ·intro w9 hS9; obtain ⟨_, _, ⟨d0, d1, d2, d3, d4, d5, d6, d7, d8⟩⟩ := hS9; go_simp; first | done | with_reducible rfl
       simp only [Act.put, lsA, ls0, ls1]
       refine hTk hS 3 29 rfl (v := ?_) ?_ ?_
       rotate_left
       ·intro w9 hS9; obtain ⟨_, _, ⟨d0, d1, d2, d3, d4, d5, d6, d7, d8⟩⟩ := hS9; go_simp; first | done | with_reducible rfl
       simp only [Act.put, lsA, ls0, ls1]
       refine hTk hS 4 30 rfl (v := ?_) ?_ ?_
       rotate_left
       ·intro w9 hS9; obtain ⟨_, _, ⟨d0, d1, d2, d3, d4, d5, d6, d7, d8⟩⟩ := hS9; go_simp; first | done | with_reducible rfl
       simp only [Act.put, lsA, ls0, ls1]
       refine hTk hS 5 31 rfl (v := ?_) ?_ ?_
       rotate_left
       ·intro w9 hS9; obtain ⟨_, _, ⟨d0, d1, d2, d3, d4, d5, d6, d7, d8⟩⟩ := hS9; go_simp; first | done | with_reducible rfl
       simp only [Act.put, lsA, ls0, ls1]
       refine hTk hS 6 32 rfl (v := ?_) ?_ ?_
       rotate_left
       ·intro w9 hS9; obtain ⟨_, _, ⟨d0, d1, d2, d3, d4, d5, d6, d7, d8⟩⟩ := hS9; go_simp; first | done | with_reducible rfl
       simp only [Act.put, lsA, ls0, ls1]
       refine hTk hS 7 33 rfl (v := ?_) ?_ ?_
       rotate_left
       ·intro w9 hS9; obtain ⟨_, _, ⟨d0, d1, d2, d3, d4, d5, d6, d7, d8⟩⟩ := hS9; go_simp; first | done | with_reducible rfl
       simp only [Act.put, lsA, ls0, ls1]
       refine hTk hS 8 34 rfl (v := ?_) ?_ ?_
       rotate_left
       ·intro w9 hS9; obtain ⟨_, _, ⟨d0, d1, d2, d3, d4, d5, d6, d7, d8⟩⟩ := hS9; go_simp; first | done | with_reducible rfl
       simp only [Act.put, lsA, ls0, ls1]
       refine hTk hS 9 35 rfl (v := ?_) ?_ ?_
       rotate_left
       ·intro w9 hS9; obtain ⟨_, _, ⟨d0, d1, d2, d3, d4, d5, d6, d7, d8⟩⟩ := hS9; go_simp; first | done | with_reducible rfl
       simp only [Act.put, lsA, ls0, ls1]
       refine hTk hS 10 36 rfl (v := ?_) ?_ ?_
       rotate_left
       ·intro w9 hS9; obtain ⟨_, _, ⟨d0, d1, d2, d3, d4, d5, d6, d7, d8⟩⟩ := hS9; go_simp; first | done | with_reducible rfl
       simp only [Act.put, lsA, ls0, ls1]
       refine wpAnyH_ready (rs := [11]) (by kernel_rfl) (by simp) ?_
       refine AllReadyH.cons (o := _) rfl (fun K9 hK9 => ?_) AllReadyH.nil
       go_simp
       refine (within_any _ _ _ _).mono ?_; rintro e w' ⟨he, rfl⟩; rw [hw'] at he; subst he
       try go_wp2_with fail
       refine hK9.out _ _ ?_ (fun hS => ?_)
       ·exact hS
       clear hK9 K9
       try simp only [Act.put, lsA, ls0, ls1]
       refine hTk hS 12 38 rfl (v := ?_) ?_ ?_
       rotate_left
       ·intro w9 hS9; obtain ⟨_, _, ⟨d0, d1, d2, d3, d4, d5, d6, d7, d8⟩⟩ := hS9; go_simp; first | done | with_reducible rfl
       simp only [Act.put, lsA, ls0, ls1]
       refine hTk hS 13 39 rfl (v := ?_) ?_ ?_
       rotate_left
       ·intro w9 hS9; obtain ⟨_, _, ⟨d0, d1, d2, d3, d4, d5, d6, d7, d8⟩⟩ := hS9; go_simp; first | done | with_reducible rfl
       simp only [Act.put, lsA, ls0, ls1]
       refine hTk hS 14 40 rfl (v := ?_) ?_ ?_
       rotate_left
       ·intro w9 hS9; obtain ⟨_, _, ⟨d0, d1, d2, d3, d4, d5, d6, d7, d8⟩⟩ := hS9; go_simp; first | done | with_reducible rfl
       simp only [Act.put, lsA, ls0, ls1]
       refine hTk hS 15 41 rfl (v := ?_) ?_ ?_
       rotate_left
       ·intro w9 hS9; obtain ⟨_, _, ⟨d0, d1, d2, d3, d4, d5, d6, d7, d8⟩⟩ := hS9; go_simp; first | done | with_reducible rfl
       simp only [Act.put, lsA, ls0, ls1]
       refine hTk hS 17 43 rfl (v := ?_) ?_ ?_
       rotate_left
       ·intro w9 hS9; obtain ⟨_, _, ⟨d0, d1, d2, d3, d4, d5, d6, d7, d8⟩⟩ := hS9; go_simp; first | done | with_reducible rfl
       simp only [Act.put, lsA, ls0, ls1]
       refine hTk hS 18 44 rfl (v := ?_) ?_ ?_
       rotate_left
       ·intro w9 hS9; obtain ⟨_, _, ⟨d0, d1, d2, d3, d4, d5, d6, d7, d8⟩⟩ := hS9; go_simp; first | done | with_reducible rfl
       simp only [Act.put, lsA, ls0, ls1]
       refine wpAnyH_ready (rs := [16]) (by kernel_rfl) (by simp) ?_
       refine AllReadyH.cons (o := _) rfl (fun K9 hK9 => ?_) AllReadyH.nil
       go_simp
       refine (path_int (l := l) _ (by omega) (by omega) (hrd.below hS.1 (Nat.le_refl _)) hdn (by omega)).mono ?_; rintro e w' ⟨vp, rfl, hop, hx⟩
       try go_wp2_with fail
       refine hK9.out _ _ ?_ (fun hS => ?_)
       ·obtain ⟨hS1, hS2, hS3⟩ := hS; exact ⟨after hS1 hx (Nat.le_refl _), Nat.lt_of_lt_of_le hS2 hx.size, hS3.below hx (by exact hS2)⟩
       clear hK9 K9
       try simp only [Act.put, lsA, ls0, ls1]
       refine wpAnyH_ready (rs := [19]) (by kernel_rfl) (by simp) ?_
       refine AllReadyH.cons (o := _) rfl (fun K9 hK9 => ?_) AllReadyH.nil
       go_simp
       refine (Contains_any _ _ hop.rd).mono ?_; rintro e w' ⟨he, rfl⟩; rw [hm'] at he; subst he
       try go_wp2_with fail
       refine hK9.out _ _ ?_ (fun hS => ?_)
       ·exact hS
       clear hK9 K9
       try simp only [Act.put, lsA, ls0, ls1]
       refine hTk hS 20 46 rfl (v := ?_) ?_ ?_
       rotate_left
       ·intro w9 hS9; obtain ⟨_, _, ⟨d0, d1, d2, d3, d4, d5, d6, d7, d8⟩⟩ := hS9; go_simp; first | done | with_reducible rfl
       simp only [Act.put, lsA, ls0, ls1]
       refine hTk hS 21 47 rfl (v := ?_) ?_ ?_
       rotate_left
       ·intro w9 hS9; obtain ⟨_, _, ⟨d0, d1, d2, d3, d4, d5, d6, d7, d8⟩⟩ := hS9; go_simp; first | done | with_reducible rfl
       simp only [Act.put, lsA, ls0, ls1]
       refine hTk hS 22 48 rfl (v := ?_) ?_ ?_
       rotate_left
       ·intro w9 hS9; obtain ⟨_, _, ⟨d0, d1, d2, d3, d4, d5, d6, d7, d8⟩⟩ := hS9; go_simp; first | done | with_reducible rfl
       simp only [Act.put, lsA, ls0, ls1]
       refine hTk hS 23 49 rfl (v := ?_) ?_ ?_
       rotate_left
       ·intro w9 hS9; obtain ⟨_, _, ⟨d0, d1, d2, d3, d4, d5, d6, d7, d8⟩⟩ := hS9; go_simp; first | done | with_reducible rfl
       simp only [Act.put, lsA, ls0, ls1]
       refine wpAnyH_done (by kernel_rfl) ?_ _
       go_wp2_with (fail)
       refine (path_int (l := l) (i := (k : Int)) _ (by omega) (by omega) (hrd.below hS.1 (Nat.le_refl _)) Hdk.out (by omega)).mono ?_
       rintro e w2 ⟨vq, rfl, hoq, hx2⟩
       obtain ⟨aq, cq, rfl, hnq, hcq, _⟩ := hoq.rd.ints
       unfold maxLen at hcq
       rw [ni_length, List.length_reverse] at hnq
       have hb2 := after hS.1 hx2 (Nat.le_refl _)
       simp only [ni_length, List.length_reverse, Int.toNat_natCast] at *
       clear hoq hS hx2
       by_cases h6 : (anc l k).length ≤ 6
       ·have hgk : goodAt l k := ⟨hok', fun _ => ⟨hw.1, by unfold par; omega, by
         have := Hm.out
         rw [mem_ni] at this
         obtain ⟨n, hn1, hn2⟩ := this
         rw [List.mem_reverse] at hn1
         unfold par
         rw [← hn2, Int.toNat_natCast, show k - 1 = ((k : Int) - 1).toNat from by omega]
         exact hn1⟩, h6⟩
        have hg2 : Hid (∀ j, j < k + 1 → goodAt l j) := fun j hj => by
         rcases Nat.lt_or_ge j k with h | h
         ·exact hg.out j h
         ·obtain rfl : j = k := by omega
          exact hgk
        clear hgk
        go_wp2
        go_roundw
        case rel => exact ⟨k + 1, by omega, by go_num, hg2, hb2⟩
        case measure => simp [intOf]; omega
       ·have hng : ¬ goodAt l k := fun hg1 => h6 hg1.2.2
        have Hng := Lib.hid hng
        clear hng
        go_wp2
        go_ret
        exact ⟨by rw [vld_not_good hlt Hng.out]; rfl, hb2⟩
      ·have hm' : decide ((bx l k).parent ∈ ni (anc l ((k : Int) - 1).toNat).reverse) = false := by simp only [hm, decide_false]
       have Hm := Lib.hid hm
       have Hdn := Lib.hid hdn
       clear hm hk0
       go_wp2
       refine wp_region_held_drew (S := fun w' => Below w.heap.size w w' ∧ wr.heap.size < w'.heap.size ∧ Cells9 w' wr.heap.size 0 (bx l k)) (by kernel_rfl) ?_ (fun hS => ?_)
       ·exact ⟨(hb.alloc (by omega) _).drew, by simp, cells9_new _ _ _⟩
       refine hTk hS 0 26 rfl (v := ?_) ?_ ?_
       rotate_left
       ·intro w9 hS9; obtain ⟨_, _, ⟨d0, d1, d2, d3, d4, d5, d6, d7, d8⟩⟩ := hS9; go_simp; first | done | with_reducible rfl
       simp only [Act.put, lsA, ls0, ls1]
       refine wpAnyH_ready (rs := [1]) (by kernel_rfl) (by simp) ?_
       refine AllReadyH.cons (o := _) rfl (fun K9 hK9 => ?_) AllReadyH.nil
       go_simp
       refine (styled_any (bx l k) _).mono ?_; rintro e w' ⟨he, hx⟩; rw [hok'] at he; subst he
       try go_wp2_with fail
       refine hK9.out _ _ ?_ (fun hS => ?_)
       ·obtain ⟨hS1, hS2, hS3⟩ := hS; exact ⟨after hS1 hx (Nat.le_refl _), Nat.lt_of_lt_of_le hS2 hx.size, hS3.below hx (by exact hS2)⟩
       clear hK9 K9
       try simp only [Act.put, lsA, ls0, ls1]
       refine hTk hS 2 28 rfl (v := ?_) ?_ ?_
       rotate_left
       ·intro w9 hS9; obtain ⟨_, _, ⟨d0, d1, d2, d3, d4, d5, d6, d7, d8⟩⟩ := hS9; go_simp; first | done | with_reducible rfl
       simp only [Act.put, lsA, ls0, ls1]
       refine hTk hS 3 29 rfl (v := ?_) ?_ ?_
       rotate_left
       ·intro w9 hS9; obtain ⟨_, _, ⟨d0, d1, d2, d3, d4, d5, d6, d7, d8⟩⟩ := hS9; go_simp; first | done | with_reducible rfl
       simp only [Act.put, lsA, ls0, ls1]
       refine hTk hS 4 30 rfl (v := ?_) ?_ ?_
       rotate_left
       ·intro w9 hS9; obtain ⟨_, _, ⟨d0, d1, d2, d3, d4, d5, d6, d7, d8⟩⟩ := hS9; go_simp; first | done | with_reducible rfl
       simp only [Act.put, lsA, ls0, ls1]
       refine hTk hS 5 31 rfl (v := ?_) ?_ ?_
       rotate_left
       ·intro w9 hS9; obtain ⟨_, _, ⟨d0, d1, d2, d3, d4, d5, d6, d7, d8⟩⟩ := hS9; go_simp; first | done | with_reducible rfl
       simp only [Act.put, lsA, ls0, ls1]
       refine hTk hS 6 32 rfl (v := ?_) ?_ ?_
       rotate_left
       ·intro w9 hS9; obtain ⟨_, _, ⟨d0, d1, d2, d3, d4, d5, d6, d7, d8⟩⟩ := hS9; go_simp; first | done | with_reducible rfl
       simp only [Act.put, lsA, ls0, ls1]
       refine hTk hS 7 33 rfl (v := ?_) ?_ ?_
       rotate_left
       ·intro w9 hS9; obtain ⟨_, _, ⟨d0, d1, d2, d3, d4, d5, d6, d7, d8⟩⟩ := hS9; go_simp; first | done | with_reducible rfl
       simp only [Act.put, lsA, ls0, ls1]
       refine hTk hS 8 34 rfl (v := ?_) ?_ ?_
       rotate_left
       ·intro w9 hS9; obtain ⟨_, _, ⟨d0, d1, d2, d3, d4, d5, d6, d7, d8⟩⟩ := hS9; go_simp; first | done | with_reducible rfl
       simp only [Act.put, lsA, ls0, ls1]
       refine hTk hS 9 35 rfl (v := ?_) ?_ ?_
       rotate_left
       ·intro w9 hS9; obtain ⟨_, _, ⟨d0, d1, d2, d3, d4, d5, d6, d7, d8⟩⟩ := hS9; go_simp; first | done | with_reducible rfl
       simp only [Act.put, lsA, ls0, ls1]
       refine hTk hS 10 36 rfl (v := ?_) ?_ ?_
       rotate_left
       ·intro w9 hS9; obtain ⟨_, _, ⟨d0, d1, d2, d3, d4, d5, d6, d7, d8⟩⟩ := hS9; go_simp; first | done | with_reducible rfl
       simp only [Act.put, lsA, ls0, ls1]
       refine wpAnyH_ready (rs := [11]) (by kernel_rfl) (by simp) ?_
       refine AllReadyH.cons (o := _) rfl (fun K9 hK9 => ?_) AllReadyH.nil
       go_simp
       refine (within_any _ _ _ _).mono ?_; rintro e w' ⟨he, rfl⟩; rw [hw'] at he; subst he
       try go_wp2_with fail
       refine hK9.out _ _ ?_ (fun hS => ?_)
       ·exact hS
       clear hK9 K9
       try simp only [Act.put, lsA, ls0, ls1]
       refine hTk hS 12 38 rfl (v := ?_) ?_ ?_
       rotate_left
       ·intro w9 hS9; obtain ⟨_, _, ⟨d0, d1, d2, d3, d4, d5, d6, d7, d8⟩⟩ := hS9; go_simp; first | done | with_reducible rfl
       simp only [Act.put, lsA, ls0, ls1]
       refine hTk hS 13 39 rfl (v := ?_) ?_ ?_
       rotate_left
       ·intro w9 hS9; obtain ⟨_, _, ⟨d0, d1, d2, d3, d4, d5, d6, d7, d8⟩⟩ := hS9; go_simp; first | done | with_reducible rfl
       simp only [Act.put, lsA, ls0, ls1]
       refine hTk hS 14 40 rfl (v := ?_) ?_ ?_
       rotate_left
       ·intro w9 hS9; obtain ⟨_, _, ⟨d0, d1, d2, d3, d4, d5, d6, d7, d8⟩⟩ := hS9; go_simp; first | done | with_reducible rfl
       simp only [Act.put, lsA, ls0, ls1]
       refine hTk hS 15 41 rfl (v := ?_) ?_ ?_
       rotate_left
       ·intro w9 hS9; obtain ⟨_, _, ⟨d0, d1, d2, d3, d4, d5, d6, d7, d8⟩⟩ := hS9; go_simp; first | done | with_reducible rfl
       simp only [Act.put, lsA, ls0, ls1]
       refine hTk hS 17 43 rfl (v := ?_) ?_ ?_
       rotate_left
       ·intro w9 hS9; obtain ⟨_, _, ⟨d0, d1, d2, d3, d4, d5, d6, d7, d8⟩⟩ := hS9; go_simp; first | done | with_reducible rfl
       simp only [Act.put, lsA, ls0, ls1]
       refine hTk hS 18 44 rfl (v := ?_) ?_ ?_
       rotate_left
       ·intro w9 hS9; obtain ⟨_, _, ⟨d0, d1, d2, d3, d4, d5, d6, d7, d8⟩⟩ := hS9; go_simp; first | done | with_reducible rfl
       simp only [Act.put, lsA, ls0, ls1]
       refine wpAnyH_ready (rs := [16]) (by kernel_rfl) (by simp) ?_
       refine AllReadyH.cons (o := _) rfl (fun K9 hK9 => ?_) AllReadyH.nil
       go_simp
       refine (path_int (l := l) _ (by omega) (by omega) (hrd.below hS.1 (Nat.le_refl _)) hdn (by omega)).mono ?_; rintro e w' ⟨vp, rfl, hop, hx⟩
       try go_wp2_with fail
       refine hK9.out _ _ ?_ (fun hS => ?_)
       ·obtain ⟨hS1, hS2, hS3⟩ := hS; exact ⟨after hS1 hx (Nat.le_refl _), Nat.lt_of_lt_of_le hS2 hx.size, hS3.below hx (by exact hS2)⟩
       clear hK9 K9
       try simp only [Act.put, lsA, ls0, ls1]
       refine wpAnyH_ready (rs := [19]) (by kernel_rfl) (by simp) ?_
       refine AllReadyH.cons (o := _) rfl (fun K9 hK9 => ?_) AllReadyH.nil
       go_simp
       refine (Contains_any _ _ hop.rd).mono ?_; rintro e w' ⟨he, rfl⟩; rw [hm'] at he; subst he
       try go_wp2_with fail
       refine hK9.out _ _ ?_ (fun hS => ?_)
       ·exact hS
       clear hK9 K9
       try simp only [Act.put, lsA, ls0, ls1]
       refine hTk hS 20 46 rfl (v := ?_) ?_ ?_
       rotate_left
       ·intro w9 hS9; obtain ⟨_, _, ⟨d0, d1, d2, d3, d4, d5, d6, d7, d8⟩⟩ := hS9; go_simp; first | done | with_reducible rfl
       simp only [Act.put, lsA, ls0, ls1]
       refine hTk hS 21 47 rfl (v := ?_) ?_ ?_
       rotate_left
       ·intro w9 hS9; obtain ⟨_, _, ⟨d0, d1, d2, d3, d4, d5, d6, d7, d8⟩⟩ := hS9; go_simp; first | done | with_reducible rfl
       simp only [Act.put, lsA, ls0, ls1]
       refine hTk hS 22 48 rfl (v := ?_) ?_ ?_
       rotate_left
       ·intro w9 hS9; obtain ⟨_, _, ⟨d0, d1, d2, d3, d4, d5, d6, d7, d8⟩⟩ := hS9; go_simp; first | done | with_reducible rfl
       simp only [Act.put, lsA, ls0, ls1]
       refine hTk hS 23 49 rfl (v := ?_) ?_ ?_
       rotate_left
       ·intro w9 hS9; obtain ⟨_, _, ⟨d0, d1, d2, d3, d4, d5, d6, d7, d8⟩⟩ := hS9; go_simp; first | done | with_reducible rfl
       simp only [Act.put, lsA, ls0, ls1]
       refine wpAnyH_done (by kernel_rfl) ?_ _
       go_wp2
       go_ret
       have hng : ¬ goodAt l k := fun hg1 => by
        have h3 := (hg1.2.1 hkp).2.2
        apply Hm.out
        rw [mem_ni]
        have h4 := (hg1.2.1 hkp).1
        unfold par at h3 h4
        refine ⟨(bx l k).parent.toNat, ?_, by omega⟩
        rw [List.mem_reverse, show ((k : Int) - 1).toNat = k - 1 from by omega]
        exact h3
       exact ⟨by rw [vld_not_good hlt hng]; rfl, hS.1⟩
     ·have hw' : inR (bx l k).parent 0 ((k : Int) - 1) = false := by simpa using hw
      clear hw hk0
      go_wp2
      refine wp_region_held_drew (S := fun w' => Below w.heap.size w w' ∧ wr.heap.size < w'.heap.size ∧ Cells9 w' wr.heap.size 0 (bx l k)) (by kernel_rfl) ?_ (fun hS => ?_)
      ·exact ⟨(hb.alloc (by omega) _).drew, by simp, cells9_new _ _ _⟩
      refine hTk hS 0 26 rfl (v := ?_) ?_ ?_
      rotate_left
      ·intro w9 hS9; obtain ⟨_, _, ⟨d0, d1, d2, d3, d4, d5, d6, d7, d8⟩⟩ := hS9; go_simp; first | done | with_reducible rfl
      simp only [Act.put, lsA, ls0, ls1]
      refine wpAnyH_ready (rs := [1]) (by kernel_rfl) (by simp) ?_
      refine AllReadyH.cons (o := _) rfl (fun K9 hK9 => ?_) AllReadyH.nil
      go_simp
      refine (styled_any (bx l k) _).mono ?_; rintro e w' ⟨he, hx⟩; rw [hok'] at he; subst he
      try go_wp2_with fail
      refine hK9.out _ _ ?_ (fun hS => ?_)
      ·obtain ⟨hS1, hS2, hS3⟩ := hS; exact ⟨after hS1 hx (Nat.le_refl _), Nat.lt_of_lt_of_le hS2 hx.size, hS3.below hx (by exact hS2)⟩
      clear hK9 K9
      try simp only [Act.put, lsA, ls0, ls1]
      refine hTk hS 2 28 rfl (v := ?_) ?_ ?_
      rotate_left
      ·intro w9 hS9; obtain ⟨_, _, ⟨d0, d1, d2, d3, d4, d5, d6, d7, d8⟩⟩ := hS9; go_simp; first | done | with_reducible rfl
      simp only [Act.put, lsA, ls0, ls1]
      refine hTk hS 3 29 rfl (v := ?_) ?_ ?_
      rotate_left
      ·intro w9 hS9; obtain ⟨_, _, ⟨d0, d1, d2, d3, d4, d5, d6, d7, d8⟩⟩ := hS9; go_simp; first | done | with_reducible rfl
      simp only [Act.put, lsA, ls0, ls1]
      refine hTk hS 4 30 rfl (v := ?_) ?_ ?_
      rotate_left
      ·intro w9 hS9; obtain ⟨_, _, ⟨d0, d1, d2, d3, d4, d5, d6, d7, d8⟩⟩ := hS9; go_simp; first | done | with_reducible rfl
      simp only [Act.put, lsA, ls0, ls1]
      refine hTk hS 5 31 rfl (v := ?_) ?_ ?_
      rotate_left
      ·intro w9 hS9; obtain ⟨_, _, ⟨d0, d1, d2, d3, d4, d5, d6, d7, d8⟩⟩ := hS9; go_simp; first | done | with_reducible rfl
      simp only [Act.put, lsA, ls0, ls1]
      refine hTk hS 6 32 rfl (v := ?_) ?_ ?_
      rotate_left
      ·intro w9 hS9; obtain ⟨_, _, ⟨d0, d1, d2, d3, d4, d5, d6, d7, d8⟩⟩ := hS9; go_simp; first | done | with_reducible rfl
      simp only [Act.put, lsA, ls0, ls1]
      refine hTk hS 7 33 rfl (v := ?_) ?_ ?_
      rotate_left
      ·intro w9 hS9; obtain ⟨_, _, ⟨d0, d1, d2, d3, d4, d5, d6, d7, d8⟩⟩ := hS9; go_simp; first | done | with_reducible rfl
      simp only [Act.put, lsA, ls0, ls1]
      refine hTk hS 8 34 rfl (v := ?_) ?_ ?_
      rotate_left
      ·intro w9 hS9; obtain ⟨_, _, ⟨d0, d1, d2, d3, d4, d5, d6, d7, d8⟩⟩ := hS9; go_simp; first | done | with_reducible rfl
      simp only [Act.put, lsA, ls0, ls1]
      refine hTk hS 9 35 rfl (v := ?_) ?_ ?_
      rotate_left
      ·intro w9 hS9; obtain ⟨_, _, ⟨d0, d1, d2, d3, d4, d5, d6, d7, d8⟩⟩ := hS9; go_simp; first | done | with_reducible rfl
      simp only [Act.put, lsA, ls0, ls1]
      refine hTk hS 10 36 rfl (v := ?_) ?_ ?_
      rotate_left
      ·intro w9 hS9; obtain ⟨_, _, ⟨d0, d1, d2, d3, d4, d5, d6, d7, d8⟩⟩ := hS9; go_simp; first | done | with_reducible rfl
      simp only [Act.put, lsA, ls0, ls1]
      refine wpAnyH_ready (rs := [11]) (by kernel_rfl) (by simp) ?_
      refine AllReadyH.cons (o := _) rfl (fun K9 hK9 => ?_) AllReadyH.nil
      go_simp
      refine (within_any _ _ _ _).mono ?_; rintro e w' ⟨he, rfl⟩; rw [hw'] at he; subst he
      try go_wp2_with fail
      refine hK9.out _ _ ?_ (fun hS => ?_)
      ·exact hS
      clear hK9 K9
      try simp only [Act.put, lsA, ls0, ls1]
      refine hTk hS 12 38 rfl (v := ?_) ?_ ?_
      rotate_left
      ·intro w9 hS9; obtain ⟨_, _, ⟨d0, d1, d2, d3, d4, d5, d6, d7, d8⟩⟩ := hS9; go_simp; first | done | with_reducible rfl
      simp only [Act.put, lsA, ls0, ls1]
      refine hSkips (by kernel_rfl) (fun d _ _ _ _ h => by cases d <;> exact h) hS [13, 14, 15, 16, 17, 18, 19] [some 39, some 40, some 41, some 42, some 43, some 44, some 45] (by kernel_rfl) ?_
      simp only [putUndef, listAll, List.foldl_cons, List.foldl_nil, Act.put, List.setIfInBounds_toArray, List.set_cons_zero, List.set_cons_succ]
      refine hTk hS 20 46 rfl (v := ?_) ?_ ?_
      rotate_left
      ·intro w9 hS9; obtain ⟨_, _, ⟨d0, d1, d2, d3, d4, d5, d6, d7, d8⟩⟩ := hS9; go_simp; first | done | with_reducible rfl
      simp only [Act.put, lsA, ls0, ls1]
      refine hTk hS 21 47 rfl (v := ?_) ?_ ?_
      rotate_left
      ·intro w9 hS9; obtain ⟨_, _, ⟨d0, d1, d2, d3, d4, d5, d6, d7, d8⟩⟩ := hS9; go_simp; first | done | with_reducible rfl
      simp only [Act.put, lsA, ls0, ls1]
      refine hTk hS 22 48 rfl (v := ?_) ?_ ?_
      rotate_left
      ·intro w9 hS9; obtain ⟨_, _, ⟨d0, d1, d2, d3, d4, d5, d6, d7, d8⟩⟩ := hS9; go_simp; first | done | with_reducible rfl
      simp only [Act.put, lsA, ls0, ls1]
      refine hTk hS 23 49 rfl (v := ?_) ?_ ?_
      rotate_left
      ·intro w9 hS9; obtain ⟨_, _, ⟨d0, d1, d2, d3, d4, d5, d6, d7, d8⟩⟩ := hS9; go_simp; first | done | with_reducible rfl
      simp only [Act.put, lsA, ls0, ls1]
      refine wpAnyH_done (by kernel_rfl) ?_ _
      go_wp2
      go_ret
      have hng : ¬ goodAt l k := fun hg1 => by
       have := hg1.2.1 hkp
       unfold par at this
       rw [inR_no] at hw'
       exact hw' (by omega)
      exact ⟨by rw [vld_not_good hlt hng]; rfl, hS.1⟩
   ·have hok' : okB (bx l k) = false := by simpa using hok
    clear hok
    go_wp2
    refine wp_region_held_drew (S := fun w' => Below w.heap.size w w' ∧ wr.heap.size < w'.heap.size ∧ Cells9 w' wr.heap.size 0 (bx l k)) (by kernel_rfl) ?_ (fun hS => ?_)
    ·exact ⟨(hb.alloc (by omega) _).drew, by simp, cells9_new _ _ _⟩
    refine hTk hS 0 26 rfl (v := ?_) ?_ ?_
    rotate_left
    ·intro w9 hS9; obtain ⟨_, _, ⟨d0, d1, d2, d3, d4, d5, d6, d7, d8⟩⟩ := hS9; go_simp; first | done | with_reducible rfl
    simp only [Act.put, lsA, ls0, ls1]
    refine wpAnyH_ready (rs := [1]) (by kernel_rfl) (by simp) ?_
    refine AllReadyH.cons (o := _) rfl (fun K9 hK9 => ?_) AllReadyH.nil
    go_simp
    refine (styled_any (bx l k) _).mono ?_; rintro e w' ⟨he, hx⟩; rw [hok'] at he; subst he
    try go_wp2_with fail
    refine hK9.out _ _ ?_ (fun hS => ?_)
    ·obtain ⟨hS1, hS2, hS3⟩ := hS; exact ⟨after hS1 hx (Nat.le_refl _), Nat.lt_of_lt_of_le hS2 hx.size, hS3.below hx (by exact hS2)⟩
    clear hK9 K9
    try simp only [Act.put, lsA, ls0, ls1]
    refine hTk hS 2 28 rfl (v := ?_) ?_ ?_
    rotate_left
    ·intro w9 hS9; obtain ⟨_, _, ⟨d0, d1, d2, d3, d4, d5, d6, d7, d8⟩⟩ := hS9; go_simp; first | done | with_reducible rfl
    simp only [Act.put, lsA, ls0, ls1]
    refine hTk hS 3 29 rfl (v := ?_) ?_ ?_
    rotate_left
    ·intro w9 hS9; obtain ⟨_, _, ⟨d0, d1, d2, d3, d4, d5, d6, d7, d8⟩⟩ := hS9; go_simp; first | done | with_reducible rfl
    simp only [Act.put, lsA, ls0, ls1]
    refine hSkips (by kernel_rfl) (fun d _ _ _ _ h => by cases d <;> exact h) hS [4, 5, 6, 7, 8, 9, 10, 11, 12, 13, 14, 15, 16, 17, 18, 19, 20, 21, 22] [some 30, some 31, some 32, some 33, some 34, some 35, some 36, some 37, some 38, some 39, some 40, some 41, some 42, some 43, some 44, some 45, some 46, some 47, some 48] (by kernel_rfl) ?_
    simp only [putUndef, listAll, List.foldl_cons, List.foldl_nil, Act.put, List.setIfInBounds_toArray, List.set_cons_zero, List.set_cons_succ]
    refine hTk hS 23 49 rfl (v := ?_) ?_ ?_
    rotate_left
    ·intro w9 hS9; obtain ⟨_, _, ⟨d0, d1, d2, d3, d4, d5, d6, d7, d8⟩⟩ := hS9; go_simp; first | done | with_reducible rfl
    simp only [Act.put, lsA, ls0, ls1]
    refine wpAnyH_done (by kernel_rfl) ?_ _
    go_wp2
    go_ret
    have hng : ¬ goodAt l k := fun hg1 => by
     rw [hg1.1] at hok'
     cases hok'
    exact ⟨by rw [vld_not_good hlt hng]; rfl, hS.1⟩
  ·obtain rfl : k = l.length := by omega
   go_wp2
   clear hlt
   go_loopw [58] (fun i' wr => ∃ k : Nat, k ≤ l.length ∧ i' = .int .i64 k ∧ Hid (∀ j, j < k → kidAt l j) ∧ Below w.heap.size w wr) (fun i' _ => l.length - (intOf i').toNat)
   case atStart => exact ⟨0, by omega, rfl, fun j hj => by omega, hb⟩
   case round =>
    clear hb hsz
    obtain ⟨k, hk, rfl, hq, hb⟩ := hrel
    have hsz := hb.size
    by_cases hlt : k < l.length
    ·obtain ⟨c0, c1, c2, c3, c4, c5, c6, c7, c8⟩ := (HC.out k _ (bx_get hlt)).below hb hbl
     go_wp2_with (fail)
     refine (kids_any (l := l) (k : Int) _ (hrd.below (hb.alloc (by omega) _) (Nat.le_refl _)) (by omega)).mono ?_
     rintro e w2 ⟨vq, rfl, hoq, hx2⟩
     obtain ⟨aq, cq, rfl, hnq, hcq, _⟩ := hoq.rd.ints
     unfold maxLen at hcq
     simp only [ni_length] at *
     have hb2 := after (hb.alloc (by omega) _) hx2 (Nat.le_refl _)
     have hck : w2.cell? ⟨_, 1, none⟩ = some (.int .i64 (bx l k).kind) := cellOn hx2 (by simp) ((cells9_new _ _ _).c1 : World.cell? (World.drew _) _ = _)
     clear hoq hx2 c0 c1 c2 c3 c4 c5 c6 c7 c8
     by_cases h8 : (kid l (k : Int)).length ≤ 8
     ·by_cases hkd : (bx l k).kind = 0
      ·have hkd' : ((bx l k).kind == 0) = true := by simp [hkd]
       by_cases hm0 : 0 < (kid l (k : Int)).length
       ·have hng : ¬ kidAt l k := fun h => by rw [h.2 hkd] at hm0; simp at hm0
        have Hng := Lib.hid hng
        clear hng hkd
        go_wp2
        go_ret
        exact ⟨by rw [vld_not_kid hlt Hng.out]; rfl, hb2⟩
       ·have hgk : kidAt l k := ⟨h8, fun _ => List.eq_nil_of_length_eq_zero (by omega)⟩
        have hq2 : Hid (∀ j, j < k + 1 → kidAt l j) := fun j hj => by
         rcases Nat.lt_or_ge j k with h | h
         ·exact hq.out j h
         ·obtain rfl : j = k := by omega
          exact hgk
        clear hgk hkd
        go_wp2
        go_roundw
        case rel => exact ⟨k + 1, by omega, by go_num, hq2, hb2⟩
        case measure => simp [intOf]; omega
      ·have hkd' : ((bx l k).kind == 0) = false := by simp [hkd]
       have hgk : kidAt l k := ⟨h8, fun h => absurd h hkd⟩
       have hq2 : Hid (∀ j, j < k + 1 → kidAt l j) := fun j hj => by
        rcases Nat.lt_or_ge j k with h | h
        ·exact hq.out j h
        ·obtain rfl : j = k := by omega
         exact hgk
       clear hgk hkd
       go_wp2
       go_roundw
       case rel => exact ⟨k + 1, by omega, by go_num, hq2, hb2⟩
       case measure => simp [intOf]; omega
     ·have hng : ¬ kidAt l k := fun h => h8 h.1
      have Hng := Lib.hid hng
      clear hng
      go_wp2
      go_ret
      exact ⟨by rw [vld_not_kid hlt Hng.out]; rfl, hb2⟩
    ·obtain rfl : k = l.length := by omega
     go_wp2
     go_ret
     exact ⟨by rw [vld_of hpos hl H0.out hg.out hq.out]; rfl, hb⟩
/-- a text as a value -/
def sv (s : List UInt8) : Value := .string ⟨s.toArray⟩
def Ss (l : List (List UInt8)) : List Value := l.map sv
theorem Ss_length (l : List (List UInt8)) : (Ss l).length = l.length := by simp [Ss]
theorem Ss_append (l m : List (List UInt8)) : Ss (l ++ m) = Ss l ++ Ss m := by simp [Ss]
theorem Ss_get {l : List (List UInt8)} {j : Nat} {x : List UInt8} (h : l[j]? = some x) : (Ss l)[j]? = some (sv x) := by simp [Ss, h]
theorem Ss_one (l : List (List UInt8)) : ∀ y ∈ Ss l, y.oneCell' = true := by
 intro y hy
 simp only [Ss, List.mem_map] at hy
 obtain ⟨x, _, rfl⟩ := hy
 rfl
theorem Rd.strs {w : World} {v : Value} {l : List (List UInt8)} (h : Rd w 1 v (Ss l)) :
 ∃ a c, v = .slice a l.length c ∧ l.length ≤ c ∧ c ≤ maxLen ∧ ∀ (k : Nat) (x : List UInt8), l[k]? = some x → ∃ b off, a = some ⟨b, off, none⟩ ∧ ∀ (j : Nat) (y : List UInt8), l[j]? = some y → w.cell? ⟨b, off + j, none⟩ = some (sv y) := by
 obtain ⟨a, n, c, rfl, hl, hn, hc, hx⟩ := h
 rw [Ss_length] at hl
 obtain rfl : n = l.length := by omega
 refine ⟨a, c, rfl, hn, hc, fun k x hk => ?_⟩
 rcases hx with hx | ⟨b, off, rfl, hx⟩
 ·have := congrArg List.length hx
  rw [Ss_length] at this
  have : l = [] := List.eq_nil_of_length_eq_zero this
  subst this
  simp at hk
 ·exact ⟨b, off, rfl, fun j y hy => hx j _ (Ss_get hy)⟩
theorem el_str : EL Tryz.prog 23 9 (.string ⟨#[]⟩) 1 16 :=
 ⟨by kernel_rfl, info_parts (by kernel_rfl), rfl, by decide, by decide⟩
theorem ba_append (s t : List UInt8) : (⟨s.toArray⟩ : ByteArray) ++ (⟨t.toArray⟩ : ByteArray) = ⟨(s ++ t).toArray⟩ := by
 apply ByteArray.ext
 simp
theorem cellB {w w' : World} {p : Addr} {x : Value} (hb : Below w.heap.size w w') (h : w.cell? p = some x) : w'.cell? p = some x := by
 rw [hb.cell (World.block_lt_of_cell? _ _ h)]
 exact h
theorem byte_at {S : List UInt8} {k : Nat} {c : UInt8} (h : S[k]? = some c) (hk : k < (⟨S.toArray⟩ : ByteArray).size) : (⟨S.toArray⟩ : ByteArray)[k]'hk = c := by
 obtain ⟨h1, h2⟩ := List.getElem?_eq_some_iff.1 h
 subst h2
 rfl
theorem byte_ne {c d : UInt8} (h : c ≠ d) : ((c.toNat : Int) == (d.toNat : Int)) = false := by
 rw [beq_eq_false_iff_ne]
 intro e
 exact h (UInt8.toNat_inj.1 (by omega))
theorem vld_len {l : List Bx} (h : ¬ (1 ≤ l.length ∧ l.length ≤ 16)) : vldB l = false := by
 rw [Bool.eq_false_iff]
 intro hv
 have hv := vldB_iff.1 hv
 exact h ⟨hv.lo, hv.hi⟩
theorem vld_root {l : List Bx} (h : ¬ par l 0 = -1) : vldB l = false := by
 rw [Bool.eq_false_iff]
 intro hv
 exact h (vldB_iff.1 hv).root
set_option maxHeartbeats 1000000 in
theorem ValidTree_any {v : Value} {l : List Bx} (w : World) (hv : Rd w 9 v (Bs l)) :
 Calls Tryz.prog 74 #[v] w fun e w' => e = .returned (.bool (vldB l)) ∧ Ext w w' := by
 by_cases h : 1 ≤ l.length ∧ l.length ≤ 16
 ·by_cases h0 : par l 0 = -1
  ·exact vt_long w hv h.2 h.1 h0
  ·obtain ⟨a, c, rfl, hn, hc, hcell⟩ := hv.boxes
   unfold maxLen at hc
   obtain ⟨b, off, rfl, hbl, hC⟩ := hcell 0 _ (bx_get (by omega))
   have hp0 : ((bx l 0).parent != -1) = true := by simpa [par] using h0
   have hin : inR (l.length : Int) 1 16 = true := by rw [inR_iff]; omega
   obtain ⟨c00, _⟩ := hC 0 _ (bx_get (by omega))
   have H0 := Lib.hid h0
   have hl0 : 0 < l.length := by omega
   simp only [Nat.zero_mul, Nat.add_zero] at c00
   clear hcell hC h0 h hv
   go_enter Tryz.func74, Tryz.ntmps74
   go_wp2_with (go_at_call 65; refine (within_any _ _ _ _).mono ?_; rintro e w' ⟨rfl, rfl⟩)
   go_ret
   exact ⟨by rw [vld_root H0.out]; rfl, Below.refl _ _⟩
 ·obtain ⟨a, c, rfl, hn, hc, hcell⟩ := hv.boxes
  unfold maxLen at hc
  have hin : inR (l.length : Int) 1 16 = false := by rw [inR_no]; omega
  have H := Lib.hid h
  clear hcell h hv
  go_enter Tryz.func74, Tryz.ntmps74
  go_wp2_with (go_at_call 65; refine (within_any _ _ _ _).mono ?_; rintro e w' ⟨rfl, rfl⟩)
  go_ret
  exact ⟨by rw [vld_len H.out]; rfl, Below.refl _ _⟩
theorem el_box : EL Tryz.prog 43 39 (.agg #[.int .i64 0, .int .i64 0, .int .i64 0, .int .i64 0, .int .i64 0, .int .i64 0, .int .i64 0, .int .i64 0, .int .i64 0]) 9 72 :=
 ⟨by kernel_rfl, info_parts (by kernel_rfl), rfl, by decide, by decide⟩
/-- a valid tree and a number of one of its boxes -/
def inB (l : List Bx) (i : Int) : Bool := vldB l && inR i 0 ((l.length : Int) - 1)
theorem inB_iff {l : List Bx} {i : Int} : inB l i = true ↔ Valid l ∧ 0 ≤ i ∧ i < l.length := by
 unfold inB
 rw [Bool.and_eq_true, vldB_iff, inR_iff]
 constructor
 ·rintro ⟨h, h1, h2⟩; exact ⟨h, h1, by omega⟩
 ·rintro ⟨h, h1, h2⟩; exact ⟨h, h1, by omega⟩
set_option maxHeartbeats 1000000 in
theorem boxIn_any {v : Value} {l : List Bx} (i : Int) (w : World) (hv : Rd w 9 v (Bs l)) :
 Calls Tryz.prog 50 #[v, .int .i64 i] w fun e w' => e = .returned (.bool (inB l i)) ∧ Ext w w' := by
 have hrd := hv
 obtain ⟨a, c, rfl, hn, hc, _⟩ := hv.boxes
 unfold maxLen at hc
 go_enter Tryz.func50, Tryz.ntmps50
 by_cases h : vldB l = true
 ·go_wp2_with (fail)
  refine (ValidTree_any (l := l) _ hrd).mono ?_
  rintro e w1 ⟨he, hx⟩
  rw [h] at he
  subst he
  go_wp2_with (fail)
  refine (within_any _ _ _ _).mono ?_
  rintro e w2 ⟨rfl, rfl⟩
  go_wp2
  go_ret
  exact ⟨by unfold inB; rw [h]; rfl, hx⟩
 ·have h' : vldB l = false := by simpa using h
  go_wp2_with (fail)
  refine (ValidTree_any (l := l) _ hrd).mono ?_
  rintro e w1 ⟨he, hx⟩
  rw [h'] at he
  subst he
  go_wp2
  go_ret
  exact ⟨by unfold inB; rw [h']; rfl, hx⟩
/-- what 'made' hands back: the tree, or nothing -/
def orNo (ok : Bool) (l : List Bx) : List Bx := if ok then l else []
set_option maxHeartbeats 1000000 in
theorem made_any {base : Nat} {v : Value} {l : List Bx} (w : World) (hv : Own w base 9 v (Bs l)) (_hb : base ≤ w.heap.size) :
 Calls Tryz.prog 52 #[v] w fun e w' => ∃ v', e = .returned (.tuple #[v', .bool (vldB l)]) ∧ Own w' base 9 v' (Bs (orNo (vldB l) l)) ∧ Ext w w' := by
 have ho := hv
 obtain ⟨a, c, rfl, hn, hc, _⟩ := hv.rd.boxes
 unfold maxLen at hc
 go_enter Tryz.func52, Tryz.ntmps52
 by_cases h : vldB l = true
 ·have H := Lib.hid h
  go_wp2_with (fail)
  refine (ValidTree_any (l := l) _ ho.rd).mono ?_
  rintro e w1 ⟨he, hx⟩
  rw [h] at he
  subst he
  clear h
  go_wp2_with (fail)
  refine (ClipB_any _ (ho.below hx (Nat.le_refl _))).mono ?_
  rintro e w2 ⟨v', rfl, ho2, rfl⟩
  go_wp2
  go_ret2
  refine ⟨_, by rw [H.out]; rfl, ?_, hx⟩
  rw [H.out]
  exact ho2
 ·have h' : vldB l = false := by simpa using h
  have H := Lib.hid h'
  go_wp2_with (fail)
  refine (ValidTree_any (l := l) _ ho.rd).mono ?_
  rintro e w1 ⟨he, hx⟩
  rw [h'] at he
  subst he
  clear h h'
  go_wp2
  go_ret2
  refine ⟨_, by rw [H.out]; rfl, ?_, hx⟩
  rw [H.out]
  exact Own.nil _ _ _
set_option maxHeartbeats 1000000 in
theorem CloneB_any {v : Value} {l : List Bx} (w : World) (hv : Rd w 9 v (Bs l)) (hl : l.length ≤ 1048577) :
 Calls Tryz.prog 55 #[v] w fun e w' => ∃ v', e = .returned v' ∧ Own w' w.heap.size 9 v' (Bs l) ∧ Ext w w' := by
 have hrd := hv
 obtain ⟨a, c, rfl, hn, hc, hcell⟩ := hv.boxes
 unfold maxLen at hc
 have e1 := Lib.run_eql_slice_nil (P := Tryz.prog)
 have hbl := Bs_length l
 have Hl := Lib.hid hl
 cases a with
 | none =>
  obtain rfl : l = [] := by
   cases l with
   | nil => rfl
   | cons x r =>
    obtain ⟨b, off, h, _⟩ := hcell 0 x rfl
    cases h
  clear hcell
  go_enter Tryz.func55, Tryz.ntmps55
  go_wp2
  go_ret
  exact ⟨_, rfl, Own.nil _ _ _, Below.refl _ _⟩
 | some a =>
  clear hcell
  go_enter Tryz.func55, Tryz.ntmps55
  go_wp2_with (at_builtin; refine wpList_app rfl _ _ _ rfl el_box rfl (Own.empty _ w.heap.size _ _) rfl (hrd.alloc _) (Bs_one l) ?hl ?hb ?hK)
  case hl => rw [hbl]; have := Hl.out; simp; omega
  case hb => simp
  intro v' w1 ho1 hg1 hf1
  have hb1 := below_app (Below.of_alloc w _) (Own.empty _ w.heap.size 9 _) hg1 (by simp) (Nat.le_refl _)
  go_wp2
  go_ret
  exact ⟨_, rfl, ho1, hb1⟩
def styleL (l : List Bx) (i : Int) (b : Bx) : List Bx := l.set i.toNat (b.at (par l i.toNat))
def styleOk (l : List Bx) (i : Int) (b : Bx) : Bool := inB l i && vldB (styleL l i b)
set_option maxHeartbeats 2000000 in
set_option maxRecDepth 100000 in
theorem StyleBox_any {v : Value} {l : List Bx} (i : Int) (x : Bx) (w : World) (hv : Rd w 9 v (Bs l)) :
 Calls Tryz.prog 30 #[v, .int .i64 i, x.agg] w fun e w' => ∃ v', e = .returned (.tuple #[v', .bool (styleOk l i x)]) ∧ Own w' w.heap.size 9 v' (Bs (orNo (styleOk l i x) (styleL l i x))) ∧ Ext w w' := by
 have hrd := hv
 obtain ⟨a, c, rfl, hn, hc, hcell⟩ := hv.boxes
 unfold maxLen at hc
 unfold Bx.agg
 go_enter Tryz.func30, Tryz.ntmps30
 by_cases h : inB l i = true
 ·have hh := inB_iff.1 h
  obtain ⟨hval, h0, hi⟩ := hh
  obtain ⟨i, rfl⟩ := Int.eq_ofNat_of_zero_le h0
  have hi' : i < l.length := by omega
  obtain ⟨b, off, rfl, hbl, hC⟩ := hcell i _ (bx_get hi')
  have HC := Lib.hid hC
  have H := Lib.hid h
  have Hl := Lib.hid hval.hi
  clear hC hcell hval hv
  go_wp2_with (fail)
  refine (boxIn_any (l := l) (i : Int) _ (hrd.alloc _)).mono ?_
  rintro e w1 ⟨he, hx⟩
  rw [h] at he
  subst he
  have hb1 := after (Below.of_alloc w _) hx (Nat.le_refl _)
  obtain ⟨c0, _⟩ := (HC.out i _ (bx_get hi')).below hb1 hbl
  have hB : w1.heap[w.heap.size]? = some (.cells x.arr 39) := by
   rw [hx.block _ (by simp)]
   exact heap_alloc_new w _
  have hB2 := setCell_heap hB 0 (.int .i64 (par l i))
  have hb2 := hb1.setCell (p := ⟨w.heap.size, 0, none⟩) (Nat.le_refl _) (.int .i64 (par l i))
  have p0 : w1.cell? ⟨w.heap.size, 0, none⟩ = some (.int .i64 x.parent) := by rw [cell_of_heap hB]; rfl
  have f0 : w1.frozen? ⟨w.heap.size, 0, none⟩ = false := frozen_of_heap hB
  have hsz := hb1.size
  have HB := Lib.hid hB2
  clear h hx hB hB2
  go_wp2_with (fail)
  refine (CloneB_any (l := l) _ (hrd.below hb2 (Nat.le_refl _)) (by have := Hl.out; omega)).mono ?_
  rintro e w2 ⟨v2, rfl, ho2, hx2⟩
  have hb3 := after hb2 hx2 (Nat.le_refl _)
  have hB3 : w2.heap[w.heap.size]? = some (.cells (x.at (par l i)).arr 39) := by
   have h := hx2.block w.heap.size (by have := (Array.getElem?_eq_some_iff.1 HB.out).1; exact this)
   rw [h]
   exact HB.out
  obtain ⟨d0, d1, d2, d3, d4, d5, d6, d7, d8⟩ := cells9_of hB3
  obtain ⟨b2, off2, n2, c2, rfl, hn2, _, hbb2, hbs2, hcell2, hfz, _⟩ := ho2.cells (by
   intro e
   have := congrArg List.length e
   rw [Bs_length, List.length_nil] at this
   omega)
  rw [Bs_length] at hn2
  obtain rfl : n2 = l.length := by omega
  obtain ⟨a', c', e', _, _, hC2⟩ := ho2.rd.boxes
  simp only [Value.slice.injEq] at e'
  obtain ⟨rfl, _, rfl⟩ := e'
  obtain ⟨b', off', e', _, hC3⟩ := hC2 i _ (bx_get hi')
  cases e'
  obtain ⟨g0, g1, g2, g3, g4, g5, g6, g7, g8⟩ := hC3 i _ (bx_get hi')
  have q0 := hfz (i * 9)
  have q1 := hfz (i * 9 + 1)
  have q2 := hfz (i * 9 + 2)
  have q3 := hfz (i * 9 + 3)
  have q4 := hfz (i * 9 + 4)
  have q5 := hfz (i * 9 + 5)
  have q6 := hfz (i * 9 + 6)
  have q7 := hfz (i * 9 + 7)
  have q8 := hfz (i * 9 + 8)
  simp only [← Nat.add_assoc] at q1 q2 q3 q4 q5 q6 q7 q8
  have hset := setBx_own ho2 rfl hi' (x.at (par l i))
  clear hcell2 hfz hC2 hC3 hB3 c0 p0 f0 hx2
  have hwb : w.heap.size ≤ b2 := by
   have h2 : w.heap.size ≤ (w1.setCell ⟨w.heap.size, 0, none⟩ (.int .i64 (par l i))).heap.size := by simp [World.setCell]; exact hsz
   omega
  have hsb := setBx_below (o := off2 + i * 9) w2 (x.at (par l i)) hwb
  have hst : Hid (styleOk l (i : Int) x = vldB (l.set i (x.at (par l i)))) := by
   show _ = _
   unfold styleOk styleL
   rw [H.out]
   simp
  have hsl : Hid (styleL l (i : Int) x = l.set i (x.at (par l i))) := by
   show _ = _
   unfold styleL
   simp
  have hbs : w.heap.size ≤ (w1.setCell ⟨w.heap.size, 0, none⟩ (.int .i64 (par l i))).heap.size := by simp [World.setCell]; exact hsz
  have hset := hset.weak hbs
  have hb4 := hb3.trans hsb
  have hmd := Lib.hid (made_any (l := l.set i (x.at (par l i))) _ hset (by have := hb4.size; exact this))
  clear hset hsb
  go_wp2_with (fail)
  refine hmd.out.mono ?_
  rintro e w3 ⟨v3, rfl, ho3, hx3⟩
  go_wp2
  go_ret2
  exact ⟨_, by rw [hst.out]; rfl, by rw [hst.out, hsl.out]; exact ho3, after hb4 hx3 (Nat.le_refl _)⟩
 ·have h' : inB l i = false := by simpa using h
  have hst : Hid (styleOk l i x = false) := by
   show _ = _
   unfold styleOk
   rw [h']
   rfl
  clear h hcell
  go_wp2_with (fail)
  refine (boxIn_any (l := l) i _ (hrd.alloc _)).mono ?_
  rintro e w1 ⟨he, hx⟩
  rw [h'] at he
  subst he
  go_wp2
  go_ret2
  refine ⟨_, by rw [hst.out]; rfl, ?_, after (Below.of_alloc w _) hx (Nat.le_refl _)⟩
  rw [hst.out]
  exact Own.nil _ _ _
end Go.Proofs.YthkkgleoikpfgaaGreatDoor
