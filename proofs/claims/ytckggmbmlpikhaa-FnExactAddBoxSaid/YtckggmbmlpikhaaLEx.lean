/-
  The laws FnExactPartOf, FnExactRemoveBox and FnExactAddBox: the walks.
-/
import Derived.Test.YtckggmbmlpikhaaEx
import Derived.Test.YtckggmbmlpikhaaRem
namespace Go.Proofs.Ytckggmbmlpikhaa
open Go Go.RowKit

theorem Own.frame {w w' : World} {base size : Nat} {v u : Value} {xs : List Value} (h : Own w base size v xs) (hf : ∀ q, blk u ≠ some q → w'.heap[q]? = w.heap[q]?) (hne : ∀ q, blk v = some q → blk u ≠ some q) : Own w' base size v xs := by
  obtain ⟨a, n, c, rfl, hl, hn, hc, h⟩ := h
  refine ⟨a, n, c, rfl, hl, hn, hc, ?_⟩
  rcases h with rfl | ⟨g, off, cur, e, rfl, hg, hh, hs, ht⟩
  · exact .inl rfl
  · by_cases hc0 : c = 0
    · exact .inl hc0
    · refine .inr ⟨g, off, cur, e, rfl, hg, ?_, hs, ht⟩
      rw [hf g (hne g (by simp [blk, hc0]))]
      exact hh
def pB (l : List Bx) (i : Int) : Bool := inB l i
def pP (l : List Bx) (i : Int) : List Bx := orNo (inB l i) (partL l i.toNat)
def rB (l : List Bx) (i : Int) : Bool := remB l i
def rP (l : List Bx) (i : Int) : List Bx := orNo (remB l i) (remL l i.toNat)
theorem orNo_le {b : Bool} {l : List Bx} {n : Nat} (h : l.length ≤ n) : (orNo b l).length ≤ n := by
  cases b
  · exact Nat.zero_le _
  · exact h
theorem pP_le (l : List Bx) (i : Int) : (pP l i).length ≤ l.length := orNo_le (by rw [partL_length]; have := cntS_le l i.toNat; omega)
theorem rP_le (l : List Bx) (i : Int) : (rP l i).length ≤ l.length := by
  unfold rP
  by_cases h : remB l i = true
  · rw [h, orNo_t]
    obtain ⟨_, h0, hi⟩ := remB_iff.1 h
    have := remL_length (l := l) (a := i.toNat) (by omega)
    omega
  · have h' : remB l i = false := by simpa using h
    rw [h', orNo_f]
    exact Nat.zero_le _

theorem partE {v : Value} {l : List Bx} (i : Int) (w : World) (hv : Rd w 9 v (Bs l)) :
    Calls Try.prog 16 #[v, .int .i64 i] w fun e w' => ∃ v', e = .returned (.tuple #[v', .bool (pB l i)]) ∧ Own w' w.heap.size 9 v' (Bs (pP l i)) ∧ Ext w w' := PartOf_any i w hv
theorem spartE {v : Value} {l : List Bx} (i : Int) (w : World) (hv : Rd w 9 v (Bs l)) (hl : l.length ≤ 1048576) :
    Calls Try.prog 14 #[v, .int .i64 i] w fun e w' => ∃ v', e = .returned (.tuple #[v', .bool (pB l i)]) ∧ Own w' w.heap.size 9 v' (Bs (pP l i)) ∧ Ext w w' := sPartOf_any i w hv hl
theorem remE {v : Value} {l : List Bx} (i : Int) (w : World) (hv : Rd w 9 v (Bs l)) :
    Calls Try.prog 26 #[v, .int .i64 i] w fun e w' => ∃ v', e = .returned (.tuple #[v', .bool (rB l i)]) ∧ Own w' w.heap.size 9 v' (Bs (rP l i)) ∧ Ext w w' := RemoveBox_any i w hv
theorem sremE {v : Value} {l : List Bx} (i : Int) (w : World) (hv : Rd w 9 v (Bs l)) (hl : l.length ≤ 1048576) :
    Calls Try.prog 27 #[v, .int .i64 i] w fun e w' => ∃ v', e = .returned (.tuple #[v', .bool (rB l i)]) ∧ Own w' w.heap.size 9 v' (Bs (rP l i)) ∧ Ext w w' := sRemoveBox_any i w hv hl
set_option maxRecDepth 100000 in
set_option maxHeartbeats 2000000 in
theorem FnExactPartOf_any {v : Value} {l : List Bx} (i : Int) (w : World) (hv : Rd w 9 v (Bs l)) :
    Calls Try.prog 3 #[v, .int .i64 i] w fun e w' => e = .returned (.bool true) ∧ Ext w w' := by
  have hPl := pP_le l i
  have hv0 := hv
  obtain ⟨ad, c, rfl, hn, hc, _⟩ := hv.boxes
  unfold maxLen at hc
  by_cases hlen : l.length ≤ 1048576
  · have hv0b : Hid (∀ w', Below w.heap.size w w' → Rd w' 9 (.slice ad l.length c) (Bs l)) := fun w' hw' => hv0.below hw' (Nat.le_refl _)
    have hPL : (pP l i).length ≤ 1048577 := by omega
    have hL7 : l.length ≤ 1048577 := by omega
    go_enter Try.func3, Try.ntmps3
    go_wp2_with (fail)
    refine (szBoxS_any (l := l) _ hv0).mono ?_
    rintro e w0 ⟨r, rfl, hr, rfl⟩
    have hr0 : 0 ≤ r := by omega
    clear hr
    go_wp2_with (fail)
    refine (toBoxS_any (l := l) _ hv0 hL7).mono ?_
    rintro e w1 ⟨v1, rfl, ho1, hb⟩
    replace hv0 := hv0.below hb (Nat.le_refl _)
    have hr1 := ho1.rd
    clear ho1
    go_wp2_with (fail)
    refine (spartE (l := l) i _ hr1 hlen).mono ?_
    -- spec's result
    rintro e w2 ⟨vW, rfl, hoW, hx⟩
    replace hb := after hb hx (Nat.le_refl _)
    replace hv0 := hv0.below hx (Nat.le_refl _)
    have hrW := hoW.rd
    clear hoW hx hr1
    have hs2 := hb.size
    go_wp2_with (fail)
    refine (toBoxS_any (l := l) _ hv0 hL7).mono ?_
    rintro e w3 ⟨v3, rfl, hoX, hb3⟩
    have hs3 := hb3.size
    have hXlt := hoX.lt
    replace hv0 := hv0.below hb3 (Nat.le_refl _)
    go_wp2_with (fail)
    refine (partE (l := l) i _ hoX.rd).mono ?_
    rintro e w4 ⟨v4, rfl, hoG, hx⟩
    have hGlt := hoG.lt
    replace hb3 := after hb3 hx (Nat.le_refl _)
    replace hv0 := hv0.below hx (Nat.le_refl _)
    replace hoX := hoX.below hx (Nat.le_refl _)
    clear hx
    go_wp2_with (fail)
    refine (eqBoxS_any (l := pP l i) _ hoG.rd (hrW.below hb3 (Nat.le_refl _)) hPL).mono ?_
    rintro e w5 ⟨rfl, hx⟩
    replace hb3 := after hb3 hx (Nat.le_refl _)
    replace hv0 := hv0.below hx (Nat.le_refl _)
    replace hoX := hoX.below hx (Nat.le_refl _)
    replace hoG := hoG.below hx (Nat.le_refl _)
    clear hx
    go_wp2_with (fail)
    refine (toBoxS_any (l := l) _ hv0 hL7).mono ?_
    rintro e w6 ⟨v6, rfl, ho6, hx⟩
    replace hb3 := after hb3 hx (Nat.le_refl _)
    replace hv0 := hv0.below hx (Nat.le_refl _)
    replace hoX := hoX.below hx (Nat.le_refl _)
    replace hoG := hoG.below hx (Nat.le_refl _)
    have hr6 := ho6.rd
    clear hx ho6
    go_wp2_with (fail)
    refine (eqBoxS_any (l := l) _ hoX.rd hr6 hL7).mono ?_
    rintro e w7 ⟨rfl, hx⟩
    replace hb3 := after hb3 hx (Nat.le_refl _)
    replace hv0 := hv0.below hx (Nat.le_refl _)
    replace hoX := hoX.below hx (Nat.le_refl _)
    replace hoG := hoG.below hx (Nat.le_refl _)
    clear hx hr6
    -- x0 marked
    go_wp2_with (fail)
    refine (markBoxS_any (l := l) 1 _ hoX hL7 (Nat.le_refl _)).mono ?_
    rintro e w8 ⟨rfl, hoX2, hb8, hfr⟩
    replace hoG := hoG.frame hfr (fun q hq hq2 => by
      have h1 := (hXlt q hq2).2
      have h2 := (hGlt q hq).1
      omega)
    have HXB : Hid (Below w.heap.size w7 w8) := hb8.mono hs2
    replace hb3 := hb3.trans hb8
    replace hv0 := hv0b.out _ (hb.trans (hb3.mono hs2))
    clear hb8 hfr hoX hoX2 HXB
    have hkm : ((1 + 9 * l.length : Nat) : Int) ≥ 0 := by omega
    go_wp2_with (fail)
    refine (eqBoxS_any (l := pP l i) _ hoG.rd (hrW.below hb3 (Nat.le_refl _)) hPL).mono ?_
    rintro e w9 ⟨rfl, hx⟩
    replace hb3 := after hb3 hx (Nat.le_refl _)
    replace hoG := hoG.below hx (Nat.le_refl _)
    clear hx
    -- g0 marked
    go_wp2_with (fail)
    refine (markBoxS_any (l := pP l i) 1 _ hoG hPL (Nat.le_refl _)).mono ?_
    rintro e w10 ⟨rfl, hoG2, hb10, _⟩
    replace hb3 := hb3.trans (hb10.mono hs3)
    replace hv0 := hv0b.out _ (hb.trans (hb3.mono hs2))
    clear hb10 hoG
    go_wp2_with (fail)
    refine (heldBoxS_any (l := pP l i) 1 _ hoG2.rd hPL (Nat.le_refl _)).mono ?_
    rintro e w11 ⟨rfl, rfl⟩
    have hkp : ((1 + 9 * (pP l i).length : Nat) : Int) ≥ 0 := by omega
    go_wp2_with (fail)
    refine (toBoxS_any (l := l) _ hv0 hL7).mono ?_
    rintro e w12 ⟨v12, rfl, ho12, hx⟩
    replace hb3 := after hb3 hx (Nat.le_refl _)
    replace hv0 := hv0.below hx (Nat.le_refl _)
    replace hoG2 := hoG2.below hx (Nat.le_refl _)
    have hr12 := ho12.rd
    clear hx ho12
    go_wp2_with (fail)
    refine (partE (l := l) i _ hr12).mono ?_
    rintro e w13 ⟨v13, rfl, ho13, hx⟩
    replace hb3 := after hb3 hx (Nat.le_refl _)
    replace hoG2 := hoG2.below hx (Nat.le_refl _)
    have hr13 := ho13.rd
    clear hx ho13 hr12
    go_wp2_with (fail)
    refine (eqBoxS_any (l := pP l i) _ hr13 (hrW.below hb3 (Nat.le_refl _)) hPL).mono ?_
    rintro e w14 ⟨rfl, hx⟩
    replace hb3 := after hb3 hx (Nat.le_refl _)
    replace hoG2 := hoG2.below hx (Nat.le_refl _)
    clear hx hr13
    go_wp2_with (fail)
    refine (heldBoxS_any (l := pP l i) 1 _ hoG2.rd hPL (Nat.le_refl _)).mono ?_
    rintro e w15 ⟨rfl, rfl⟩
    have hbF := hb.trans (hb3.mono hs2)
    go_wp2
    go_ret
    exact ⟨rfl, hbF⟩
  · go_enter Try.func3, Try.ntmps3
    go_wp2_with (fail)
    refine (szBoxS_any (l := l) _ hv0).mono ?_
    rintro e w1 ⟨r, rfl, hr, rfl⟩
    have hr0 : r < 0 := by omega
    clear hr
    go_wp2
    go_ret
    exact ⟨rfl, Below.refl _ _⟩
set_option maxRecDepth 100000 in
set_option maxHeartbeats 2000000 in
theorem FnExactRemoveBox_any {v : Value} {l : List Bx} (i : Int) (w : World) (hv : Rd w 9 v (Bs l)) :
    Calls Try.prog 8 #[v, .int .i64 i] w fun e w' => e = .returned (.bool true) ∧ Ext w w' := by
  have hPl := rP_le l i
  have hv0 := hv
  obtain ⟨ad, c, rfl, hn, hc, _⟩ := hv.boxes
  unfold maxLen at hc
  by_cases hlen : l.length ≤ 1048576
  · have hv0b : Hid (∀ w', Below w.heap.size w w' → Rd w' 9 (.slice ad l.length c) (Bs l)) := fun w' hw' => hv0.below hw' (Nat.le_refl _)
    have hPL : (rP l i).length ≤ 1048577 := by omega
    have hL7 : l.length ≤ 1048577 := by omega
    go_enter Try.func8, Try.ntmps8
    go_wp2_with (fail)
    refine (szBoxS_any (l := l) _ hv0).mono ?_
    rintro e w0 ⟨r, rfl, hr, rfl⟩
    have hr0 : 0 ≤ r := by omega
    clear hr
    go_wp2_with (fail)
    refine (toBoxS_any (l := l) _ hv0 hL7).mono ?_
    rintro e w1 ⟨v1, rfl, ho1, hb⟩
    replace hv0 := hv0.below hb (Nat.le_refl _)
    have hr1 := ho1.rd
    clear ho1
    go_wp2_with (fail)
    refine (sremE (l := l) i _ hr1 hlen).mono ?_
    -- spec's result
    rintro e w2 ⟨vW, rfl, hoW, hx⟩
    replace hb := after hb hx (Nat.le_refl _)
    replace hv0 := hv0.below hx (Nat.le_refl _)
    have hrW := hoW.rd
    clear hoW hx hr1
    have hs2 := hb.size
    go_wp2_with (fail)
    refine (toBoxS_any (l := l) _ hv0 hL7).mono ?_
    rintro e w3 ⟨v3, rfl, hoX, hb3⟩
    have hs3 := hb3.size
    have hXlt := hoX.lt
    replace hv0 := hv0.below hb3 (Nat.le_refl _)
    go_wp2_with (fail)
    refine (remE (l := l) i _ hoX.rd).mono ?_
    rintro e w4 ⟨v4, rfl, hoG, hx⟩
    have hGlt := hoG.lt
    replace hb3 := after hb3 hx (Nat.le_refl _)
    replace hv0 := hv0.below hx (Nat.le_refl _)
    replace hoX := hoX.below hx (Nat.le_refl _)
    clear hx
    go_wp2_with (fail)
    refine (eqBoxS_any (l := rP l i) _ hoG.rd (hrW.below hb3 (Nat.le_refl _)) hPL).mono ?_
    rintro e w5 ⟨rfl, hx⟩
    replace hb3 := after hb3 hx (Nat.le_refl _)
    replace hv0 := hv0.below hx (Nat.le_refl _)
    replace hoX := hoX.below hx (Nat.le_refl _)
    replace hoG := hoG.below hx (Nat.le_refl _)
    clear hx
    go_wp2_with (fail)
    refine (toBoxS_any (l := l) _ hv0 hL7).mono ?_
    rintro e w6 ⟨v6, rfl, ho6, hx⟩
    replace hb3 := after hb3 hx (Nat.le_refl _)
    replace hv0 := hv0.below hx (Nat.le_refl _)
    replace hoX := hoX.below hx (Nat.le_refl _)
    replace hoG := hoG.below hx (Nat.le_refl _)
    have hr6 := ho6.rd
    clear hx ho6
    go_wp2_with (fail)
    refine (eqBoxS_any (l := l) _ hoX.rd hr6 hL7).mono ?_
    rintro e w7 ⟨rfl, hx⟩
    replace hb3 := after hb3 hx (Nat.le_refl _)
    replace hv0 := hv0.below hx (Nat.le_refl _)
    replace hoX := hoX.below hx (Nat.le_refl _)
    replace hoG := hoG.below hx (Nat.le_refl _)
    clear hx hr6
    -- x0 marked
    go_wp2_with (fail)
    refine (markBoxS_any (l := l) 1 _ hoX hL7 (Nat.le_refl _)).mono ?_
    rintro e w8 ⟨rfl, hoX2, hb8, hfr⟩
    replace hoG := hoG.frame hfr (fun q hq hq2 => by
      have h1 := (hXlt q hq2).2
      have h2 := (hGlt q hq).1
      omega)
    have HXB : Hid (Below w.heap.size w7 w8) := hb8.mono hs2
    replace hb3 := hb3.trans hb8
    replace hv0 := hv0b.out _ (hb.trans (hb3.mono hs2))
    clear hb8 hfr hoX hoX2 HXB
    have hkm : ((1 + 9 * l.length : Nat) : Int) ≥ 0 := by omega
    go_wp2_with (fail)
    refine (eqBoxS_any (l := rP l i) _ hoG.rd (hrW.below hb3 (Nat.le_refl _)) hPL).mono ?_
    rintro e w9 ⟨rfl, hx⟩
    replace hb3 := after hb3 hx (Nat.le_refl _)
    replace hoG := hoG.below hx (Nat.le_refl _)
    clear hx
    -- g0 marked
    go_wp2_with (fail)
    refine (markBoxS_any (l := rP l i) 1 _ hoG hPL (Nat.le_refl _)).mono ?_
    rintro e w10 ⟨rfl, hoG2, hb10, _⟩
    replace hb3 := hb3.trans (hb10.mono hs3)
    replace hv0 := hv0b.out _ (hb.trans (hb3.mono hs2))
    clear hb10 hoG
    go_wp2_with (fail)
    refine (heldBoxS_any (l := rP l i) 1 _ hoG2.rd hPL (Nat.le_refl _)).mono ?_
    rintro e w11 ⟨rfl, rfl⟩
    have hkp : ((1 + 9 * (rP l i).length : Nat) : Int) ≥ 0 := by omega
    go_wp2_with (fail)
    refine (toBoxS_any (l := l) _ hv0 hL7).mono ?_
    rintro e w12 ⟨v12, rfl, ho12, hx⟩
    replace hb3 := after hb3 hx (Nat.le_refl _)
    replace hv0 := hv0.below hx (Nat.le_refl _)
    replace hoG2 := hoG2.below hx (Nat.le_refl _)
    have hr12 := ho12.rd
    clear hx ho12
    go_wp2_with (fail)
    refine (remE (l := l) i _ hr12).mono ?_
    rintro e w13 ⟨v13, rfl, ho13, hx⟩
    replace hb3 := after hb3 hx (Nat.le_refl _)
    replace hoG2 := hoG2.below hx (Nat.le_refl _)
    have hr13 := ho13.rd
    clear hx ho13 hr12
    go_wp2_with (fail)
    refine (eqBoxS_any (l := rP l i) _ hr13 (hrW.below hb3 (Nat.le_refl _)) hPL).mono ?_
    rintro e w14 ⟨rfl, hx⟩
    replace hb3 := after hb3 hx (Nat.le_refl _)
    replace hoG2 := hoG2.below hx (Nat.le_refl _)
    clear hx hr13
    go_wp2_with (fail)
    refine (heldBoxS_any (l := rP l i) 1 _ hoG2.rd hPL (Nat.le_refl _)).mono ?_
    rintro e w15 ⟨rfl, rfl⟩
    have hbF := hb.trans (hb3.mono hs2)
    go_wp2
    go_ret
    exact ⟨rfl, hbF⟩
  · go_enter Try.func8, Try.ntmps8
    go_wp2_with (fail)
    refine (szBoxS_any (l := l) _ hv0).mono ?_
    rintro e w1 ⟨r, rfl, hr, rfl⟩
    have hr0 : r < 0 := by omega
    clear hr
    go_wp2
    go_ret
    exact ⟨rfl, Below.refl _ _⟩
end Go.Proofs.Ytckggmbmlpikhaa
