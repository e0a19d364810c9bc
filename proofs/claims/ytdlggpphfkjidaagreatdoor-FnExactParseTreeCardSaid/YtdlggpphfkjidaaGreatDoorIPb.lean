/-
  Reading texts back, of the program: boxOf.
-/
import Derived.Deep.Cut
import Derived.IntWalk
import Derived.StillTailTactics
import Derived.Test.YtdlggpphfkjidaaGreatDoorISp
import Derived.Test.YtdlggpphfkjidaaGreatDoorITxt
import Derived.Test.YtdlggpphfkjidaaGreatDoorSPb
import Derived.Test.YtdlggpphfkjidaaGreatDoorScal
namespace Go.Proofs.YtdlggpphfkjidaaGreatDoor
open Go Go.RowKit

/-! ### one word -/
theorem runI_step {ws : List (List UInt8)} {k : Nat} {x : List UInt8} (h : ws[k]? = some x) (b : Bx) :
    runI (ws.drop k) b = if sidx x < 5 then runI (ws.drop (k + 2)) (setW x (aI (ws.getD (k + 1) [])) b) else runI (ws.drop (k + 1)) b := by
  obtain ⟨h1, h2⟩ := List.getElem?_eq_some_iff.1 h
  have e : ws.drop k = x :: ws.drop (k + 1) := by rw [← h2]; exact List.drop_eq_getElem_cons h1
  rw [e]
  by_cases hk : k + 1 < ws.length
  · have e2 : ws.drop (k + 1) = ws[k + 1] :: ws.drop (k + 2) := List.drop_eq_getElem_cons hk
    have e3 : ws.getD (k + 1) [] = ws[k + 1] := by rw [List.getD_eq_getElem?_getD, List.getElem?_eq_getElem hk]; rfl
    rw [e3, e2]
    rfl
  · have e2 : ws.drop (k + 1) = [] := List.drop_eq_nil_of_le (by omega)
    have e4 : ws.drop (k + 2) = [] := List.drop_eq_nil_of_le (by omega)
    have e3 : ws.getD (k + 1) [] = [] := by rw [List.getD_eq_getElem?_getD, List.getElem?_eq_none (by omega)]; rfl
    rw [e2, e3, e4]
    rfl
theorem runI_over {ws : List (List UInt8)} {k : Nat} (h : ws.length ≤ k) (b : Bx) : runI (ws.drop k) b = b := by
  rw [List.drop_eq_nil_of_le h]
  rfl
theorem setW_nm {j : Nat} (hj : j < 5) (n : Int) (b : Bx) : b.arr.setIfInBounds (4 + j) (.int .i64 n) = (setW (nmT j) n b).arr := by
  have : j = 0 ∨ j = 1 ∨ j = 2 ∨ j = 3 ∨ j = 4 := by omega
  rcases this with rfl | rfl | rfl | rfl | rfl <;> rfl
theorem sidx_nm {j : Nat} (hj : j < 5) : sidx (nmT j) = j := by
  have : j = 0 ∨ j = 1 ∨ j = 2 ∨ j = 3 ∨ j = 4 := by omega
  rcases this with rfl | rfl | rfl | rfl | rfl <;> decide

/-! ### the blocks of boxOf: the result, the words, the scanner, the box -/
theorem keepR {k R : Nat} {o : Obj} {w w' : World} (h : Keep k o w) (hx : ExtR R w w') (hk : k ≠ R) : Keep k o w' := (hx.block k h.lt hk).trans h
def BI (w : World) (r gw sc g : Nat) (ws : List (List UInt8)) (k : Nat) (b : Bx) (w' : World) : Prop :=
  Below w.heap.size w w' ∧ Keep r (.cells zb.arr 39) w' ∧ ScA sc gw ws k w' ∧ Keep g (.cells b.arr 39) w'
theorem BI.ext {w w1 w2 : World} {r gw sc g k : Nat} {ws : List (List UInt8)} {b : Bx} (h : BI w r gw sc g ws k b w1) (hx : Ext w1 w2) : BI w r gw sc g ws k b w2 := by
  obtain ⟨hb, hr, ⟨kg, ⟨v, ks, hv⟩, hne⟩, hg⟩ := h
  exact ⟨after hb hx (Nat.le_refl _), keepE hr hx, ⟨keepE kg hx, ⟨v, keepE ks hx, hv⟩, hne⟩, keepE hg hx⟩
theorem BI.step {w w1 w2 : World} {r gw sc g k k' : Nat} {ws : List (List UInt8)} {b : Bx} (h : BI w r gw sc g ws k b w1) (hs : ScA sc gw ws k' w2) (hx : ExtR sc w1 w2) (hB : w.heap.size ≤ r) (hr : r < sc) (hg : sc < g) : BI w r gw sc g ws k' b w2 :=
  ⟨below_bel h.1 hx h.1.size (by omega), keepR h.2.1 hx (by omega), hs, keepR h.2.2.2 hx (by omega)⟩
theorem BI.set {w w1 : World} {r gw sc g k : Nat} {ws : List (List UInt8)} {b b' : Bx} (h : BI w r gw sc g ws k b w1) (hB : w.heap.size ≤ r) (hr : r < gw) (hgw : gw < sc) (hg : sc < g) (o : Nat) (u : Value) (hb : b.arr.setIfInBounds o u = b'.arr) : BI w r gw sc g ws k b' (w1.setCell ⟨g, o, none⟩ u) := by
  obtain ⟨hbl, hkr, ⟨kg, ⟨v, ks, hv⟩, hne⟩, hkg⟩ := h
  refine ⟨hbl.setCell (p := ⟨g, o, none⟩) (by show w.heap.size ≤ g; omega) u, hkr.setOther (p := ⟨g, o, none⟩) (by show r ≠ g; omega) u, ⟨kg.setOther (p := ⟨g, o, none⟩) (by show gw ≠ g; omega) u, ⟨v, ks.setOther (p := ⟨g, o, none⟩) (by show sc ≠ g; omega) u, hv⟩, hne⟩, ?_⟩
  have := hkg.store o u
  rw [hb] at this
  exact this
theorem BI.drew {w w1 : World} {r gw sc g k : Nat} {ws : List (List UInt8)} {b : Bx} (h : BI w r gw sc g ws k b w1) : BI w r gw sc g ws k b w1.drew := ⟨h.1.drew, h.2.1, h.2.2.1, h.2.2.2⟩
theorem BI.c9 {w w1 : World} {r gw sc g k : Nat} {ws : List (List UInt8)} {b : Bx} (h : BI w r gw sc g ws k b w1) : w1.cell? ⟨g, 0, none⟩ = some (.int .i64 b.parent) ∧ w1.cell? ⟨g, 1, none⟩ = some (.int .i64 b.kind) ∧ w1.cell? ⟨g, 2, none⟩ = some (.int .i64 b.w) ∧ w1.cell? ⟨g, 3, none⟩ = some (.int .i64 b.h) ∧ w1.cell? ⟨g, 4, none⟩ = some (.int .i64 b.pad) ∧ w1.cell? ⟨g, 5, none⟩ = some (.int .i64 b.gap) ∧ w1.cell? ⟨g, 6, none⟩ = some (.int .i64 b.grow) ∧ w1.cell? ⟨g, 7, none⟩ = some (.int .i64 b.shrink) ∧ w1.cell? ⟨g, 8, none⟩ = some (.int .i64 b.justify) :=
  have q := h.2.2.2
  ⟨q.cell 0, q.cell 1, q.cell 2, q.cell 3, q.cell 4, q.cell 5, q.cell 6, q.cell 7, q.cell 8⟩
theorem BI.r9 {w w1 : World} {r gw sc g k : Nat} {ws : List (List UInt8)} {b : Bx} (h : BI w r gw sc g ws k b w1) : w1.cell? ⟨r, 0, none⟩ = some (.int .i64 zb.parent) ∧ w1.cell? ⟨r, 1, none⟩ = some (.int .i64 zb.kind) ∧ w1.cell? ⟨r, 2, none⟩ = some (.int .i64 zb.w) ∧ w1.cell? ⟨r, 3, none⟩ = some (.int .i64 zb.h) ∧ w1.cell? ⟨r, 4, none⟩ = some (.int .i64 zb.pad) ∧ w1.cell? ⟨r, 5, none⟩ = some (.int .i64 zb.gap) ∧ w1.cell? ⟨r, 6, none⟩ = some (.int .i64 zb.grow) ∧ w1.cell? ⟨r, 7, none⟩ = some (.int .i64 zb.shrink) ∧ w1.cell? ⟨r, 8, none⟩ = some (.int .i64 zb.justify) :=
  have q := h.2.1
  ⟨q.cell 0, q.cell 1, q.cell 2, q.cell 3, q.cell 4, q.cell 5, q.cell 6, q.cell 7, q.cell 8⟩
theorem BI.z9 {w w1 : World} {r gw sc g k : Nat} {ws : List (List UInt8)} {b : Bx} (h : BI w r gw sc g ws k b w1) : w1.frozen? ⟨r, 0, none⟩ = false ∧ w1.frozen? ⟨r, 1, none⟩ = false ∧ w1.frozen? ⟨r, 2, none⟩ = false ∧ w1.frozen? ⟨r, 3, none⟩ = false ∧ w1.frozen? ⟨r, 4, none⟩ = false ∧ w1.frozen? ⟨r, 5, none⟩ = false ∧ w1.frozen? ⟨r, 6, none⟩ = false ∧ w1.frozen? ⟨r, 7, none⟩ = false ∧ w1.frozen? ⟨r, 8, none⟩ = false :=
  have q := h.2.1
  ⟨q.frozen 0, q.frozen 1, q.frozen 2, q.frozen 3, q.frozen 4, q.frozen 5, q.frozen 6, q.frozen 7, q.frozen 8⟩
theorem BI.laid {w w1 : World} {r gw sc g k : Nat} {ws : List (List UInt8)} {b : Bx} (h : BI w r gw sc g ws k b w1) (hl : LaidP w) : LaidP w1 := hl.below h.1
/-- how many words the scanner still has -/
def scLen (sc : Nat) (w : World) : Nat := match w.cell? ⟨sc, 0, none⟩ with
  | some (.slice _ n _) => n
  | _ => 0
theorem ScA.len {sc gw k : Nat} {ws : List (List UInt8)} {w : World} (h : ScA sc gw ws k w) : scLen sc w = ws.length - k := by
  obtain ⟨_, ⟨v, ks, hv⟩, _⟩ := h
  unfold scLen
  rw [ks.cell 0]
  rcases hv with ⟨hk, rfl⟩ | ⟨hk, a, c, rfl⟩
  · rfl
  · show 0 = _
    omega
theorem sidx_if {x : List UInt8} {j : Nat} {α : Type} (a b : α) (h : sidx x ≠ j) : (if sidx x < j + 1 then a else b) = if sidx x < j then a else b := by
  by_cases h1 : sidx x < j
  · rw [if_pos h1, if_pos (by omega)]
  · rw [if_neg h1, if_neg (by omega)]
set_option maxRecDepth 100000 in
set_option maxHeartbeats 1600000 in
theorem boxOf_any (s : List UInt8) (w : World) (hs : s.length ≤ 2000000) (hlaid : LaidP w) :
    Calls Tryz.prog 28 #[sv s] w fun e w' => e = .returned (resB (pB s)) ∧ Ext w w' := by
  have k0 := Keep.new w (.cells zb.arr 39)
  have b0 := Below.of_alloc w (.cells zb.arr 39)
  have HSM := Lib.hid (splitB_len 32 s)
  have hcnt := splitB_count 32 s
  have hwne := splitB_ne 32 s
  have HPB := Lib.hid (pB_words s)
  have HSP := Lib.hid (fun w => split_any s 32 w hs)
  have HLD : Hid (LaidP w) := hlaid
  clear hlaid
  generalize splitB 32 s = ws at *
  obtain ⟨x, hx0, hxh⟩ : ∃ x, ws[0]? = some x ∧ ws.headD [] = x := by
    cases ws with
    | nil => exact absurd rfl hwne
    | cons x t => exact ⟨x, rfl, rfl⟩
  have hpos : 0 < ws.length := List.length_pos_iff.2 hwne
  unfold sv
  go_enter Tryz.func28, Tryz.ntmps28
  go_wp2_with (fail)
  change Calls _ _ _ (w.alloc (.cells zb.arr 39)) _
  obtain ⟨r, hr⟩ : ∃ r, w.heap.size = r := ⟨_, rfl⟩
  have hW0 : (w.alloc (.cells zb.arr 39)).heap.size = r + 1 := by rw [World.size_alloc, hr]
  generalize w.alloc (.cells zb.arr 39) = W0 at *
  refine (HSP.out W0).mono ?_
  rintro e w1 ⟨rfl, kw, hx1⟩
  rw [hW0] at kw ⊢
  have hk1 := keepE k0 hx1
  have hb1 := after b0 hx1 (Nat.le_refl _)
  have hw1 := kw.lt
  rw [hr] at hk1
  clear HSP k0 b0 hx1
  go_upto_region 3 with fail
  have kS := (Keep.new w1 (.cells #[.slice (some ⟨r + 1, 0, none⟩) ws.length ws.length] 97)).alloc (.cells (⟨0, -1, 0, 0, 0, 0, 0, 0, 0⟩ : Bx).arr 39)
  have kG := Keep.new (w1.alloc (.cells #[.slice (some ⟨r + 1, 0, none⟩) ws.length ws.length] 97)) (.cells (⟨0, -1, 0, 0, 0, 0, 0, 0, 0⟩ : Bx).arr 39)
  have kW := (kw.alloc (.cells #[.slice (some ⟨r + 1, 0, none⟩) ws.length ws.length] 97)).alloc (.cells (⟨0, -1, 0, 0, 0, 0, 0, 0, 0⟩ : Bx).arr 39)
  have kR := (hk1.alloc (.cells #[.slice (some ⟨r + 1, 0, none⟩) ws.length ws.length] 97)).alloc (.cells (⟨0, -1, 0, 0, 0, 0, 0, 0, 0⟩ : Bx).arr 39)
  have hb2 := (hb1.alloc hb1.size (.cells #[.slice (some ⟨r + 1, 0, none⟩) ws.length ws.length] 97)).alloc (hb1.alloc hb1.size (.cells #[.slice (some ⟨r + 1, 0, none⟩) ws.length ws.length] 97)).size (.cells (⟨0, -1, 0, 0, 0, 0, 0, 0, 0⟩ : Bx).arr 39)
  rw [World.size_alloc] at kG
  obtain ⟨sc, hsc⟩ : ∃ sc, w1.heap.size = sc := ⟨_, rfl⟩
  change Code.wp _ _ _ _ ((w1.alloc (.cells #[.slice (some ⟨r + 1, 0, none⟩) ws.length ws.length] 97)).alloc (.cells (⟨0, -1, 0, 0, 0, 0, 0, 0, 0⟩ : Bx).arr 39))
  generalize (w1.alloc (.cells #[.slice (some ⟨r + 1, 0, none⟩) ws.length ws.length] 97)).alloc (.cells (⟨0, -1, 0, 0, 0, 0, 0, 0, 0⟩ : Bx).arr 39) = W2 at *
  rw [hsc] at kS kG hw1 ⊢
  have hbi : BI w r (r + 1) sc (sc + 1) ws 0 ⟨0, -1, 0, 0, 0, 0, 0, 0, 0⟩ W2 := ⟨hb2, kR, ⟨kW, ⟨_, kS, .inl ⟨hpos, rfl⟩⟩, by omega⟩, kG⟩
  have hwr : w.heap.size ≤ r := by omega
  clear kS kG kW kR hb2 hb1 hk1 kw hsc hr hW0
  go_wp2_with (fail)
  refine (next_any _ hbi.2.2.1 (by omega)).mono ?_
  rintro e w3 ⟨rfl, hs3, hx3⟩
  replace hbi := hbi.step hs3 hx3 hwr (by omega) (by omega)
  clear hs3 hx3
  rw [show ws.getD 0 [] = x by rw [List.getD_eq_getElem?_getD, hx0]; rfl]
  unfold sv
  go_wp2_with (fail)
  refine (kindNames_any _).mono ?_
  rintro e w4 ⟨rfl, hx4⟩
  replace hbi := hbi.ext hx4
  clear hx4
  go_wp2
  go_loopw [20] (fun i wr => ∃ k : Nat, i = .int .i64 k ∧ k ≤ 4 ∧ BI w r (r + 1) sc (sc + 1) ws 1 ⟨0, kTo x k, 0, 0, 0, 0, 0, 0, 0⟩ wr) (fun i _ => 4 - (intOf i).toNat)
  case atStart => exact ⟨0, rfl, by omega, hbi⟩
  case round =>
    clear hbi
    obtain ⟨k, rfl, hk, hbi⟩ := hrel
    by_cases hlt : k < 4
    · have hki : (k : Int) < 4 := by omega
      have hk0 : (0 : Int) ≤ (k : Int) := by omega
      have hix := fun w => index_names w (k := (k : Int)) (by omega)
      by_cases hxk : x = kindT (k : Int)
      · have HK : Hid (kTo x (k + 1) = (k : Int)) := by
          show _ = _
          unfold kTo
          rw [if_pos hxk]
        rw [← hxk] at hix
        have d1 : wr.cell? ⟨sc + 1, 1, none⟩ = some (.int .i64 (kTo x k)) := hbi.2.2.2.cell 1
        have f1 := hbi.2.2.2.frozen 1
        have hbi2 := hbi.set hwr (by omega) hw1 (by omega) 1 (.int .i64 (k : Int)) (b' := ⟨0, k, 0, 0, 0, 0, 0, 0, 0⟩) rfl
        clear hbi hxk
        go_wp2
        go_roundw
        case rel => exact ⟨k + 1, by go_num, by omega, by rw [HK.out]; exact hbi2⟩
        case measure => simp [intOf]; omega
      · have HK : Hid (kTo x (k + 1) = kTo x k) := by
          show _ = _
          conv => lhs; unfold kTo
          rw [if_neg hxk]
        have hq : (kindT (k : Int) == x) = false := beq_eq_false_iff_ne.2 (fun e => hxk e.symm)
        generalize kindT (k : Int) = kk at *
        clear hxk
        go_wp2
        go_roundw
        case rel => exact ⟨k + 1, by go_num, by omega, by rw [HK.out]; exact hbi⟩
        case measure => simp [intOf]; omega
    · obtain rfl : k = 4 := by omega
      clear hlt hk
      rw [show ((4 : Nat) : Int) = 4 from rfl]
      have hkk := kTo_le x 4
      have d1 : wr.cell? ⟨sc + 1, 1, none⟩ = some (.int .i64 (kTo x 4)) := hbi.2.2.2.cell 1
      have HGL : Hid (∀ k, (ws.getD k []).length ≤ 1000000000) := fun k => by
        rw [List.getD_eq_getElem?_getD]
        cases h : ws[k]? with
        | none => exact Nat.zero_le _
        | some z =>
          have := HSM.out z (List.mem_of_getElem? h)
          show z.length ≤ _
          omega
      by_cases h0 : kTo x 4 = 0
      · have HF : Hid (runI (ws.drop 3) ⟨0, 0, aI (ws.getD 1 []), aI (ws.getD 2 []), 0, 0, 0, 0, 0⟩ = wordsI ws) := by
          show _ = _
          unfold wordsI headI
          rw [hxh, if_pos h0, if_pos h0]
        rw [h0] at d1 hbi
        clear hkk h0
        go_wp2_with (fail)
        refine (number_any w _ hbi.2.2.1 (by omega) (HGL.out 1) HLD.out rfl hbi.1 (by omega)).mono ?_
        rintro e w7 ⟨rfl, hs7, hx7⟩
        replace hbi := hbi.step hs7 hx7 hwr (by omega) (by omega)
        clear hs7 hx7 d1
        generalize aI (ws.getD 1 []) = a1 at *
        go_wp2_with (fail)
        refine (number_any w _ hbi.2.2.1 (by omega) (HGL.out 2) HLD.out rfl hbi.1 (by omega)).mono ?_
        rintro e w8 ⟨rfl, hs8, hx8⟩
        replace hbi := hbi.step hs8 hx8 hwr (by omega) (by omega)
        clear hs8 hx8
        generalize aI (ws.getD 2 []) = a2 at *
        have d2 : w8.cell? ⟨sc + 1, 2, none⟩ = some (.int .i64 0) := hbi.2.2.2.cell 2
        have f2 := hbi.2.2.2.frozen 2
        replace hbi := hbi.set hwr (by omega) hw1 (by omega) 2 (.int .i64 a1) (b' := ⟨0, 0, a1, 0, 0, 0, 0, 0, 0⟩) rfl
        have d3 : (w8.setCell ⟨sc + 1, 2, none⟩ (.int .i64 a1)).cell? ⟨sc + 1, 3, none⟩ = some (.int .i64 0) := hbi.2.2.2.cell 3
        have f3 := hbi.2.2.2.frozen 3
        replace hbi := hbi.set hwr (by omega) hw1 (by omega) 3 (.int .i64 a2) (b' := ⟨0, 0, a1, a2, 0, 0, 0, 0, 0⟩) rfl
        go_upto_region 12 with fail
        clear d2 f2 d3 f3
        generalize (w8.setCell ⟨sc + 1, 2, none⟩ (.int .i64 a1)).setCell ⟨sc + 1, 3, none⟩ (.int .i64 a2) = W9 at *
        go_wp2
        go_loopw [] (fun wr => ∃ (k : Nat) (b : Bx), BI w r (r + 1) sc (sc + 1) ws k b wr ∧ runI (ws.drop k) b = wordsI ws) (fun wr => scLen sc wr)
        case atStart => exact ⟨3, _, hbi, HF.out⟩
        case round =>
          clear hbi
          obtain ⟨k, b, hbi, hrun⟩ := hrel
          have hsl := hbi.2.2.1.len
          by_cases hlt : k < ws.length
          · obtain ⟨y, hy⟩ : ∃ y, ws[k]? = some y := ⟨_, List.getElem?_eq_getElem hlt⟩
            have hyd : ws.getD k [] = y := by rw [List.getD_eq_getElem?_getD, hy]; rfl
            have HRN := Lib.hid ((runI_step hy b).symm.trans hrun)
            clear hrun
            obtain ⟨v, ks, hv⟩ := hbi.2.2.1.2.1
            have c0 : wr.cell? ⟨sc, 0, none⟩ = some (sl (r + 1) k ws.length) := by
              rcases hv with ⟨_, rfl⟩ | ⟨h, _⟩
              · exact ks.cell 0
              · omega
            unfold sl at c0
            clear ks hv v
            have hlp : (0 : Int) < ((ws.length - k : Nat) : Int) := by omega
            go_upto_region 13 with fail
            clear c0 hlp
            go_wp2_with (fail)
            refine (next_any _ hbi.2.2.1 (by omega)).mono ?_
            rintro e w5 ⟨rfl, hs5, hx5⟩
            replace hbi := hbi.step hs5 hx5 hwr (by omega) (by omega)
            rw [hyd]
            clear hs5 hx5 hyd hy
            unfold sv
            go_wp2_with (fail)
            refine (styles_any (sc + 1) _).mono ?_
            rintro e w6 ⟨rfl, hst, hx6⟩
            have hhg : sc + 1 < w5.heap.size := hbi.2.2.2.lt
            replace hbi := hbi.ext hx6
            clear hx6
            generalize w5.heap.size = h at *
            obtain ⟨n, hn⟩ : ∃ n, n = aI (ws.getD (k + 1) []) := ⟨_, rfl⟩
            rw [← hn] at HRN
            replace hn : Hid (n = aI (ws.getD (k + 1) [])) := hn
            go_wp2
            go_loopw [49] (fun i wr => ∃ j : Nat, i = .int .i64 j ∧ j ≤ 5 ∧ BI w r (r + 1) sc (sc + 1) ws (if sidx y < j then k + 2 else k + 1) (if sidx y < j then setW y n b else b) wr ∧ Keep h (.cells #[.string ⟨#[112, 97, 100]⟩, .pointer (some ⟨sc + 1, 4, none⟩), .string ⟨#[103, 97, 112]⟩, .pointer (some ⟨sc + 1, 5, none⟩), .string ⟨#[103, 114, 111, 119]⟩, .pointer (some ⟨sc + 1, 6, none⟩), .string ⟨#[115, 104, 114, 105, 110, 107]⟩, .pointer (some ⟨sc + 1, 7, none⟩), .string ⟨#[106, 117, 115, 116, 105, 102, 121]⟩, .pointer (some ⟨sc + 1, 8, none⟩)] 84) wr) (fun i _ => 5 - (intOf i).toNat)
            case atStart => exact ⟨0, rfl, by omega, hbi, hst⟩
            case round =>
              clear hbi hst
              obtain ⟨j, rfl, hj, hbi, hst⟩ := hrel
              by_cases hj5 : j < 5
              · have hki : (j : Int) < 5 := by omega
                have hk0 : (0 : Int) ≤ (j : Int) := by omega
                have e0 : wr.cell? ⟨h, j * 2, none⟩ = some (.string ⟨(nmT j).toArray⟩) := by
                  rw [hst.cell (j * 2)]
                  have : j = 0 ∨ j = 1 ∨ j = 2 ∨ j = 3 ∨ j = 4 := by omega
                  rcases this with rfl | rfl | rfl | rfl | rfl <;> rfl
                have e1 : wr.cell? ⟨h, j * 2 + 1, none⟩ = some (.pointer (some ⟨sc + 1, 4 + j, none⟩)) := by
                  rw [hst.cell (j * 2 + 1)]
                  have : j = 0 ∨ j = 1 ∨ j = 2 ∨ j = 3 ∨ j = 4 := by omega
                  rcases this with rfl | rfl | rfl | rfl | rfl <;> rfl
                go_upto_region 17 with fail
                have kt := Keep.new wr (.cells #[.string ⟨(nmT j).toArray⟩, .pointer (some ⟨sc + 1, 4 + j, none⟩)] 84)
                have htg : sc + 1 < wr.heap.size := hbi.2.2.2.lt
                replace hbi := hbi.ext (Below.of_alloc wr (.cells #[.string ⟨(nmT j).toArray⟩, .pointer (some ⟨sc + 1, 4 + j, none⟩)] 84))
                replace hst := hst.alloc (.cells #[.string ⟨(nmT j).toArray⟩, .pointer (some ⟨sc + 1, 4 + j, none⟩)] 84)
                clear e0 e1
                generalize wr.alloc (.cells #[.string ⟨(nmT j).toArray⟩, .pointer (some ⟨sc + 1, 4 + j, none⟩)] 84) = W1 at *
                generalize wr.heap.size = t at *
                have t0 := kt.cell 0
                have t1 := kt.cell 1
                by_cases hyj : sidx y = j
                · have hym := sidx_lt hyj hj5
                  have hq : (nmT j == y) = true := beq_iff_eq.2 hym.symm
                  rw [if_neg (by omega), if_neg (by omega)] at hbi
                  have HB1 : Hid ((if sidx y < j + 1 then k + 2 else k + 1) = k + 2) := if_pos (by omega)
                  have HB2 : Hid ((if sidx y < j + 1 then setW y n b else b) = setW y n b) := if_pos (by omega)
                  have HSW := Lib.hid (setW_nm hj5 n b)
                  rw [← hym] at HSW
                  clear hyj hym
                  have hg4 : ∃ u, W1.cell? ⟨sc + 1, 4 + j, none⟩ = some u := by
                    rw [hbi.2.2.2.cell]
                    exact ⟨_, Array.getElem?_eq_getElem (by show 4 + j < 9; omega)⟩
                  go_upto_region 18 with fail
                  refine wp_region_held_drew (S := fun w' => Keep t (.cells #[.string ⟨(nmT j).toArray⟩, .pointer (some ⟨sc + 1, 4 + j, none⟩)] 84) w') (by kernel_rfl) kt (fun hS => ?_)
                  replace hbi := hbi.drew
                  have hst2 : Keep h (.cells #[.string ⟨#[112, 97, 100]⟩, .pointer (some ⟨sc + 1, 4, none⟩), .string ⟨#[103, 97, 112]⟩, .pointer (some ⟨sc + 1, 5, none⟩), .string ⟨#[103, 114, 111, 119]⟩, .pointer (some ⟨sc + 1, 6, none⟩), .string ⟨#[115, 104, 114, 105, 110, 107]⟩, .pointer (some ⟨sc + 1, 7, none⟩), .string ⟨#[106, 117, 115, 116, 105, 102, 121]⟩, .pointer (some ⟨sc + 1, 8, none⟩)] 84) W1.drew := hst
                  clear t0 t1 hst kt hg4
                  generalize W1.drew = wd at *
                  refine hTake (by kernel_rfl) (fun d _ _ _ _ h => by cases d <;> exact h) hS 0 (some 57) _ rfl (v := ?_) (by kernel_rfl) ?_ ?_
                  rotate_left
                  · intro _ _; go_simp; first | done | with_reducible rfl
                  simp only [Act.put, List.setIfInBounds_toArray, List.set_cons_zero, List.set_cons_succ]
                  refine hTake (by kernel_rfl) (fun d _ _ _ _ h => by cases d <;> exact h) hS 1 (some 58) _ rfl (v := ?_) (by kernel_rfl) ?_ ?_
                  rotate_left
                  · intro w9 hS9; have q := hS9.cell 1; go_simp; first | done | with_reducible rfl
                  simp only [Act.put, List.setIfInBounds_toArray, List.set_cons_zero, List.set_cons_succ]
                  refine hTake (by kernel_rfl) (fun d _ _ _ _ h => by cases d <;> exact h) hS 2 (some 59) _ rfl (v := ?_) (by kernel_rfl) ?_ ?_
                  rotate_left
                  · intro _ _; go_simp; first | done | with_reducible rfl
                  simp only [Act.put, List.setIfInBounds_toArray, List.set_cons_zero, List.set_cons_succ]
                  refine wpAnyH_ready (rs := [3]) (by kernel_rfl) (by simp) ?_
                  refine AllReadyH.cons (o := _) rfl (fun K9 hK9 => ?_) AllReadyH.nil
                  go_simp
                  refine (number_any w _ hbi.2.2.1 (by omega) (HGL.out (k + 1)) HLD.out rfl hbi.1 (by omega)).mono ?_
                  rintro e w7 ⟨rfl, hs7, hx7⟩
                  rw [← hn.out]
                  try go_wp2_with fail
                  replace hbi := hbi.step hs7 hx7 hwr (by omega) (by omega)
                  replace hst2 := keepR hst2 hx7 (by omega)
                  refine hK9.out _ _ (keepR hS hx7 (by omega)) (fun hS => ?_)
                  clear hK9 K9
                  try simp only [Act.put, List.setIfInBounds_toArray, List.set_cons_zero, List.set_cons_succ]
                  clear hx7 hs7
                  refine hTake (by kernel_rfl) (fun d _ _ _ _ h => by cases d <;> exact h) hS 4 (some 61) _ rfl (v := ?_) (by kernel_rfl) ?_ ?_
                  rotate_left
                  · intro _ _; go_simp; first | done | with_reducible rfl
                  simp only [Act.put, List.setIfInBounds_toArray, List.set_cons_zero, List.set_cons_succ]
                  have g4 : ∃ u, w7.cell? ⟨sc + 1, 4 + j, none⟩ = some u := by
                    rw [hbi.2.2.2.cell]
                    exact ⟨_, Array.getElem?_eq_getElem (by show 4 + j < 9; omega)⟩
                  obtain ⟨u4, g4⟩ := g4
                  have f4 := hbi.2.2.2.frozen (4 + j)
                  refine wpAnyH_ready (rs := [5]) (by kernel_rfl) (by simp) ?_
                  refine AllReadyH.cons (o := _) rfl (fun K9 hK9 => ?_) AllReadyH.nil
                  go_simp
                  replace hbi := hbi.set hwr (by omega) hw1 (by omega) (4 + j) (.int .i64 n) HSW.out
                  replace hst2 := hst2.setOther (p := ⟨sc + 1, 4 + j, none⟩) (by show h ≠ sc + 1; omega) (.int .i64 n)
                  refine hK9.out _ _ (hS.setOther (p := ⟨sc + 1, 4 + j, none⟩) (by show t ≠ sc + 1; omega) (.int .i64 n)) (fun hS => ?_)
                  clear hK9 K9
                  try simp only [Act.put, List.setIfInBounds_toArray, List.set_cons_zero, List.set_cons_succ]
                  refine wpAnyH_done (by kernel_rfl) ?_ _
                  clear hS
                  go_wp2
                  go_roundw
                  case rel => exact ⟨j + 1, by go_num, by omega, by rw [HB1.out, HB2.out]; exact hbi, hst2⟩
                  case measure => simp [intOf]; omega
                · have hq : (nmT j == y) = false := beq_eq_false_iff_ne.2 (fun e => hyj (by rw [← e]; exact sidx_nm hj5))
                  have HB1 := Lib.hid (sidx_if (k + 2) (k + 1) hyj)
                  have HB2 := Lib.hid (sidx_if (setW y n b) b hyj)
                  generalize (if sidx y < j then k + 2 else k + 1) = k2 at *
                  generalize (if sidx y < j then setW y n b else b) = b2 at *
                  clear hyj kt
                  go_wp2
                  go_roundw
                  case rel => exact ⟨j + 1, by go_num, by omega, by rw [HB1.out, HB2.out]; exact hbi, hst⟩
                  case measure => simp [intOf]; omega
              · obtain rfl : j = 5 := by omega
                rw [show ((5 : Nat) : Int) = 5 from rfl]
                have HR2 : Hid (runI (ws.drop (if sidx y < 5 then k + 2 else k + 1)) (if sidx y < 5 then setW y n b else b) = wordsI ws) := by
                  show _ = _
                  rw [← HRN.out]
                  split <;> rfl
                have hk2 : k < (if sidx y < 5 then k + 2 else k + 1) := by split <;> omega
                generalize (if sidx y < 5 then k + 2 else k + 1) = k2 at *
                generalize (if sidx y < 5 then setW y n b else b) = b2 at *
                have hs2 := hbi.2.2.1.len
                go_wp2
                go_roundw
                case rel => exact ⟨_, _, hbi, HR2.out⟩
                case measure => omega
          · have HE : Hid (b = wordsI ws) := by
              show _ = _
              rw [← hrun, runI_over (by omega)]
            have hke : (0 : Int) < ((0 : Nat) : Int) ↔ False := by simp
            obtain ⟨v, ks, hv⟩ := hbi.2.2.1.2.1
            obtain ⟨a0, c0, hc0⟩ : ∃ a c, wr.cell? ⟨sc, 0, none⟩ = some (.slice a 0 c) := by
              rcases hv with ⟨h, _⟩ | ⟨_, a, c, rfl⟩
              · omega
              · exact ⟨a, c, ks.cell 0⟩
            clear hke ks hv v
            clear hrun hsl
            rw [HE.out] at hbi
            obtain ⟨d0, d1, d2, d3, d4, d5, d6, d7, d8⟩ := hbi.c9
            have HT := Lib.hid (hbi.laid HLD.out).1
            generalize wordsI ws = B at *
            clear HE HF
            go_wp2_with (fail)
            refine (styled_any B _).mono ?_
            rintro e W8 ⟨rfl, hx8⟩
            replace hbi := hbi.ext hx8
            have HT8 := Lib.hid (HT.out.below hx8 (Nat.le_refl _))
            clear d0 d1 d2 d3 d4 d5 d6 d7 d8 hx8 hc0 HT
            obtain ⟨g0, g1, g2, g3, g4, g5, g6, g7, g8⟩ := hbi.r9
            obtain ⟨z0, z1, z2, z3, z4, z5, z6, z7, z8⟩ := hbi.z9
            cases hok : okB B with
            | false =>
              have HP : Hid (pB s = none) := by
                show _ = _
                rw [HPB.out, if_neg (fun e => by rw [hok] at e; cases e.1)]
              have HX : Hid (Below w.heap.size w (setBx W8 r 0 zb)) := hbi.1.trans (setBx_below _ _ hwr)
              clear hbi HPB hok
              go_wp2
              refine bodyPost_ret (v := resB (pB s)) ?_ rfl ⟨rfl, HX.out⟩
              rw [HP.out]
              simp [results, Tryz.results28, go_sem, resB, Bx.agg, zb, g0, g1, g2, g3, g4, g5, g6, g7, g8]
            | true =>
              obtain ⟨d0, d1, d2, d3, d4, d5, d6, d7, d8⟩ := hbi.c9
              go_wp2_with (fail)
              refine (text_any (b := B) _ hok HT8.out).mono ?_
              rintro e W9 ⟨rfl, hx9⟩
              unfold sv
              replace hbi := hbi.ext hx9
              clear d0 d1 d2 d3 d4 d5 d6 d7 d8 hx9 g0 g1 g2 g3 g4 g5 g6 g7 g8 z0 z1 z2 z3 z4 z5 z6 z7 z8
              obtain ⟨g0, g1, g2, g3, g4, g5, g6, g7, g8⟩ := hbi.r9
              obtain ⟨z0, z1, z2, z3, z4, z5, z6, z7, z8⟩ := hbi.z9
              by_cases hbt : boxT B = s
              · have HP : Hid (pB s = some B) := by
                  show _ = _
                  rw [HPB.out, if_pos ⟨hok, hbt⟩]
                obtain ⟨d0, d1, d2, d3, d4, d5, d6, d7, d8⟩ := hbi.c9
                have HX : Hid (Below w.heap.size w (setBx W9 r 0 B)) := hbi.1.trans (setBx_below _ _ hwr)
                have hqb : (boxT B == s) = true := beq_iff_eq.2 hbt
                generalize boxT B = T at *
                clear hbi HPB hok hbt
                go_wp2
                refine bodyPost_ret (v := resB (pB s)) ?_ rfl ⟨rfl, HX.out⟩
                rw [HP.out]
                simp [results, Tryz.results28, go_sem, resB, Bx.agg, zb, g0, g1, g2, g3, g4, g5, g6, g7, g8]
              · have HP : Hid (pB s = none) := by
                  show _ = _
                  rw [HPB.out, if_neg (fun e => hbt e.2)]
                have HX : Hid (Below w.heap.size w (setBx W9 r 0 zb)) := hbi.1.trans (setBx_below _ _ hwr)
                have hqb : (boxT B == s) = false := beq_eq_false_iff_ne.2 hbt
                generalize boxT B = T at *
                clear hbi HPB hok hbt
                go_wp2
                refine bodyPost_ret (v := resB (pB s)) ?_ rfl ⟨rfl, HX.out⟩
                rw [HP.out]
                simp [results, Tryz.results28, go_sem, resB, Bx.agg, zb, g0, g1, g2, g3, g4, g5, g6, g7, g8]
      · have hq : (kTo x 4 == 0) = false := beq_eq_false_iff_ne.2 h0
        have HF : Hid (runI (ws.drop 1) ⟨0, kTo x 4, 0, 0, 0, 0, 0, 0, 0⟩ = wordsI ws) := by
          show _ = _
          unfold wordsI headI
          rw [hxh, if_neg h0, if_neg h0]
        go_upto_region 12 with fail
        clear d1
        go_wp2
        go_loopw [] (fun wr => ∃ (k : Nat) (b : Bx), BI w r (r + 1) sc (sc + 1) ws k b wr ∧ runI (ws.drop k) b = wordsI ws) (fun wr => scLen sc wr)
        case atStart => exact ⟨1, _, hbi, HF.out⟩
        case round =>
          clear hbi
          obtain ⟨k, b, hbi, hrun⟩ := hrel
          have hsl := hbi.2.2.1.len
          by_cases hlt : k < ws.length
          · obtain ⟨y, hy⟩ : ∃ y, ws[k]? = some y := ⟨_, List.getElem?_eq_getElem hlt⟩
            have hyd : ws.getD k [] = y := by rw [List.getD_eq_getElem?_getD, hy]; rfl
            have HRN := Lib.hid ((runI_step hy b).symm.trans hrun)
            clear hrun
            obtain ⟨v, ks, hv⟩ := hbi.2.2.1.2.1
            have c0 : wr.cell? ⟨sc, 0, none⟩ = some (sl (r + 1) k ws.length) := by
              rcases hv with ⟨_, rfl⟩ | ⟨h, _⟩
              · exact ks.cell 0
              · omega
            unfold sl at c0
            clear ks hv v
            have hlp : (0 : Int) < ((ws.length - k : Nat) : Int) := by omega
            go_upto_region 13 with fail
            clear c0 hlp
            go_wp2_with (fail)
            refine (next_any _ hbi.2.2.1 (by omega)).mono ?_
            rintro e w5 ⟨rfl, hs5, hx5⟩
            replace hbi := hbi.step hs5 hx5 hwr (by omega) (by omega)
            rw [hyd]
            clear hs5 hx5 hyd hy
            unfold sv
            go_wp2_with (fail)
            refine (styles_any (sc + 1) _).mono ?_
            rintro e w6 ⟨rfl, hst, hx6⟩
            have hhg : sc + 1 < w5.heap.size := hbi.2.2.2.lt
            replace hbi := hbi.ext hx6
            clear hx6
            generalize w5.heap.size = h at *
            obtain ⟨n, hn⟩ : ∃ n, n = aI (ws.getD (k + 1) []) := ⟨_, rfl⟩
            rw [← hn] at HRN
            replace hn : Hid (n = aI (ws.getD (k + 1) [])) := hn
            go_wp2
            go_loopw [49] (fun i wr => ∃ j : Nat, i = .int .i64 j ∧ j ≤ 5 ∧ BI w r (r + 1) sc (sc + 1) ws (if sidx y < j then k + 2 else k + 1) (if sidx y < j then setW y n b else b) wr ∧ Keep h (.cells #[.string ⟨#[112, 97, 100]⟩, .pointer (some ⟨sc + 1, 4, none⟩), .string ⟨#[103, 97, 112]⟩, .pointer (some ⟨sc + 1, 5, none⟩), .string ⟨#[103, 114, 111, 119]⟩, .pointer (some ⟨sc + 1, 6, none⟩), .string ⟨#[115, 104, 114, 105, 110, 107]⟩, .pointer (some ⟨sc + 1, 7, none⟩), .string ⟨#[106, 117, 115, 116, 105, 102, 121]⟩, .pointer (some ⟨sc + 1, 8, none⟩)] 84) wr) (fun i _ => 5 - (intOf i).toNat)
            case atStart => exact ⟨0, rfl, by omega, hbi, hst⟩
            case round =>
              clear hbi hst
              obtain ⟨j, rfl, hj, hbi, hst⟩ := hrel
              by_cases hj5 : j < 5
              · have hki : (j : Int) < 5 := by omega
                have hk0 : (0 : Int) ≤ (j : Int) := by omega
                have e0 : wr.cell? ⟨h, j * 2, none⟩ = some (.string ⟨(nmT j).toArray⟩) := by
                  rw [hst.cell (j * 2)]
                  have : j = 0 ∨ j = 1 ∨ j = 2 ∨ j = 3 ∨ j = 4 := by omega
                  rcases this with rfl | rfl | rfl | rfl | rfl <;> rfl
                have e1 : wr.cell? ⟨h, j * 2 + 1, none⟩ = some (.pointer (some ⟨sc + 1, 4 + j, none⟩)) := by
                  rw [hst.cell (j * 2 + 1)]
                  have : j = 0 ∨ j = 1 ∨ j = 2 ∨ j = 3 ∨ j = 4 := by omega
                  rcases this with rfl | rfl | rfl | rfl | rfl <;> rfl
                go_upto_region 17 with fail
                have kt := Keep.new wr (.cells #[.string ⟨(nmT j).toArray⟩, .pointer (some ⟨sc + 1, 4 + j, none⟩)] 84)
                have htg : sc + 1 < wr.heap.size := hbi.2.2.2.lt
                replace hbi := hbi.ext (Below.of_alloc wr (.cells #[.string ⟨(nmT j).toArray⟩, .pointer (some ⟨sc + 1, 4 + j, none⟩)] 84))
                replace hst := hst.alloc (.cells #[.string ⟨(nmT j).toArray⟩, .pointer (some ⟨sc + 1, 4 + j, none⟩)] 84)
                clear e0 e1
                generalize wr.alloc (.cells #[.string ⟨(nmT j).toArray⟩, .pointer (some ⟨sc + 1, 4 + j, none⟩)] 84) = W1 at *
                generalize wr.heap.size = t at *
                have t0 := kt.cell 0
                have t1 := kt.cell 1
                by_cases hyj : sidx y = j
                · have hym := sidx_lt hyj hj5
                  have hq : (nmT j == y) = true := beq_iff_eq.2 hym.symm
                  rw [if_neg (by omega), if_neg (by omega)] at hbi
                  have HB1 : Hid ((if sidx y < j + 1 then k + 2 else k + 1) = k + 2) := if_pos (by omega)
                  have HB2 : Hid ((if sidx y < j + 1 then setW y n b else b) = setW y n b) := if_pos (by omega)
                  have HSW := Lib.hid (setW_nm hj5 n b)
                  rw [← hym] at HSW
                  clear hyj hym
                  have hg4 : ∃ u, W1.cell? ⟨sc + 1, 4 + j, none⟩ = some u := by
                    rw [hbi.2.2.2.cell]
                    exact ⟨_, Array.getElem?_eq_getElem (by show 4 + j < 9; omega)⟩
                  go_upto_region 18 with fail
                  refine wp_region_held_drew (S := fun w' => Keep t (.cells #[.string ⟨(nmT j).toArray⟩, .pointer (some ⟨sc + 1, 4 + j, none⟩)] 84) w') (by kernel_rfl) kt (fun hS => ?_)
                  replace hbi := hbi.drew
                  have hst2 : Keep h (.cells #[.string ⟨#[112, 97, 100]⟩, .pointer (some ⟨sc + 1, 4, none⟩), .string ⟨#[103, 97, 112]⟩, .pointer (some ⟨sc + 1, 5, none⟩), .string ⟨#[103, 114, 111, 119]⟩, .pointer (some ⟨sc + 1, 6, none⟩), .string ⟨#[115, 104, 114, 105, 110, 107]⟩, .pointer (some ⟨sc + 1, 7, none⟩), .string ⟨#[106, 117, 115, 116, 105, 102, 121]⟩, .pointer (some ⟨sc + 1, 8, none⟩)] 84) W1.drew := hst
                  clear t0 t1 hst kt hg4
                  generalize W1.drew = wd at *
                  refine hTake (by kernel_rfl) (fun d _ _ _ _ h => by cases d <;> exact h) hS 0 (some 57) _ rfl (v := ?_) (by kernel_rfl) ?_ ?_
                  rotate_left
                  · intro _ _; go_simp; first | done | with_reducible rfl
                  simp only [Act.put, List.setIfInBounds_toArray, List.set_cons_zero, List.set_cons_succ]
                  refine hTake (by kernel_rfl) (fun d _ _ _ _ h => by cases d <;> exact h) hS 1 (some 58) _ rfl (v := ?_) (by kernel_rfl) ?_ ?_
                  rotate_left
                  · intro w9 hS9; have q := hS9.cell 1; go_simp; first | done | with_reducible rfl
                  simp only [Act.put, List.setIfInBounds_toArray, List.set_cons_zero, List.set_cons_succ]
                  refine hTake (by kernel_rfl) (fun d _ _ _ _ h => by cases d <;> exact h) hS 2 (some 59) _ rfl (v := ?_) (by kernel_rfl) ?_ ?_
                  rotate_left
                  · intro _ _; go_simp; first | done | with_reducible rfl
                  simp only [Act.put, List.setIfInBounds_toArray, List.set_cons_zero, List.set_cons_succ]
                  refine wpAnyH_ready (rs := [3]) (by kernel_rfl) (by simp) ?_
                  refine AllReadyH.cons (o := _) rfl (fun K9 hK9 => ?_) AllReadyH.nil
                  go_simp
                  refine (number_any w _ hbi.2.2.1 (by omega) (HGL.out (k + 1)) HLD.out rfl hbi.1 (by omega)).mono ?_
                  rintro e w7 ⟨rfl, hs7, hx7⟩
                  rw [← hn.out]
                  try go_wp2_with fail
                  replace hbi := hbi.step hs7 hx7 hwr (by omega) (by omega)
                  replace hst2 := keepR hst2 hx7 (by omega)
                  refine hK9.out _ _ (keepR hS hx7 (by omega)) (fun hS => ?_)
                  clear hK9 K9
                  try simp only [Act.put, List.setIfInBounds_toArray, List.set_cons_zero, List.set_cons_succ]
                  clear hx7 hs7
                  refine hTake (by kernel_rfl) (fun d _ _ _ _ h => by cases d <;> exact h) hS 4 (some 61) _ rfl (v := ?_) (by kernel_rfl) ?_ ?_
                  rotate_left
                  · intro _ _; go_simp; first | done | with_reducible rfl
                  simp only [Act.put, List.setIfInBounds_toArray, List.set_cons_zero, List.set_cons_succ]
                  have g4 : ∃ u, w7.cell? ⟨sc + 1, 4 + j, none⟩ = some u := by
                    rw [hbi.2.2.2.cell]
                    exact ⟨_, Array.getElem?_eq_getElem (by show 4 + j < 9; omega)⟩
                  obtain ⟨u4, g4⟩ := g4
                  have f4 := hbi.2.2.2.frozen (4 + j)
                  refine wpAnyH_ready (rs := [5]) (by kernel_rfl) (by simp) ?_
                  refine AllReadyH.cons (o := _) rfl (fun K9 hK9 => ?_) AllReadyH.nil
                  go_simp
                  replace hbi := hbi.set hwr (by omega) hw1 (by omega) (4 + j) (.int .i64 n) HSW.out
                  replace hst2 := hst2.setOther (p := ⟨sc + 1, 4 + j, none⟩) (by show h ≠ sc + 1; omega) (.int .i64 n)
                  refine hK9.out _ _ (hS.setOther (p := ⟨sc + 1, 4 + j, none⟩) (by show t ≠ sc + 1; omega) (.int .i64 n)) (fun hS => ?_)
                  clear hK9 K9
                  try simp only [Act.put, List.setIfInBounds_toArray, List.set_cons_zero, List.set_cons_succ]
                  refine wpAnyH_done (by kernel_rfl) ?_ _
                  clear hS
                  go_wp2
                  go_roundw
                  case rel => exact ⟨j + 1, by go_num, by omega, by rw [HB1.out, HB2.out]; exact hbi, hst2⟩
                  case measure => simp [intOf]; omega
                · have hq : (nmT j == y) = false := beq_eq_false_iff_ne.2 (fun e => hyj (by rw [← e]; exact sidx_nm hj5))
                  have HB1 := Lib.hid (sidx_if (k + 2) (k + 1) hyj)
                  have HB2 := Lib.hid (sidx_if (setW y n b) b hyj)
                  generalize (if sidx y < j then k + 2 else k + 1) = k2 at *
                  generalize (if sidx y < j then setW y n b else b) = b2 at *
                  clear hyj kt
                  go_wp2
                  go_roundw
                  case rel => exact ⟨j + 1, by go_num, by omega, by rw [HB1.out, HB2.out]; exact hbi, hst⟩
                  case measure => simp [intOf]; omega
              · obtain rfl : j = 5 := by omega
                rw [show ((5 : Nat) : Int) = 5 from rfl]
                have HR2 : Hid (runI (ws.drop (if sidx y < 5 then k + 2 else k + 1)) (if sidx y < 5 then setW y n b else b) = wordsI ws) := by
                  show _ = _
                  rw [← HRN.out]
                  split <;> rfl
                have hk2 : k < (if sidx y < 5 then k + 2 else k + 1) := by split <;> omega
                generalize (if sidx y < 5 then k + 2 else k + 1) = k2 at *
                generalize (if sidx y < 5 then setW y n b else b) = b2 at *
                have hs2 := hbi.2.2.1.len
                go_wp2
                go_roundw
                case rel => exact ⟨_, _, hbi, HR2.out⟩
                case measure => omega
          · have HE : Hid (b = wordsI ws) := by
              show _ = _
              rw [← hrun, runI_over (by omega)]
            have hke : (0 : Int) < ((0 : Nat) : Int) ↔ False := by simp
            obtain ⟨v, ks, hv⟩ := hbi.2.2.1.2.1
            obtain ⟨a0, c0, hc0⟩ : ∃ a c, wr.cell? ⟨sc, 0, none⟩ = some (.slice a 0 c) := by
              rcases hv with ⟨h, _⟩ | ⟨_, a, c, rfl⟩
              · omega
              · exact ⟨a, c, ks.cell 0⟩
            clear hke ks hv v
            clear hrun hsl
            rw [HE.out] at hbi
            obtain ⟨d0, d1, d2, d3, d4, d5, d6, d7, d8⟩ := hbi.c9
            have HT := Lib.hid (hbi.laid HLD.out).1
            generalize wordsI ws = B at *
            clear HE HF
            go_wp2_with (fail)
            refine (styled_any B _).mono ?_
            rintro e W8 ⟨rfl, hx8⟩
            replace hbi := hbi.ext hx8
            have HT8 := Lib.hid (HT.out.below hx8 (Nat.le_refl _))
            clear d0 d1 d2 d3 d4 d5 d6 d7 d8 hx8 hc0 HT
            obtain ⟨g0, g1, g2, g3, g4, g5, g6, g7, g8⟩ := hbi.r9
            obtain ⟨z0, z1, z2, z3, z4, z5, z6, z7, z8⟩ := hbi.z9
            cases hok : okB B with
            | false =>
              have HP : Hid (pB s = none) := by
                show _ = _
                rw [HPB.out, if_neg (fun e => by rw [hok] at e; cases e.1)]
              have HX : Hid (Below w.heap.size w (setBx W8 r 0 zb)) := hbi.1.trans (setBx_below _ _ hwr)
              clear hbi HPB hok
              go_wp2
              refine bodyPost_ret (v := resB (pB s)) ?_ rfl ⟨rfl, HX.out⟩
              rw [HP.out]
              simp [results, Tryz.results28, go_sem, resB, Bx.agg, zb, g0, g1, g2, g3, g4, g5, g6, g7, g8]
            | true =>
              obtain ⟨d0, d1, d2, d3, d4, d5, d6, d7, d8⟩ := hbi.c9
              go_wp2_with (fail)
              refine (text_any (b := B) _ hok HT8.out).mono ?_
              rintro e W9 ⟨rfl, hx9⟩
              unfold sv
              replace hbi := hbi.ext hx9
              clear d0 d1 d2 d3 d4 d5 d6 d7 d8 hx9 g0 g1 g2 g3 g4 g5 g6 g7 g8 z0 z1 z2 z3 z4 z5 z6 z7 z8
              obtain ⟨g0, g1, g2, g3, g4, g5, g6, g7, g8⟩ := hbi.r9
              obtain ⟨z0, z1, z2, z3, z4, z5, z6, z7, z8⟩ := hbi.z9
              by_cases hbt : boxT B = s
              · have HP : Hid (pB s = some B) := by
                  show _ = _
                  rw [HPB.out, if_pos ⟨hok, hbt⟩]
                obtain ⟨d0, d1, d2, d3, d4, d5, d6, d7, d8⟩ := hbi.c9
                have HX : Hid (Below w.heap.size w (setBx W9 r 0 B)) := hbi.1.trans (setBx_below _ _ hwr)
                have hqb : (boxT B == s) = true := beq_iff_eq.2 hbt
                generalize boxT B = T at *
                clear hbi HPB hok hbt
                go_wp2
                refine bodyPost_ret (v := resB (pB s)) ?_ rfl ⟨rfl, HX.out⟩
                rw [HP.out]
                simp [results, Tryz.results28, go_sem, resB, Bx.agg, zb, g0, g1, g2, g3, g4, g5, g6, g7, g8]
              · have HP : Hid (pB s = none) := by
                  show _ = _
                  rw [HPB.out, if_neg (fun e => hbt e.2)]
                have HX : Hid (Below w.heap.size w (setBx W9 r 0 zb)) := hbi.1.trans (setBx_below _ _ hwr)
                have hqb : (boxT B == s) = false := beq_eq_false_iff_ne.2 hbt
                generalize boxT B = T at *
                clear hbi HPB hok hbt
                go_wp2
                refine bodyPost_ret (v := resB (pB s)) ?_ rfl ⟨rfl, HX.out⟩
                rw [HP.out]
                simp [results, Tryz.results28, go_sem, resB, Bx.agg, zb, g0, g1, g2, g3, g4, g5, g6, g7, g8]
end Go.Proofs.YtdlggpphfkjidaaGreatDoor
