/-
  Reading texts back, of the reference: parseBox.
-/
import Derived.Test.YtdlggpphfkjidaaGreatDoorSPi
namespace Go.Proofs.YtdlggpphfkjidaaGreatDoor
open Go Go.RowKit

theorem splitB_len (c : UInt8) : ∀ s : List UInt8, ∀ x, x ∈ splitB c s → x.length ≤ s.length
  | [], x, h => by
    simp only [splitB, List.mem_singleton] at h
    subst h
    exact Nat.le_refl _
  | y :: t, x, h => by
    have ih := splitB_len c t
    unfold splitB at h
    rw [List.length_cons]
    split at h
    · rcases List.mem_cons.1 h with h | h
      · subst h
        exact Nat.zero_le _
      · have := ih x h
        omega
    · split at h
      · rw [List.mem_singleton] at h
        subst h
        rw [List.length_singleton]
        omega
      · rename_i hd r he
        rcases List.mem_cons.1 h with h | h
        · subst h
          have := ih hd (by rw [he]; exact List.mem_cons_self)
          rw [List.length_cons]
          omega
        · have := ih x (by rw [he]; exact List.mem_cons_of_mem _ h)
          omega
theorem splitB_count (c : UInt8) : ∀ s : List UInt8, (splitB c s).length ≤ s.length + 1
  | [] => Nat.le_refl _
  | y :: t => by
    have ih := splitB_count c t
    unfold splitB
    split
    · rw [List.length_cons, List.length_cons]
      omega
    · split
      · simp
      · rename_i he
        rw [he] at ih
        simp only [List.length_cons] at ih ⊢
        omega
/-- a box and whether there is one, as a value -/
def resB : Option Bx → Value
  | some b => .tuple #[b.agg, .bool true]
  | none => .tuple #[zb.agg, .bool false]
/-- the result's block, the block of the box that is read, the words -/
def PS (w : World) (r g : Nat) (vw : Value) (L : List Value) (b : Bx) (w' : World) : Prop :=
  Below w.heap.size w w' ∧ Keep r (.cells zb.arr 39) w' ∧ Keep g (.cells b.arr 39) w' ∧ Own w' (g + 1) 1 vw L
theorem PS.ext {w w1 w2 : World} {r g : Nat} {vw : Value} {L : List Value} {b : Bx} (h : PS w r g vw L b w1) (hx : Ext w1 w2) : PS w r g vw L b w2 :=
  ⟨after h.1 hx (Nat.le_refl _), keepE h.2.1 hx, keepE h.2.2.1 hx, h.2.2.2.below hx (Nat.le_refl _)⟩
theorem PS.set {w w1 : World} {r g : Nat} {vw : Value} {L : List Value} {b b' : Bx} (h : PS w r g vw L b w1) (hr : w.heap.size ≤ r) (hg : r < g) (o : Nat) (u : Value) (hb : b.arr.setIfInBounds o u = b'.arr) : PS w r g vw L b' (w1.setCell ⟨g, o, none⟩ u) := by
  refine ⟨h.1.setCell (p := ⟨g, o, none⟩) (by show w.heap.size ≤ g; omega) u, h.2.1.setOther (p := ⟨g, o, none⟩) (by show r ≠ g; omega) u, ?_, h.2.2.2.setBelow (p := ⟨g, o, none⟩) (by show g < g + 1; omega) u⟩
  have := h.2.2.1.store o u
  rw [hb] at this
  exact this
theorem PS.drew {w w1 : World} {r g : Nat} {vw : Value} {L : List Value} {b : Bx} (h : PS w r g vw L b w1) : PS w r g vw L b w1.drew := ⟨h.1.drew, h.2.1, h.2.2.1, h.2.2.2.drew⟩
theorem PS.cell {w w1 : World} {r g : Nat} {vw : Value} {L : List Value} {b : Bx} (h : PS w r g vw L b w1) (o : Nat) : w1.cell? ⟨g, o, none⟩ = b.arr[o]? := h.2.2.1.cell o
theorem PS.frozen {w w1 : World} {r g : Nat} {vw : Value} {L : List Value} {b : Bx} (h : PS w r g vw L b w1) (o : Nat) : w1.frozen? ⟨g, o, none⟩ = false := h.2.2.1.frozen o
theorem PS.word {w w1 : World} {r g q off n c : Nat} {l : List (List UInt8)} {b : Bx} (h : PS w r g (.slice (some ⟨q, off, none⟩) n c) (Ss l) b w1) {k : Nat} {x : List UInt8} (hk : l[k]? = some x) : w1.cell? ⟨q, off + k, none⟩ = some (.string ⟨x.toArray⟩) := by
  obtain ⟨a2, c2, e, _, _, hx⟩ := h.2.2.2.rd.strs
  cases e
  obtain ⟨b, off, hb, hj⟩ := hx k x hk
  cases hb
  exact hj k x hk
theorem PS.c9 {w w1 : World} {r g : Nat} {vw : Value} {L : List Value} {b : Bx} (h : PS w r g vw L b w1) : w1.cell? ⟨g, 0, none⟩ = some (.int .i64 b.parent) ∧ w1.cell? ⟨g, 1, none⟩ = some (.int .i64 b.kind) ∧ w1.cell? ⟨g, 2, none⟩ = some (.int .i64 b.w) ∧ w1.cell? ⟨g, 3, none⟩ = some (.int .i64 b.h) ∧ w1.cell? ⟨g, 4, none⟩ = some (.int .i64 b.pad) ∧ w1.cell? ⟨g, 5, none⟩ = some (.int .i64 b.gap) ∧ w1.cell? ⟨g, 6, none⟩ = some (.int .i64 b.grow) ∧ w1.cell? ⟨g, 7, none⟩ = some (.int .i64 b.shrink) ∧ w1.cell? ⟨g, 8, none⟩ = some (.int .i64 b.justify) :=
  ⟨h.cell 0, h.cell 1, h.cell 2, h.cell 3, h.cell 4, h.cell 5, h.cell 6, h.cell 7, h.cell 8⟩
theorem PS.r9 {w w1 : World} {r g : Nat} {vw : Value} {L : List Value} {b : Bx} (h : PS w r g vw L b w1) : w1.cell? ⟨r, 0, none⟩ = some (.int .i64 zb.parent) ∧ w1.cell? ⟨r, 1, none⟩ = some (.int .i64 zb.kind) ∧ w1.cell? ⟨r, 2, none⟩ = some (.int .i64 zb.w) ∧ w1.cell? ⟨r, 3, none⟩ = some (.int .i64 zb.h) ∧ w1.cell? ⟨r, 4, none⟩ = some (.int .i64 zb.pad) ∧ w1.cell? ⟨r, 5, none⟩ = some (.int .i64 zb.gap) ∧ w1.cell? ⟨r, 6, none⟩ = some (.int .i64 zb.grow) ∧ w1.cell? ⟨r, 7, none⟩ = some (.int .i64 zb.shrink) ∧ w1.cell? ⟨r, 8, none⟩ = some (.int .i64 zb.justify) :=
  have k := h.2.1
  ⟨k.cell 0, k.cell 1, k.cell 2, k.cell 3, k.cell 4, k.cell 5, k.cell 6, k.cell 7, k.cell 8⟩
theorem PS.z9 {w w1 : World} {r g : Nat} {vw : Value} {L : List Value} {b : Bx} (h : PS w r g vw L b w1) : w1.frozen? ⟨r, 0, none⟩ = false ∧ w1.frozen? ⟨r, 1, none⟩ = false ∧ w1.frozen? ⟨r, 2, none⟩ = false ∧ w1.frozen? ⟨r, 3, none⟩ = false ∧ w1.frozen? ⟨r, 4, none⟩ = false ∧ w1.frozen? ⟨r, 5, none⟩ = false ∧ w1.frozen? ⟨r, 6, none⟩ = false ∧ w1.frozen? ⟨r, 7, none⟩ = false ∧ w1.frozen? ⟨r, 8, none⟩ = false :=
  have k := h.2.1
  ⟨k.frozen 0, k.frozen 1, k.frozen 2, k.frozen 3, k.frozen 4, k.frozen 5, k.frozen 6, k.frozen 7, k.frozen 8⟩
/-- a word that is read -/
theorem word_cell {w : World} {base : Nat} {v : Value} {l : List (List UInt8)} (h : Own w base 1 v (Ss l)) {a : Option Addr} {n c : Nat} (hv : v = .slice a n c) {k : Nat} {x : List UInt8} (hk : l[k]? = some x) : ∃ b off, a = some ⟨b, off, none⟩ ∧ w.cell? ⟨b, off + k, none⟩ = some (sv x) := by
  obtain ⟨a2, c2, rfl, _, _, hx⟩ := h.rd.strs
  cases hv
  obtain ⟨b, off, hb, hj⟩ := hx k x hk
  exact ⟨b, off, hb, hj k x hk⟩

set_option maxRecDepth 100000 in
set_option maxHeartbeats 1600000 in
theorem sparseBox_any (s : List UInt8) (w : World) (hs : s.length ≤ 2000000) :
    Calls Tryz.prog 31 #[sv s] w fun e w' => e = .returned (resB (pB s)) ∧ Ext w w' := by
  have k0 := (Keep.new w (.cells zb.arr 39)).alloc (.cells (⟨0, -1, 0, 0, 0, 0, 0, 0, 0⟩ : Bx).arr 39)
  have k1 := Keep.new (w.alloc (.cells zb.arr 39)) (.cells (⟨0, -1, 0, 0, 0, 0, 0, 0, 0⟩ : Bx).arr 39)
  have b0 := (Below.of_alloc w (.cells zb.arr 39)).alloc (Below.of_alloc w (.cells zb.arr 39)).size (.cells (⟨0, -1, 0, 0, 0, 0, 0, 0, 0⟩ : Bx).arr 39)
  rw [World.size_alloc] at k1
  unfold sv
  go_enter Tryz.func31, Tryz.ntmps31
  go_wp2_with (fail)
  change Calls _ _ _ ((w.alloc (.cells zb.arr 39)).alloc (.cells (⟨0, -1, 0, 0, 0, 0, 0, 0, 0⟩ : Bx).arr 39)) _
  generalize (w.alloc (.cells zb.arr 39)).alloc (.cells (⟨0, -1, 0, 0, 0, 0, 0, 0, 0⟩ : Bx).arr 39) = W0 at *
  obtain ⟨r, hr⟩ : ∃ r, w.heap.size = r := ⟨_, rfl⟩
  refine (splitAt_any s 32 W0 hs).mono ?_
  rintro e w1 ⟨v1, rfl, ho1, hx1⟩
  have hgw := k1.lt
  have hps : PS w r (r + 1) v1 (Ss (splitB 32 s)) ⟨0, -1, 0, 0, 0, 0, 0, 0, 0⟩ w1 := by
    rw [← hr]
    exact ⟨after b0 hx1 (Nat.le_refl _), keepE k0 hx1, keepE k1 hx1, ho1.weak (by omega)⟩
  rw [hr]
  clear k0 k1 b0 ho1 hx1 hgw
  have HSM := Lib.hid (splitB_len 32 s)
  have hcnt := splitB_count 32 s
  have hwne := splitB_ne 32 s
  have HPB : Hid (pB s = if okB (wordsB (splitB 32 s)) = true ∧ boxT (wordsB (splitB 32 s)) = s then some (wordsB (splitB 32 s)) else none) := rfl
  generalize splitB 32 s = ws at *
  obtain ⟨x, hx0, hxh⟩ : ∃ x, ws[0]? = some x ∧ ws.headD [] = x := by
    cases ws with
    | nil => exact absurd rfl hwne
    | cons x t => exact ⟨x, rfl, rfl⟩
  have hpos : 0 < ws.length := List.length_pos_iff.2 hwne
  obtain ⟨a, c, rfl, hnc, hcm, hce⟩ := hps.2.2.2.rd.strs
  obtain ⟨bW, off, rfl, _⟩ := hce 0 x hx0
  unfold maxLen at hcm
  clear hce
  have hgl := hps.2.2.1.lt
  go_upto_region 4 with fail
  have kq := Keep.new w1 (.cells #[.string ⟨#[108, 101, 97, 102]⟩, .string ⟨#[98, 108, 111, 99, 107]⟩, .string ⟨#[114, 111, 119]⟩, .string ⟨#[99, 111, 108, 117, 109, 110]⟩] 9)
  replace hps := hps.ext (Below.of_alloc w1 (.cells #[.string ⟨#[108, 101, 97, 102]⟩, .string ⟨#[98, 108, 111, 99, 107]⟩, .string ⟨#[114, 111, 119]⟩, .string ⟨#[99, 111, 108, 117, 109, 110]⟩] 9))
  generalize w1.alloc (.cells #[.string ⟨#[108, 101, 97, 102]⟩, .string ⟨#[98, 108, 111, 99, 107]⟩, .string ⟨#[114, 111, 119]⟩, .string ⟨#[99, 111, 108, 117, 109, 110]⟩] 9) = W2 at *
  generalize w1.heap.size = q at *
  have hwr : w.heap.size ≤ r := by omega
  clear hr
  go_wp2
  go_loopw [7] (fun i wr => ∃ k : Nat, i = .int .i64 k ∧ k ≤ 4 ∧ PS w r (r + 1) (.slice (some ⟨bW, off, none⟩) ws.length c) (Ss ws) ⟨0, kTo x k, 0, 0, 0, 0, 0, 0, 0⟩ wr ∧ Keep q (.cells #[.string ⟨#[108, 101, 97, 102]⟩, .string ⟨#[98, 108, 111, 99, 107]⟩, .string ⟨#[114, 111, 119]⟩, .string ⟨#[99, 111, 108, 117, 109, 110]⟩] 9) wr) (fun i _ => 4 - (intOf i).toNat)
  case atStart => exact ⟨0, rfl, by omega, hps, kq⟩
  case round =>
    obtain ⟨k, rfl, hk, hps, kq⟩ := hrel
    by_cases hlt : k < 4
    · have hki : (k : Int) < 4 := by omega
      have hk0 : (0 : Int) ≤ (k : Int) := by omega
      have cw : wr.cell? ⟨bW, off, none⟩ = some (.string ⟨x.toArray⟩) := hps.word hx0
      have ck : wr.cell? ⟨q, k, none⟩ = some (.string ⟨(kindT (k : Int)).toArray⟩) := by
        rw [kq.cell k]
        have : k = 0 ∨ k = 1 ∨ k = 2 ∨ k = 3 := by omega
        rcases this with rfl | rfl | rfl | rfl <;> rfl
      by_cases hxk : x = kindT (k : Int)
      · have HK : Hid (kTo x (k + 1) = (k : Int)) := by
          show _ = _
          unfold kTo
          rw [if_pos hxk]
        rw [← hxk] at ck
        have d1 := hps.cell 1
        have f1 := hps.frozen 1
        have hps2 := hps.set hwr (Nat.lt_succ_self r) 1 (.int .i64 (k : Int)) (b' := ⟨0, k, 0, 0, 0, 0, 0, 0, 0⟩) rfl
        have kq2 := kq.setOther (p := ⟨r + 1, 1, none⟩) (by show q ≠ r + 1; omega) (.int .i64 (k : Int))
        replace d1 : wr.cell? ⟨r + 1, 1, none⟩ = some (.int .i64 (kTo x k)) := d1
        clear hps kq hxk
        go_wp2
        go_region
        go_wp2
        go_roundw
        case rel => exact ⟨k + 1, by go_num, by omega, by rw [HK.out]; exact hps2.drew, kq2⟩
        case measure => simp [intOf]; omega
      · have HK : Hid (kTo x (k + 1) = kTo x k) := by
          show _ = _
          conv => lhs; unfold kTo
          rw [if_neg hxk]
        have hq : (x == kindT (k : Int)) = false := beq_eq_false_iff_ne.2 hxk
        generalize kindT (k : Int) = kk at *
        clear hxk
        go_wp2
        go_region
        go_wp2
        go_roundw
        case rel => exact ⟨k + 1, by go_num, by omega, by rw [HK.out]; exact hps.drew, kq⟩
        case measure => simp [intOf]; omega
    · obtain rfl : k = 4 := by omega
      clear kq hlt hk
      rw [show ((4 : Nat) : Int) = 4 from rfl]
      have hkk := kTo_le x 4
      have d1 : wr.cell? ⟨r + 1, 1, none⟩ = some (.int .i64 (kTo x 4)) := hps.cell 1
      by_cases h0 : kTo x 4 = 0
      · rw [h0] at d1
        by_cases h2 : 2 < ws.length
        · obtain ⟨y1, hy1⟩ : ∃ y, ws[1]? = some y := ⟨_, List.getElem?_eq_getElem (by omega)⟩
          obtain ⟨y2, hy2⟩ : ∃ y, ws[2]? = some y := ⟨_, List.getElem?_eq_getElem h2⟩
          have HF : Hid (runW (ws.drop 3) ⟨0, 0, prI y1, prI y2, 0, 0, 0, 0, 0⟩ = wordsB ws) := by
            show _ = _
            unfold wordsB restOf headW
            rw [hxh, if_pos ⟨h0, h2⟩, if_pos ⟨h0, h2⟩]
            simp only [List.getD, hy1, hy2, Option.getD_some]
          have hi2 : (2 : Int) < ws.length := by omega
          rw [h0] at hps
          have c1 := hps.word hy1
          have l1 := HSM.out y1 (List.mem_of_getElem? hy1)
          have l2 := HSM.out y2 (List.mem_of_getElem? hy2)
          go_wp2_with (fail)
          refine (sparseInt_any y1 _ (by omega)).mono ?_
          rintro e W3 ⟨rfl, hx3⟩
          replace hps := hps.ext hx3
          clear d1 hx3 c1
          have d2 : W3.cell? ⟨r + 1, 2, none⟩ = some (.int .i64 0) := hps.cell 2
          have f2 := hps.frozen 2
          replace hps := hps.set hwr (Nat.lt_succ_self r) 2 (.int .i64 (prI y1)) (b' := ⟨0, 0, prI y1, 0, 0, 0, 0, 0, 0⟩) rfl
          have c2 := hps.word hy2
          go_wp2_with (fail)
          refine (sparseInt_any y2 _ (by omega)).mono ?_
          rintro e W4 ⟨rfl, hx4⟩
          replace hps := hps.ext hx4
          clear d2 f2 hx4 c2
          have d3 : W4.cell? ⟨r + 1, 3, none⟩ = some (.int .i64 0) := hps.cell 3
          have f3 := hps.frozen 3
          replace hps := hps.set hwr (Nat.lt_succ_self r) 3 (.int .i64 (prI y2)) (b' := ⟨0, 0, prI y1, prI y2, 0, 0, 0, 0, 0⟩) rfl
          go_upto_region 14 with fail
          clear d3 f3
          generalize W4.setCell ⟨r + 1, 3, none⟩ (.int .i64 (prI y2)) = W5 at *
          go_wp2
          go_loopw [8] (fun i wr => ∃ (at_ : Nat) (b : Bx), i = .int .i64 at_ ∧ at_ ≤ ws.length + 1 ∧ PS w r (r + 1) (.slice (some ⟨bW, off, none⟩) ws.length c) (Ss ws) b wr ∧ runW (ws.drop at_) b = wordsB ws) (fun i _ => ws.length + 3 - (intOf i).toNat)
          case atStart => exact ⟨3, _, rfl, by omega, hps, HF.out⟩
          case round =>
            obtain ⟨at_, b, rfl, hat, hps, hrun⟩ := hrel
            by_cases hlt : at_ + 1 < ws.length
            · have hki : (at_ : Int) + 1 < ws.length := by omega
              have hk0 : (0 : Int) ≤ (at_ : Int) := by omega
              obtain ⟨x, hxa⟩ : ∃ x, ws[at_]? = some x := ⟨_, List.getElem?_eq_getElem (by omega)⟩
              obtain ⟨y, hya⟩ : ∃ y, ws[at_ + 1]? = some y := ⟨_, List.getElem?_eq_getElem hlt⟩
              have HR : Hid (runW (ws.drop (at_ + 2)) (setW x (prI y) b) = wordsB ws) := by
                show _ = _
                rw [← hrun]
                obtain ⟨h1, rfl⟩ := List.getElem?_eq_some_iff.1 hxa
                obtain ⟨h2, rfl⟩ := List.getElem?_eq_some_iff.1 hya
                rw [List.drop_eq_getElem_cons h1, List.drop_eq_getElem_cons h2]
                rfl
              have cx := hps.word hxa
              have cy := hps.word hya
              have hyl := HSM.out y (List.mem_of_getElem? hya)
              clear hrun
              go_upto_region 15 with fail
              go_wp2_with (fail)
              refine (sparseInt_any y _ (by omega)).mono ?_
              rintro e W7 ⟨rfl, hx7⟩
              replace hps := hps.ext hx7
              replace cx := hps.word hxa
              clear hx7 cy hyl hxa hya
              go_upto_region 17 with fail
              clear cx
              by_cases n0 : x = padT
              · have HW : Hid (setW x (prI y) b = { b with pad := prI y }) := by
                  show _ = _
                  unfold setW
                  rw [if_pos n0]
                rw [HW.out] at HR
                have d : W7.cell? ⟨r + 1, 4, none⟩ = some (.int .i64 b.pad) := hps.cell 4
                have z := hps.frozen 4
                have q0 : (x == [112, 97, 100]) = true := beq_iff_eq.2 n0
                replace hps := hps.set hwr (Nat.lt_succ_self r) 4 (.int .i64 (prI y)) (b' := { b with pad := prI y }) rfl
                clear n0 HW
                go_wp2
                go_roundw
                case rel => exact ⟨at_ + 2, _, by go_num, by omega, hps, HR.out⟩
                case measure => simp [intOf]; omega
              · have q0 : (x == [112, 97, 100]) = false := beq_eq_false_iff_ne.2 n0
                by_cases n1 : x = gapT
                · have HW : Hid (setW x (prI y) b = { b with gap := prI y }) := by
                    show _ = _
                    unfold setW
                    rw [if_neg n0, if_pos n1]
                  rw [HW.out] at HR
                  have d : W7.cell? ⟨r + 1, 5, none⟩ = some (.int .i64 b.gap) := hps.cell 5
                  have z := hps.frozen 5
                  have q1 : (x == [103, 97, 112]) = true := beq_iff_eq.2 n1
                  replace hps := hps.set hwr (Nat.lt_succ_self r) 5 (.int .i64 (prI y)) (b' := { b with gap := prI y }) rfl
                  clear n0 n1 HW
                  go_wp2
                  go_roundw
                  case rel => exact ⟨at_ + 2, _, by go_num, by omega, hps, HR.out⟩
                  case measure => simp [intOf]; omega
                · have q1 : (x == [103, 97, 112]) = false := beq_eq_false_iff_ne.2 n1
                  by_cases n2 : x = growT
                  · have HW : Hid (setW x (prI y) b = { b with grow := prI y }) := by
                      show _ = _
                      unfold setW
                      rw [if_neg n0, if_neg n1, if_pos n2]
                    rw [HW.out] at HR
                    have d : W7.cell? ⟨r + 1, 6, none⟩ = some (.int .i64 b.grow) := hps.cell 6
                    have z := hps.frozen 6
                    have q2 : (x == [103, 114, 111, 119]) = true := beq_iff_eq.2 n2
                    replace hps := hps.set hwr (Nat.lt_succ_self r) 6 (.int .i64 (prI y)) (b' := { b with grow := prI y }) rfl
                    clear n0 n1 n2 HW
                    go_wp2
                    go_roundw
                    case rel => exact ⟨at_ + 2, _, by go_num, by omega, hps, HR.out⟩
                    case measure => simp [intOf]; omega
                  · have q2 : (x == [103, 114, 111, 119]) = false := beq_eq_false_iff_ne.2 n2
                    by_cases n3 : x = shrinkT
                    · have HW : Hid (setW x (prI y) b = { b with shrink := prI y }) := by
                        show _ = _
                        unfold setW
                        rw [if_neg n0, if_neg n1, if_neg n2, if_pos n3]
                      rw [HW.out] at HR
                      have d : W7.cell? ⟨r + 1, 7, none⟩ = some (.int .i64 b.shrink) := hps.cell 7
                      have z := hps.frozen 7
                      have q3 : (x == [115, 104, 114, 105, 110, 107]) = true := beq_iff_eq.2 n3
                      replace hps := hps.set hwr (Nat.lt_succ_self r) 7 (.int .i64 (prI y)) (b' := { b with shrink := prI y }) rfl
                      clear n0 n1 n2 n3 HW
                      go_wp2
                      go_roundw
                      case rel => exact ⟨at_ + 2, _, by go_num, by omega, hps, HR.out⟩
                      case measure => simp [intOf]; omega
                    · have q3 : (x == [115, 104, 114, 105, 110, 107]) = false := beq_eq_false_iff_ne.2 n3
                      by_cases n4 : x = justifyT
                      · have HW : Hid (setW x (prI y) b = { b with justify := prI y }) := by
                          show _ = _
                          unfold setW
                          rw [if_neg n0, if_neg n1, if_neg n2, if_neg n3, if_pos n4]
                        rw [HW.out] at HR
                        have d : W7.cell? ⟨r + 1, 8, none⟩ = some (.int .i64 b.justify) := hps.cell 8
                        have z := hps.frozen 8
                        have q4 : (x == [106, 117, 115, 116, 105, 102, 121]) = true := beq_iff_eq.2 n4
                        replace hps := hps.set hwr (Nat.lt_succ_self r) 8 (.int .i64 (prI y)) (b' := { b with justify := prI y }) rfl
                        clear n0 n1 n2 n3 n4 HW
                        go_wp2
                        go_roundw
                        case rel => exact ⟨at_ + 2, _, by go_num, by omega, hps, HR.out⟩
                        case measure => simp [intOf]; omega
                      · have q4 : (x == [106, 117, 115, 116, 105, 102, 121]) = false := beq_eq_false_iff_ne.2 n4
                        have HW : Hid (setW x (prI y) b = b) := by
                          show _ = _
                          unfold setW
                          rw [if_neg n0, if_neg n1, if_neg n2, if_neg n3, if_neg n4]
                        rw [HW.out] at HR
                        clear n0 n1 n2 n3 n4 HW
                        go_wp2
                        go_roundw
                        case rel => exact ⟨at_ + 2, b, by go_num, by omega, hps, HR.out⟩
                        case measure => simp [intOf]; omega
            · have HE : Hid (b = wordsB ws) := by
                show _ = _
                rw [← hrun, runW_short (by rw [List.length_drop]; omega)]
              have hps2 := hps
              have hke : ¬ (at_ : Int) + 1 < ws.length := by omega
              clear hrun hps
              rw [HE.out] at hps2
              obtain ⟨d0, d1, d2, d3, d4, d5, d6, d7, d8⟩ := hps2.c9
              generalize wordsB ws = B at *
              clear HE HF
              go_wp2_with (fail)
              refine (validBox_any B _).mono ?_
              rintro e W8 ⟨he, hx8⟩
              replace hps2 := hps2.ext hx8
              clear d0 d1 d2 d3 d4 d5 d6 d7 d8 hx8
              obtain ⟨g0, g1, g2, g3, g4, g5, g6, g7, g8⟩ := hps2.r9
              obtain ⟨z0, z1, z2, z3, z4, z5, z6, z7, z8⟩ := hps2.z9
              cases hok : okB B with
              | false =>
                rw [hok] at he
                subst he
                have HP : Hid (pB s = none) := by
                  show _ = _
                  rw [HPB.out, if_neg (fun e => by rw [hok] at e; cases e.1)]
                have HX : Hid (Below w.heap.size w (setBx W8 r 0 zb)) := hps2.1.trans (setBx_below _ _ hwr)
                clear hps2 HPB hok
                go_wp2
                refine bodyPost_ret (v := resB (pB s)) ?_ rfl ⟨rfl, HX.out⟩
                rw [HP.out]
                simp [results, Tryz.results31, go_sem, resB, Bx.agg, zb, g0, g1, g2, g3, g4, g5, g6, g7, g8]
              | true =>
                rw [hok] at he
                subst he
                obtain ⟨d0, d1, d2, d3, d4, d5, d6, d7, d8⟩ := hps2.c9
                go_wp2_with (fail)
                refine (sboxText_any (b := B) _ hok).mono ?_
                rintro e W9 ⟨rfl, hx9⟩
                unfold sv
                replace hps2 := hps2.ext hx9
                clear d0 d1 d2 d3 d4 d5 d6 d7 d8 hx9 g0 g1 g2 g3 g4 g5 g6 g7 g8 z0 z1 z2 z3 z4 z5 z6 z7 z8
                obtain ⟨g0, g1, g2, g3, g4, g5, g6, g7, g8⟩ := hps2.r9
                obtain ⟨z0, z1, z2, z3, z4, z5, z6, z7, z8⟩ := hps2.z9
                by_cases hbt : boxT B = s
                · have HP : Hid (pB s = some B) := by
                    show _ = _
                    rw [HPB.out, if_pos ⟨hok, hbt⟩]
                  obtain ⟨d0, d1, d2, d3, d4, d5, d6, d7, d8⟩ := hps2.c9
                  have HX : Hid (Below w.heap.size w (setBx W9 r 0 B)) := hps2.1.trans (setBx_below _ _ hwr)
                  have hq : (boxT B == s) = true := beq_iff_eq.2 hbt
                  generalize boxT B = T at *
                  clear hps2 HPB hok hbt
                  go_wp2
                  refine bodyPost_ret (v := resB (pB s)) ?_ rfl ⟨rfl, HX.out⟩
                  rw [HP.out]
                  simp [results, Tryz.results31, go_sem, resB, Bx.agg, zb, g0, g1, g2, g3, g4, g5, g6, g7, g8]
                · have HP : Hid (pB s = none) := by
                    show _ = _
                    rw [HPB.out, if_neg (fun e => hbt e.2)]
                  have HX : Hid (Below w.heap.size w (setBx W9 r 0 zb)) := hps2.1.trans (setBx_below _ _ hwr)
                  have hq : (boxT B == s) = false := beq_eq_false_iff_ne.2 hbt
                  generalize boxT B = T at *
                  clear hps2 HPB hok hbt
                  go_wp2
                  refine bodyPost_ret (v := resB (pB s)) ?_ rfl ⟨rfl, HX.out⟩
                  rw [HP.out]
                  simp [results, Tryz.results31, go_sem, resB, Bx.agg, zb, g0, g1, g2, g3, g4, g5, g6, g7, g8]
        · have HF : Hid (runW (ws.drop 1) ⟨0, kTo x 4, 0, 0, 0, 0, 0, 0, 0⟩ = wordsB ws) := by
            show _ = _
            unfold wordsB restOf headW
            rw [hxh, if_neg (fun e => h2 e.2), if_neg (fun e => h2 e.2)]
          have hi2 : ¬ (2 : Int) < ws.length := by omega
          go_wp2
          go_upto_region 14 with fail
          clear d1
          go_wp2
          go_loopw [8] (fun i wr => ∃ (at_ : Nat) (b : Bx), i = .int .i64 at_ ∧ at_ ≤ ws.length + 1 ∧ PS w r (r + 1) (.slice (some ⟨bW, off, none⟩) ws.length c) (Ss ws) b wr ∧ runW (ws.drop at_) b = wordsB ws) (fun i _ => ws.length + 3 - (intOf i).toNat)
          case atStart => exact ⟨1, _, rfl, by omega, hps, HF.out⟩
          case round =>
            obtain ⟨at_, b, rfl, hat, hps, hrun⟩ := hrel
            by_cases hlt : at_ + 1 < ws.length
            · have hki : (at_ : Int) + 1 < ws.length := by omega
              have hk0 : (0 : Int) ≤ (at_ : Int) := by omega
              obtain ⟨x, hxa⟩ : ∃ x, ws[at_]? = some x := ⟨_, List.getElem?_eq_getElem (by omega)⟩
              obtain ⟨y, hya⟩ : ∃ y, ws[at_ + 1]? = some y := ⟨_, List.getElem?_eq_getElem hlt⟩
              have HR : Hid (runW (ws.drop (at_ + 2)) (setW x (prI y) b) = wordsB ws) := by
                show _ = _
                rw [← hrun]
                obtain ⟨h1, rfl⟩ := List.getElem?_eq_some_iff.1 hxa
                obtain ⟨h2, rfl⟩ := List.getElem?_eq_some_iff.1 hya
                rw [List.drop_eq_getElem_cons h1, List.drop_eq_getElem_cons h2]
                rfl
              have cx := hps.word hxa
              have cy := hps.word hya
              have hyl := HSM.out y (List.mem_of_getElem? hya)
              clear hrun
              go_upto_region 15 with fail
              go_wp2_with (fail)
              refine (sparseInt_any y _ (by omega)).mono ?_
              rintro e W7 ⟨rfl, hx7⟩
              replace hps := hps.ext hx7
              replace cx := hps.word hxa
              clear hx7 cy hyl hxa hya
              go_upto_region 17 with fail
              clear cx
              by_cases n0 : x = padT
              · have HW : Hid (setW x (prI y) b = { b with pad := prI y }) := by
                  show _ = _
                  unfold setW
                  rw [if_pos n0]
                rw [HW.out] at HR
                have d : W7.cell? ⟨r + 1, 4, none⟩ = some (.int .i64 b.pad) := hps.cell 4
                have z := hps.frozen 4
                have q0 : (x == [112, 97, 100]) = true := beq_iff_eq.2 n0
                replace hps := hps.set hwr (Nat.lt_succ_self r) 4 (.int .i64 (prI y)) (b' := { b with pad := prI y }) rfl
                clear n0 HW
                go_wp2
                go_roundw
                case rel => exact ⟨at_ + 2, _, by go_num, by omega, hps, HR.out⟩
                case measure => simp [intOf]; omega
              · have q0 : (x == [112, 97, 100]) = false := beq_eq_false_iff_ne.2 n0
                by_cases n1 : x = gapT
                · have HW : Hid (setW x (prI y) b = { b with gap := prI y }) := by
                    show _ = _
                    unfold setW
                    rw [if_neg n0, if_pos n1]
                  rw [HW.out] at HR
                  have d : W7.cell? ⟨r + 1, 5, none⟩ = some (.int .i64 b.gap) := hps.cell 5
                  have z := hps.frozen 5
                  have q1 : (x == [103, 97, 112]) = true := beq_iff_eq.2 n1
                  replace hps := hps.set hwr (Nat.lt_succ_self r) 5 (.int .i64 (prI y)) (b' := { b with gap := prI y }) rfl
                  clear n0 n1 HW
                  go_wp2
                  go_roundw
                  case rel => exact ⟨at_ + 2, _, by go_num, by omega, hps, HR.out⟩
                  case measure => simp [intOf]; omega
                · have q1 : (x == [103, 97, 112]) = false := beq_eq_false_iff_ne.2 n1
                  by_cases n2 : x = growT
                  · have HW : Hid (setW x (prI y) b = { b with grow := prI y }) := by
                      show _ = _
                      unfold setW
                      rw [if_neg n0, if_neg n1, if_pos n2]
                    rw [HW.out] at HR
                    have d : W7.cell? ⟨r + 1, 6, none⟩ = some (.int .i64 b.grow) := hps.cell 6
                    have z := hps.frozen 6
                    have q2 : (x == [103, 114, 111, 119]) = true := beq_iff_eq.2 n2
                    replace hps := hps.set hwr (Nat.lt_succ_self r) 6 (.int .i64 (prI y)) (b' := { b with grow := prI y }) rfl
                    clear n0 n1 n2 HW
                    go_wp2
                    go_roundw
                    case rel => exact ⟨at_ + 2, _, by go_num, by omega, hps, HR.out⟩
                    case measure => simp [intOf]; omega
                  · have q2 : (x == [103, 114, 111, 119]) = false := beq_eq_false_iff_ne.2 n2
                    by_cases n3 : x = shrinkT
                    · have HW : Hid (setW x (prI y) b = { b with shrink := prI y }) := by
                        show _ = _
                        unfold setW
                        rw [if_neg n0, if_neg n1, if_neg n2, if_pos n3]
                      rw [HW.out] at HR
                      have d : W7.cell? ⟨r + 1, 7, none⟩ = some (.int .i64 b.shrink) := hps.cell 7
                      have z := hps.frozen 7
                      have q3 : (x == [115, 104, 114, 105, 110, 107]) = true := beq_iff_eq.2 n3
                      replace hps := hps.set hwr (Nat.lt_succ_self r) 7 (.int .i64 (prI y)) (b' := { b with shrink := prI y }) rfl
                      clear n0 n1 n2 n3 HW
                      go_wp2
                      go_roundw
                      case rel => exact ⟨at_ + 2, _, by go_num, by omega, hps, HR.out⟩
                      case measure => simp [intOf]; omega
                    · have q3 : (x == [115, 104, 114, 105, 110, 107]) = false := beq_eq_false_iff_ne.2 n3
                      by_cases n4 : x = justifyT
                      · have HW : Hid (setW x (prI y) b = { b with justify := prI y }) := by
                          show _ = _
                          unfold setW
                          rw [if_neg n0, if_neg n1, if_neg n2, if_neg n3, if_pos n4]
                        rw [HW.out] at HR
                        have d : W7.cell? ⟨r + 1, 8, none⟩ = some (.int .i64 b.justify) := hps.cell 8
                        have z := hps.frozen 8
                        have q4 : (x == [106, 117, 115, 116, 105, 102, 121]) = true := beq_iff_eq.2 n4
                        replace hps := hps.set hwr (Nat.lt_succ_self r) 8 (.int .i64 (prI y)) (b' := { b with justify := prI y }) rfl
                        clear n0 n1 n2 n3 n4 HW
                        go_wp2
                        go_roundw
                        case rel => exact ⟨at_ + 2, _, by go_num, by omega, hps, HR.out⟩
                        case measure => simp [intOf]; omega
                      · have q4 : (x == [106, 117, 115, 116, 105, 102, 121]) = false := beq_eq_false_iff_ne.2 n4
                        have HW : Hid (setW x (prI y) b = b) := by
                          show _ = _
                          unfold setW
                          rw [if_neg n0, if_neg n1, if_neg n2, if_neg n3, if_neg n4]
                        rw [HW.out] at HR
                        clear n0 n1 n2 n3 n4 HW
                        go_wp2
                        go_roundw
                        case rel => exact ⟨at_ + 2, b, by go_num, by omega, hps, HR.out⟩
                        case measure => simp [intOf]; omega
            · have HE : Hid (b = wordsB ws) := by
                show _ = _
                rw [← hrun, runW_short (by rw [List.length_drop]; omega)]
              have hps2 := hps
              have hke : ¬ (at_ : Int) + 1 < ws.length := by omega
              clear hrun hps
              rw [HE.out] at hps2
              obtain ⟨d0, d1, d2, d3, d4, d5, d6, d7, d8⟩ := hps2.c9
              generalize wordsB ws = B at *
              clear HE HF
              go_wp2_with (fail)
              refine (validBox_any B _).mono ?_
              rintro e W8 ⟨he, hx8⟩
              replace hps2 := hps2.ext hx8
              clear d0 d1 d2 d3 d4 d5 d6 d7 d8 hx8
              obtain ⟨g0, g1, g2, g3, g4, g5, g6, g7, g8⟩ := hps2.r9
              obtain ⟨z0, z1, z2, z3, z4, z5, z6, z7, z8⟩ := hps2.z9
              cases hok : okB B with
              | false =>
                rw [hok] at he
                subst he
                have HP : Hid (pB s = none) := by
                  show _ = _
                  rw [HPB.out, if_neg (fun e => by rw [hok] at e; cases e.1)]
                have HX : Hid (Below w.heap.size w (setBx W8 r 0 zb)) := hps2.1.trans (setBx_below _ _ hwr)
                clear hps2 HPB hok
                go_wp2
                refine bodyPost_ret (v := resB (pB s)) ?_ rfl ⟨rfl, HX.out⟩
                rw [HP.out]
                simp [results, Tryz.results31, go_sem, resB, Bx.agg, zb, g0, g1, g2, g3, g4, g5, g6, g7, g8]
              | true =>
                rw [hok] at he
                subst he
                obtain ⟨d0, d1, d2, d3, d4, d5, d6, d7, d8⟩ := hps2.c9
                go_wp2_with (fail)
                refine (sboxText_any (b := B) _ hok).mono ?_
                rintro e W9 ⟨rfl, hx9⟩
                unfold sv
                replace hps2 := hps2.ext hx9
                clear d0 d1 d2 d3 d4 d5 d6 d7 d8 hx9 g0 g1 g2 g3 g4 g5 g6 g7 g8 z0 z1 z2 z3 z4 z5 z6 z7 z8
                obtain ⟨g0, g1, g2, g3, g4, g5, g6, g7, g8⟩ := hps2.r9
                obtain ⟨z0, z1, z2, z3, z4, z5, z6, z7, z8⟩ := hps2.z9
                by_cases hbt : boxT B = s
                · have HP : Hid (pB s = some B) := by
                    show _ = _
                    rw [HPB.out, if_pos ⟨hok, hbt⟩]
                  obtain ⟨d0, d1, d2, d3, d4, d5, d6, d7, d8⟩ := hps2.c9
                  have HX : Hid (Below w.heap.size w (setBx W9 r 0 B)) := hps2.1.trans (setBx_below _ _ hwr)
                  have hq : (boxT B == s) = true := beq_iff_eq.2 hbt
                  generalize boxT B = T at *
                  clear hps2 HPB hok hbt
                  go_wp2
                  refine bodyPost_ret (v := resB (pB s)) ?_ rfl ⟨rfl, HX.out⟩
                  rw [HP.out]
                  simp [results, Tryz.results31, go_sem, resB, Bx.agg, zb, g0, g1, g2, g3, g4, g5, g6, g7, g8]
                · have HP : Hid (pB s = none) := by
                    show _ = _
                    rw [HPB.out, if_neg (fun e => hbt e.2)]
                  have HX : Hid (Below w.heap.size w (setBx W9 r 0 zb)) := hps2.1.trans (setBx_below _ _ hwr)
                  have hq : (boxT B == s) = false := beq_eq_false_iff_ne.2 hbt
                  generalize boxT B = T at *
                  clear hps2 HPB hok hbt
                  go_wp2
                  refine bodyPost_ret (v := resB (pB s)) ?_ rfl ⟨rfl, HX.out⟩
                  rw [HP.out]
                  simp [results, Tryz.results31, go_sem, resB, Bx.agg, zb, g0, g1, g2, g3, g4, g5, g6, g7, g8]
      · have hq : (kTo x 4 == 0) = false := beq_eq_false_iff_ne.2 h0
        have HF : Hid (runW (ws.drop 1) ⟨0, kTo x 4, 0, 0, 0, 0, 0, 0, 0⟩ = wordsB ws) := by
          show _ = _
          unfold wordsB restOf headW
          rw [hxh, if_neg (fun e => h0 e.1), if_neg (fun e => h0 e.1)]
        go_wp2
        go_upto_region 14 with fail
        clear d1
        go_wp2
        go_loopw [8] (fun i wr => ∃ (at_ : Nat) (b : Bx), i = .int .i64 at_ ∧ at_ ≤ ws.length + 1 ∧ PS w r (r + 1) (.slice (some ⟨bW, off, none⟩) ws.length c) (Ss ws) b wr ∧ runW (ws.drop at_) b = wordsB ws) (fun i _ => ws.length + 3 - (intOf i).toNat)
        case atStart => exact ⟨1, _, rfl, by omega, hps, HF.out⟩
        case round =>
          obtain ⟨at_, b, rfl, hat, hps, hrun⟩ := hrel
          by_cases hlt : at_ + 1 < ws.length
          · have hki : (at_ : Int) + 1 < ws.length := by omega
            have hk0 : (0 : Int) ≤ (at_ : Int) := by omega
            obtain ⟨x, hxa⟩ : ∃ x, ws[at_]? = some x := ⟨_, List.getElem?_eq_getElem (by omega)⟩
            obtain ⟨y, hya⟩ : ∃ y, ws[at_ + 1]? = some y := ⟨_, List.getElem?_eq_getElem hlt⟩
            have HR : Hid (runW (ws.drop (at_ + 2)) (setW x (prI y) b) = wordsB ws) := by
              show _ = _
              rw [← hrun]
              obtain ⟨h1, rfl⟩ := List.getElem?_eq_some_iff.1 hxa
              obtain ⟨h2, rfl⟩ := List.getElem?_eq_some_iff.1 hya
              rw [List.drop_eq_getElem_cons h1, List.drop_eq_getElem_cons h2]
              rfl
            have cx := hps.word hxa
            have cy := hps.word hya
            have hyl := HSM.out y (List.mem_of_getElem? hya)
            clear hrun
            go_upto_region 15 with fail
            go_wp2_with (fail)
            refine (sparseInt_any y _ (by omega)).mono ?_
            rintro e W7 ⟨rfl, hx7⟩
            replace hps := hps.ext hx7
            replace cx := hps.word hxa
            clear hx7 cy hyl hxa hya
            go_upto_region 17 with fail
            clear cx
            by_cases n0 : x = padT
            · have HW : Hid (setW x (prI y) b = { b with pad := prI y }) := by
                show _ = _
                unfold setW
                rw [if_pos n0]
              rw [HW.out] at HR
              have d : W7.cell? ⟨r + 1, 4, none⟩ = some (.int .i64 b.pad) := hps.cell 4
              have z := hps.frozen 4
              have q0 : (x == [112, 97, 100]) = true := beq_iff_eq.2 n0
              replace hps := hps.set hwr (Nat.lt_succ_self r) 4 (.int .i64 (prI y)) (b' := { b with pad := prI y }) rfl
              clear n0 HW
              go_wp2
              go_roundw
              case rel => exact ⟨at_ + 2, _, by go_num, by omega, hps, HR.out⟩
              case measure => simp [intOf]; omega
            · have q0 : (x == [112, 97, 100]) = false := beq_eq_false_iff_ne.2 n0
              by_cases n1 : x = gapT
              · have HW : Hid (setW x (prI y) b = { b with gap := prI y }) := by
                  show _ = _
                  unfold setW
                  rw [if_neg n0, if_pos n1]
                rw [HW.out] at HR
                have d : W7.cell? ⟨r + 1, 5, none⟩ = some (.int .i64 b.gap) := hps.cell 5
                have z := hps.frozen 5
                have q1 : (x == [103, 97, 112]) = true := beq_iff_eq.2 n1
                replace hps := hps.set hwr (Nat.lt_succ_self r) 5 (.int .i64 (prI y)) (b' := { b with gap := prI y }) rfl
                clear n0 n1 HW
                go_wp2
                go_roundw
                case rel => exact ⟨at_ + 2, _, by go_num, by omega, hps, HR.out⟩
                case measure => simp [intOf]; omega
              · have q1 : (x == [103, 97, 112]) = false := beq_eq_false_iff_ne.2 n1
                by_cases n2 : x = growT
                · have HW : Hid (setW x (prI y) b = { b with grow := prI y }) := by
                    show _ = _
                    unfold setW
                    rw [if_neg n0, if_neg n1, if_pos n2]
                  rw [HW.out] at HR
                  have d : W7.cell? ⟨r + 1, 6, none⟩ = some (.int .i64 b.grow) := hps.cell 6
                  have z := hps.frozen 6
                  have q2 : (x == [103, 114, 111, 119]) = true := beq_iff_eq.2 n2
                  replace hps := hps.set hwr (Nat.lt_succ_self r) 6 (.int .i64 (prI y)) (b' := { b with grow := prI y }) rfl
                  clear n0 n1 n2 HW
                  go_wp2
                  go_roundw
                  case rel => exact ⟨at_ + 2, _, by go_num, by omega, hps, HR.out⟩
                  case measure => simp [intOf]; omega
                · have q2 : (x == [103, 114, 111, 119]) = false := beq_eq_false_iff_ne.2 n2
                  by_cases n3 : x = shrinkT
                  · have HW : Hid (setW x (prI y) b = { b with shrink := prI y }) := by
                      show _ = _
                      unfold setW
                      rw [if_neg n0, if_neg n1, if_neg n2, if_pos n3]
                    rw [HW.out] at HR
                    have d : W7.cell? ⟨r + 1, 7, none⟩ = some (.int .i64 b.shrink) := hps.cell 7
                    have z := hps.frozen 7
                    have q3 : (x == [115, 104, 114, 105, 110, 107]) = true := beq_iff_eq.2 n3
                    replace hps := hps.set hwr (Nat.lt_succ_self r) 7 (.int .i64 (prI y)) (b' := { b with shrink := prI y }) rfl
                    clear n0 n1 n2 n3 HW
                    go_wp2
                    go_roundw
                    case rel => exact ⟨at_ + 2, _, by go_num, by omega, hps, HR.out⟩
                    case measure => simp [intOf]; omega
                  · have q3 : (x == [115, 104, 114, 105, 110, 107]) = false := beq_eq_false_iff_ne.2 n3
                    by_cases n4 : x = justifyT
                    · have HW : Hid (setW x (prI y) b = { b with justify := prI y }) := by
                        show _ = _
                        unfold setW
                        rw [if_neg n0, if_neg n1, if_neg n2, if_neg n3, if_pos n4]
                      rw [HW.out] at HR
                      have d : W7.cell? ⟨r + 1, 8, none⟩ = some (.int .i64 b.justify) := hps.cell 8
                      have z := hps.frozen 8
                      have q4 : (x == [106, 117, 115, 116, 105, 102, 121]) = true := beq_iff_eq.2 n4
                      replace hps := hps.set hwr (Nat.lt_succ_self r) 8 (.int .i64 (prI y)) (b' := { b with justify := prI y }) rfl
                      clear n0 n1 n2 n3 n4 HW
                      go_wp2
                      go_roundw
                      case rel => exact ⟨at_ + 2, _, by go_num, by omega, hps, HR.out⟩
                      case measure => simp [intOf]; omega
                    · have q4 : (x == [106, 117, 115, 116, 105, 102, 121]) = false := beq_eq_false_iff_ne.2 n4
                      have HW : Hid (setW x (prI y) b = b) := by
                        show _ = _
                        unfold setW
                        rw [if_neg n0, if_neg n1, if_neg n2, if_neg n3, if_neg n4]
                      rw [HW.out] at HR
                      clear n0 n1 n2 n3 n4 HW
                      go_wp2
                      go_roundw
                      case rel => exact ⟨at_ + 2, b, by go_num, by omega, hps, HR.out⟩
                      case measure => simp [intOf]; omega
          · have HE : Hid (b = wordsB ws) := by
              show _ = _
              rw [← hrun, runW_short (by rw [List.length_drop]; omega)]
            have hps2 := hps
            have hke : ¬ (at_ : Int) + 1 < ws.length := by omega
            clear hrun hps
            rw [HE.out] at hps2
            obtain ⟨d0, d1, d2, d3, d4, d5, d6, d7, d8⟩ := hps2.c9
            generalize wordsB ws = B at *
            clear HE HF
            go_wp2_with (fail)
            refine (validBox_any B _).mono ?_
            rintro e W8 ⟨he, hx8⟩
            replace hps2 := hps2.ext hx8
            clear d0 d1 d2 d3 d4 d5 d6 d7 d8 hx8
            obtain ⟨g0, g1, g2, g3, g4, g5, g6, g7, g8⟩ := hps2.r9
            obtain ⟨z0, z1, z2, z3, z4, z5, z6, z7, z8⟩ := hps2.z9
            cases hok : okB B with
            | false =>
              rw [hok] at he
              subst he
              have HP : Hid (pB s = none) := by
                show _ = _
                rw [HPB.out, if_neg (fun e => by rw [hok] at e; cases e.1)]
              have HX : Hid (Below w.heap.size w (setBx W8 r 0 zb)) := hps2.1.trans (setBx_below _ _ hwr)
              clear hps2 HPB hok
              go_wp2
              refine bodyPost_ret (v := resB (pB s)) ?_ rfl ⟨rfl, HX.out⟩
              rw [HP.out]
              simp [results, Tryz.results31, go_sem, resB, Bx.agg, zb, g0, g1, g2, g3, g4, g5, g6, g7, g8]
            | true =>
              rw [hok] at he
              subst he
              obtain ⟨d0, d1, d2, d3, d4, d5, d6, d7, d8⟩ := hps2.c9
              go_wp2_with (fail)
              refine (sboxText_any (b := B) _ hok).mono ?_
              rintro e W9 ⟨rfl, hx9⟩
              unfold sv
              replace hps2 := hps2.ext hx9
              clear d0 d1 d2 d3 d4 d5 d6 d7 d8 hx9 g0 g1 g2 g3 g4 g5 g6 g7 g8 z0 z1 z2 z3 z4 z5 z6 z7 z8
              obtain ⟨g0, g1, g2, g3, g4, g5, g6, g7, g8⟩ := hps2.r9
              obtain ⟨z0, z1, z2, z3, z4, z5, z6, z7, z8⟩ := hps2.z9
              by_cases hbt : boxT B = s
              · have HP : Hid (pB s = some B) := by
                  show _ = _
                  rw [HPB.out, if_pos ⟨hok, hbt⟩]
                obtain ⟨d0, d1, d2, d3, d4, d5, d6, d7, d8⟩ := hps2.c9
                have HX : Hid (Below w.heap.size w (setBx W9 r 0 B)) := hps2.1.trans (setBx_below _ _ hwr)
                have hq : (boxT B == s) = true := beq_iff_eq.2 hbt
                generalize boxT B = T at *
                clear hps2 HPB hok hbt
                go_wp2
                refine bodyPost_ret (v := resB (pB s)) ?_ rfl ⟨rfl, HX.out⟩
                rw [HP.out]
                simp [results, Tryz.results31, go_sem, resB, Bx.agg, zb, g0, g1, g2, g3, g4, g5, g6, g7, g8]
              · have HP : Hid (pB s = none) := by
                  show _ = _
                  rw [HPB.out, if_neg (fun e => hbt e.2)]
                have HX : Hid (Below w.heap.size w (setBx W9 r 0 zb)) := hps2.1.trans (setBx_below _ _ hwr)
                have hq : (boxT B == s) = false := beq_eq_false_iff_ne.2 hbt
                generalize boxT B = T at *
                clear hps2 HPB hok hbt
                go_wp2
                refine bodyPost_ret (v := resB (pB s)) ?_ rfl ⟨rfl, HX.out⟩
                rw [HP.out]
                simp [results, Tryz.results31, go_sem, resB, Bx.agg, zb, g0, g1, g2, g3, g4, g5, g6, g7, g8]
end Go.Proofs.YtdlggpphfkjidaaGreatDoor
