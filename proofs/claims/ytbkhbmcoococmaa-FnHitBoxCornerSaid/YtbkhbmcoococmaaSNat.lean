/-
  spec.natural gives the same size.
-/
import Derived.Test.YtbkhbmcoococmaaNat
import Derived.Deep.QuietTactic
import Derived.BigQuiet
namespace Go.Proofs.Ytbkhbmcoococmaa
open Go Go.RowKit

/-- along the line: what box k adds; across it -/
def mainOf (b : Bx) (s : Int × Int) : Int := if b.kind = 2 then s.1 else s.2
def crossOf (b : Bx) (s : Int × Int) : Int := if b.kind = 2 then s.2 else s.1
def alongL (b : Bx) (c : Int) (r : List (Int × Int)) : Int := r.foldl (fun a s => a + mainOf b s) c
def acrossL (b : Bx) (c : Int) (r : List (Int × Int)) : Int := r.foldl (fun a s => max a (crossOf b s)) c
theorem alongL_add (b : Bx) : ∀ (r : List (Int × Int)) (c d : Int), alongL b (c + d) r = alongL b c r + d
  | [], _, _ => rfl
  | s :: r, c, d => by
    have := alongL_add b r (c + mainOf b s) d
    simp only [alongL, List.foldl_cons] at this ⊢
    rw [← this]
    congr 1
    omega
def gapsOf (n : Nat) : Int := max 0 ((n : Int) - 1)
theorem foldK_line (b : Bx) : ∀ (r : List (Int × Int)) (k : Nat) (acc : Int × Int), 0 < k → foldK b k acc r = if b.kind = 2 then (alongL b (acc.1 + r.length * b.gap) r, acrossL b acc.2 r) else (acrossL b acc.1 r, alongL b (acc.2 + r.length * b.gap) r)
  | [], k, acc, _ => by simp [foldK, alongL, acrossL]
  | s :: r, k, acc, hk => by
    rw [foldK, foldK_line b r (k + 1) _ (by omega)]
    have e : ((s :: r).length : Int) * b.gap = (r.length : Int) * b.gap + b.gap := by
      rw [List.length_cons]; push_cast; rw [Int.add_mul]; omega
    rw [e]
    generalize (r.length : Int) * b.gap = g
    by_cases h2 : b.kind = 2
    · rw [if_pos h2, if_pos h2, addK_row h2, if_neg (by omega)]
      simp only [alongL, acrossL, List.foldl_cons, mainOf, crossOf, if_pos h2]
      congr 2
      omega
    · rw [if_neg h2, if_neg h2, addK_col h2, if_neg (by omega)]
      simp only [alongL, acrossL, List.foldl_cons, mainOf, crossOf, if_neg h2]
      congr 2
      omega
theorem foldK_zero (b : Bx) (r : List (Int × Int)) : foldK b 0 (0, 0) r = if b.kind = 2 then (alongL b (gapsOf r.length * b.gap) r, acrossL b 0 r) else (acrossL b 0 r, alongL b (gapsOf r.length * b.gap) r) := by
  cases r with
  | nil => simp [foldK, alongL, acrossL, gapsOf, Int.max_def]
  | cons s r =>
    have e : gapsOf (s :: r).length = (r.length : Int) := by
      unfold gapsOf
      rw [List.length_cons]
      omega
    rw [foldK, foldK_line b r 1 _ (by omega), e]
    generalize (r.length : Int) * b.gap = g
    by_cases h2 : b.kind = 2
    · rw [if_pos h2, if_pos h2, addK_row h2, if_pos rfl]
      simp only [alongL, acrossL, List.foldl_cons, mainOf, crossOf, if_pos h2]
      congr 2
      omega
    · rw [if_neg h2, if_neg h2, addK_col h2, if_pos rfl]
      simp only [alongL, acrossL, List.foldl_cons, mainOf, crossOf, if_neg h2]
      congr 2
      omega

theorem natS_leaf {l : List Bx} (hv : Valid l) {i : Nat} (hi : i < l.length) (hk : (bx l i).kind = 0) : natS l i = ((bx l i).w + 2 * (bx l i).pad, (bx l i).h + 2 * (bx l i).pad) := by
  rw [natS_eq (fun k hk => hv.down hk k (Nat.le_refl _)) hi]
  unfold kidS
  rw [(hv.kids i hi).2 hk]
  rfl
theorem natS_box {l : List Bx} (hv : Valid l) {i : Nat} (hi : i < l.length) (hk : ¬ (bx l i).kind = 0) :
    natS l i = if (bx l i).kind = 2 then (alongL (bx l i) (gapsOf (kid l (i : Int)).length * (bx l i).gap) (kidS l i) + 2 * (bx l i).pad, acrossL (bx l i) 0 (kidS l i) + 2 * (bx l i).pad)
      else (acrossL (bx l i) 0 (kidS l i) + 2 * (bx l i).pad, alongL (bx l i) (gapsOf (kid l (i : Int)).length * (bx l i).gap) (kidS l i) + 2 * (bx l i).pad) := by
  have hb := hv.ok i hi
  unfold okB at hb
  simp only [Bool.and_eq_true, inR_iff, if_neg hk] at hb
  rw [natS_eq (fun k hk => hv.down hk k (Nat.le_refl _)) hi, show (bx l i).w = 0 from by omega, show (bx l i).h = 0 from by omega, foldK_zero, kidS_length]
  split <;> rfl

def alongTo (l : List Bx) (i j : Nat) : Int := alongL (bx l i) (gapsOf (kid l (i : Int)).length * (bx l i).gap) ((kidS l i).take j)
def acrossTo (l : List Bx) (i j : Nat) : Int := acrossL (bx l i) 0 ((kidS l i).take j)
theorem kidS_take {l : List Bx} {i j k : Nat} (hk : (kid l (i : Int))[j]? = some k) : (kidS l i).take (j + 1) = (kidS l i).take j ++ [natS l k] := by
  rw [List.take_add_one]
  simp [kidS, hk]
theorem alongTo_succ {l : List Bx} {i j k : Nat} (hk : (kid l (i : Int))[j]? = some k) : alongTo l i (j + 1) = alongTo l i j + mainOf (bx l i) (natS l k) := by
  unfold alongTo
  rw [kidS_take hk]
  simp [alongL]
theorem acrossTo_succ {l : List Bx} {i j k : Nat} (hk : (kid l (i : Int))[j]? = some k) : acrossTo l i (j + 1) = max (acrossTo l i j) (crossOf (bx l i) (natS l k)) := by
  unfold acrossTo
  rw [kidS_take hk]
  simp [acrossL]
theorem line_sz {l : List Bx} (hv : Valid l) {i : Nat} (hi : i < l.length) : ∀ (j : Nat), j ≤ (kid l (i : Int)).length → 0 ≤ alongTo l i j ∧ alongTo l i j ≤ 350 + j * 24126426575199000 ∧ 0 ≤ acrossTo l i j ∧ acrossTo l i j ≤ 24126426575199000
  | 0, _ => by
    have hb := okB_bounds (hv.ok i hi)
    have hk := (hv.kids i hi).1
    have hg : 0 ≤ gapsOf (kid l (i : Int)).length ∧ gapsOf (kid l (i : Int)).length ≤ 7 := by unfold gapsOf; omega
    have h1 : gapsOf (kid l (i : Int)).length * (bx l i).gap ≤ 7 * 50 := Int.mul_le_mul (by omega) (by omega) (by omega) (by omega)
    have h2 : 0 ≤ gapsOf (kid l (i : Int)).length * (bx l i).gap := Int.mul_nonneg hg.1 (by omega)
    unfold alongTo acrossTo
    simp only [List.take_zero, alongL, acrossL, List.foldl_nil]
    omega
  | j + 1, h => by
    obtain ⟨k, hk⟩ : ∃ k, (kid l (i : Int))[j]? = some k := ⟨_, List.getElem?_eq_getElem (by omega)⟩
    obtain ⟨hkl, _⟩ := mem_kid.1 (List.mem_of_getElem? hk)
    have ih := line_sz hv hi j (by omega)
    obtain ⟨n1, n2, n3, n4⟩ := natS_sz hv hkl
    rw [alongTo_succ hk, acrossTo_succ hk]
    unfold mainOf crossOf
    split <;> (push_cast; omega)
theorem line_full {l : List Bx} (hv : Valid l) {i : Nat} (hi : i < l.length) (hk : ¬ (bx l i).kind = 0) :
    natS l i = if (bx l i).kind = 2 then (alongTo l i (kid l (i : Int)).length + 2 * (bx l i).pad, acrossTo l i (kid l (i : Int)).length + 2 * (bx l i).pad) else (acrossTo l i (kid l (i : Int)).length + 2 * (bx l i).pad, alongTo l i (kid l (i : Int)).length + 2 * (bx l i).pad) := by
  rw [natS_box hv hi hk]
  unfold alongTo acrossTo
  rw [List.take_of_length_le (by rw [kidS_length]; exact Nat.le_refl _)]

theorem skid_valid {l : List Bx} (hv : Valid l) (i : Nat) : skid l i = kid l (i : Int) := skid_eq_kid fun k hk => hv.down hk k (Nat.le_refl _)
/-- the box that spec.natural keeps in memory -/
structure OneBox (B : Nat) (w : World) (x : Bx) : Prop where
  size : B < w.heap.size
  b : ∃ e, w.heap[B]? = some (.cells x.arr e)
theorem OneBox.ext {B : Nat} {w w' : World} {x : Bx} (h : OneBox B w x) (hx : Ext w w') : OneBox B w' x := by
  obtain ⟨h1, ⟨e1, h2⟩⟩ := h
  exact ⟨Nat.lt_of_lt_of_le h1 hx.size, ⟨e1, by rw [hx.block B (by omega)]; exact h2⟩⟩

set_option maxRecDepth 100000 in
set_option maxHeartbeats 4000000 in
theorem snatural_ind {v : Value} {l : List Bx} (hv : Valid l) : ∀ (f i : Nat), l.length - i ≤ f → i < l.length → ∀ (w : World), Rd w 9 v (Bs l) →
    Calls Try.prog 115 #[v, .int .i64 (i : Int)] w fun e w' => e = .returned (.tuple #[.int .i64 (natS l i).1, .int .i64 (natS l i).2]) ∧ Ext w w'
  | 0, _, h, hi, _, _ => by omega
  | f + 1, i, hf, hi, w, hr => by
    have hrd := hr
    obtain ⟨a, c, rfl, hn, hc, hcell⟩ := hr.boxes
    unfold maxLen at hc
    have ih := Lib.hid (snatural_ind (v := .slice a l.length c) hv f)
    obtain ⟨b, off, rfl, hbl, hC⟩ := hcell i _ (bx_get hi)
    obtain ⟨c0, c1, c2, c3, c4, c5, c6, c7, c8⟩ := hC i _ (bx_get hi)
    have Hl := Lib.hid hv.hi
    have hbd := okB_bounds (hv.ok i hi)
    clear hcell hr hC
    by_cases hlf : (bx l i).kind = 0
    · have hlf' : ((bx l i).kind == 0) = true := by simp [hlf]
      have Hlf := Lib.hid (natS_leaf hv hi hlf)
      clear hlf
      go_enter Try.func115, Try.ntmps115
      go_wp2
      go_quiet (fail)
      go_wp2
      go_ret2
      exact ⟨by rw [Hlf.out]; rfl, below_drewN (Below.of_alloc _ _) _⟩
    · have hlf' : ((bx l i).kind == 0) = false := by simp [hlf]
      have Hlf := Lib.hid hlf
      have Hfin := Lib.hid (line_full hv hi hlf)
      have hkl := (hv.kids i hi).1
      clear hlf
      go_enter Try.func115, Try.ntmps115
      go_wp2_with (fail)
      have hbx : Below w.heap.size w (w.alloc (.cells (bx l i).arr 30)) := Below.of_alloc _ _
      refine (skids_any (l := l) (i := (i : Int)) _ (by omega) (by omega) (hrd.below hbx (Nat.le_refl _)) (by have := Hl.out; omega)).mono ?_
      rintro e w1 ⟨vk, rfl, hok, hx⟩
      rw [Int.toNat_natCast, skid_valid hv] at hok
      obtain ⟨aq, cq, rfl, hnq, hcq, hcell⟩ := hok.rd.ints
      unfold maxLen at hcq
      simp only [ni_length] at *
      have hm0 : OneBox w.heap.size w1 (bx l i) := (OneBox.mk (by simp) ⟨_, heap_alloc_new w _⟩ : OneBox w.heap.size (w.alloc (.cells (bx l i).arr 30)) (bx l i)).ext hx
      have hb1 := after hbx hx (Nat.le_refl _)
      have Hok : Hid (Rd w1 1 (.slice aq (kid l (i : Int)).length cq) (Is (ni (kid l (i : Int))))) := hok.rd
      have kg : w1.cell? ⟨w.heap.size, 5, none⟩ = some (.int .i64 (bx l i).gap) := by
        obtain ⟨_, _, h⟩ := hm0
        rw [cell_of_heap h]
        rfl
      have hg2 : gapsOf (kid l (i : Int)).length = max 0 (((kid l (i : Int)).length : Int) - 1) := rfl
      clear hok hx hbx c0 c1 c2 c3 c4 c5 c6 c7 c8 hcell
      have hstart : Hid (∀ X : Int, X = alongTo l i 0 → Value.int .i64 (wrap64 X) = .int .i64 (alongTo l i 0)) := fun X hX => by
        have := line_sz hv hi 0 (Nat.zero_le _)
        rw [hX, IntWalk.wrap64_in _ (by omega)]
      go_wp2
      all_goals
        go_loopw [8, 9, 10] (fun n m i' wr => ∃ j : Nat, j ≤ (kid l (i : Int)).length ∧ i' = .int .i64 j ∧ n = .int .i64 (alongTo l i j) ∧ m = .int .i64 (acrossTo l i j) ∧ OneBox w.heap.size wr (bx l i) ∧ Below w.heap.size w wr ∧ Rd wr 1 (.slice aq (kid l (i : Int)).length cq) (Is (ni (kid l (i : Int))))) (fun _ _ i' _ => (kid l (i : Int)).length - (intOf i').toNat)
        case atStart =>
          refine ⟨0, Nat.zero_le _, rfl, hstart.out _ ?_, rfl, hm0, hb1, Hok.out⟩
          show _ = gapsOf _ * _
          first
            | rw [show gapsOf (kid l (i : Int)).length = ((kid l (i : Int)).length : Int) - 1 from by unfold gapsOf; omega]
            | (rw [show gapsOf (kid l (i : Int)).length = 0 from by unfold gapsOf; omega]; omega)
        case round =>
          clear hm0 hb1
          obtain ⟨j, hj, rfl, rfl, rfl, hm, hb, ho⟩ := hrel
          have hsz := hb.size
          have hln := line_sz hv hi j hj
          obtain ⟨l1, l2, l3, l4⟩ := hln
          by_cases hlt : j < (kid l (i : Int)).length
          · obtain ⟨k, hk⟩ : ∃ k, (kid l (i : Int))[j]? = some k := ⟨_, List.getElem?_eq_getElem hlt⟩
            obtain ⟨hkl', hkp⟩ := mem_kid.1 (List.mem_of_getElem? hk)
            have hdk := hv.down hkl' k (Nat.le_refl _)
            have hik : i < k := by omega
            obtain ⟨aq', cq', eq, _, _, hcq2⟩ := ho.ints
            simp only [ni_length, Value.slice.injEq] at eq
            obtain ⟨rfl, _, rfl⟩ := eq
            obtain ⟨gq, oq, rfl, hcq3⟩ := hcq2 j (k : Int) (by simp [ni, hk])
            have cq2 := hcq3 j (k : Int) (by simp [ni, hk])
            obtain ⟨n1, n2, n3, n4⟩ := natS_sz hv hkl'
            have Hs1 := Lib.hid (alongTo_succ (l := l) (i := i) hk)
            have Hs2 := Lib.hid (acrossTo_succ (l := l) (i := i) hk)
            have Hih := Lib.hid (ih.out k (by omega) hkl' wr (hrd.below hb (Nat.le_refl _)))
            clear hcq2 hcq3 hkp hk
            go_wp2_with (fail)
            refine Hih.out.mono ?_
            rintro e w2 ⟨rfl, hx2⟩
            have Hm2 := Lib.hid (hm.ext hx2)
            have hb2 := after hb hx2 (Nat.le_refl _)
            have Hok2 := Lib.hid (ho.below hx2 (Nat.le_refl _))
            obtain ⟨s1, e2, hB⟩ := Hm2.out
            have kk : w2.cell? ⟨w.heap.size, 1, none⟩ = some (.int .i64 (bx l i).kind) := by rw [cell_of_heap hB]; rfl
            clear hm hb ho hx2 cq2 hB
            have l2' : alongTo l i j ≤ 350 + 8 * 24126426575199000 := by omega
            by_cases hkd : (bx l i).kind = 2
            · have hkd' : ((bx l i).kind != 2) = false := by simp [hkd]
              have Hkd := Lib.hid hkd
              clear hkd
              go_wp2
              all_goals
                go_roundw
                case rel =>
                  refine ⟨j + 1, by omega, by go_num, ?_, ?_, Hm2.out, hb2, Hok2.out⟩
                  · rw [Hs1.out]; unfold mainOf; rw [if_pos Hkd.out]
                  · rw [Hs2.out, Int.max_def]; unfold crossOf; rw [if_pos Hkd.out]; congr 1; split <;> (try split) <;> omega
                case measure => simp [intOf]; omega
            · have hkd' : ((bx l i).kind != 2) = true := by simp [hkd]
              have Hkd := Lib.hid hkd
              clear hkd
              go_wp2
              all_goals
                go_roundw
                case rel =>
                  refine ⟨j + 1, by omega, by go_num, ?_, ?_, Hm2.out, hb2, Hok2.out⟩
                  · rw [Hs1.out]; unfold mainOf; rw [if_neg Hkd.out]
                  · rw [Hs2.out, Int.max_def]; unfold crossOf; rw [if_neg Hkd.out]; congr 1; split <;> (try split) <;> omega
                case measure => simp [intOf]; omega
          · obtain rfl : j = (kid l (i : Int)).length := by omega
            obtain ⟨s1, e2, hB⟩ := hm
            have kk : wr.cell? ⟨w.heap.size, 1, none⟩ = some (.int .i64 (bx l i).kind) := by rw [cell_of_heap hB]; rfl
            have kp : wr.cell? ⟨w.heap.size, 4, none⟩ = some (.int .i64 (bx l i).pad) := by rw [cell_of_heap hB]; rfl
            have l2' : alongTo l i (kid l (i : Int)).length ≤ 350 + 8 * 24126426575199000 := by omega
            clear hB
            by_cases hkd : (bx l i).kind = 2
            · have hkd' : ((bx l i).kind != 2) = false := by simp [hkd]
              have Hkd := Lib.hid hkd
              clear hkd
              go_wp2
              go_quiet (fail)
              go_wp2
              go_ret2
              exact ⟨by rw [Hfin.out, if_pos Hkd.out]; rfl, below_drewN hb _⟩
            · have hkd' : ((bx l i).kind != 2) = true := by simp [hkd]
              have Hkd := Lib.hid hkd
              clear hkd
              go_wp2
              go_quiet (fail)
              go_wp2
              go_ret2
              exact ⟨by rw [Hfin.out, if_neg Hkd.out]; rfl, below_drewN hb _⟩

theorem snatural_any {v : Value} {l : List Bx} (hv : Valid l) {i : Int} (w : World) (h0 : 0 ≤ i) (hi : i < l.length) (hr : Rd w 9 v (Bs l)) :
    Calls Try.prog 115 #[v, .int .i64 i] w fun e w' => e = .returned (.tuple #[.int .i64 (natS l i.toNat).1, .int .i64 (natS l i.toNat).2]) ∧ Ext w w' := by
  obtain ⟨i, rfl⟩ := Int.eq_ofNat_of_zero_le h0
  exact snatural_ind hv _ i (Nat.le_refl _) (by omega) w hr
end Go.Proofs.Ytbkhbmcoococmaa
