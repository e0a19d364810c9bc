/-
  Dirty boxes: marksIn, roots, DirtyRoots, DirtyBoxes, of the program and of the reference.
-/
import Derived.Test.YtckggmbmlpikhaaFun
import Derived.Test.YtckggmbmlpikhaaArnd
namespace Go.Proofs.Ytckggmbmlpikhaa
open Go Go.RowKit

theorem Keep.ext {k : Nat} {o : Obj} {w w' : World} (h : Keep k o w) (hx : Ext w w') : Keep k o w' := by
  unfold Keep
  rw [hx.block _ h.lt]
  exact h
theorem Keep.grown {k : Nat} {o : Obj} {w w' : World} {row : Option Nat} (h : Keep k o w) (hg : w.grownBy w' row) (hne : row ≠ some k) : Keep k o w' := by
  unfold Keep
  rw [hg.block k h.lt (fun e => hne e.symm)]
  exact h
/-- DirtyRoots and DirtyBoxes of any arguments -/
def drtL (l : List Bx) (ms : List Int) : List Nat := if mkB l ms then rootsL l ms else []
def dbxL (l : List Bx) (ms : List Int) : List Nat := if mkB l ms then covL l ms else []

set_option maxHeartbeats 1000000 in
theorem marksIn_any {v u : Value} {l : List Bx} {ms : List Int} (w : World) (hv : Rd w 9 v (Bs l)) (hu : Rd w 1 u (Is ms)) :
    Calls Try.prog 65 #[v, u] w fun e w' => e = .returned (.bool (mkB l ms)) ∧ Ext w w' := by
  have hrd := hv
  have hru := hu
  obtain ⟨a, c, rfl, hn, hc, _⟩ := hv.boxes
  obtain ⟨a2, c2, rfl, hn2, hc2, _⟩ := hu.ints
  unfold maxLen at hc hc2
  by_cases h1 : vldB l = true
  · by_cases h2 : ms.length ≤ 16
    · have hl16 := (vldB_iff.1 h1).hi
      have HM : Hid (mkB l ms = ms.all fun m => inR m 0 ((l.length : Int) - 1)) := by
        show _ = _
        unfold mkB
        rw [h1]
        simp [h2]
      go_enter Try.func65, Try.ntmps65
      go_wp2_with (fail)
      refine (ValidTree_any (l := l) _ hrd).mono ?_
      rintro e w1 ⟨he, hb⟩
      rw [h1] at he
      subst he
      go_wp2_with (fail)
      refine (allIn_any (l := ms) 0 ((l.length : Int) - 1) _ (hru.below hb (Nat.le_refl _))).mono ?_
      rintro e w2 ⟨rfl, hx⟩
      rw [← HM.out]
      go_wp2
      go_ret
      exact ⟨rfl, after hb hx (Nat.le_refl _)⟩
    · have HM : Hid (mkB l ms = false) := by
        show _ = _
        unfold mkB
        simp [h2]
      have h2' : 16 < ms.length := by omega
      go_enter Try.func65, Try.ntmps65
      go_wp2_with (fail)
      refine (ValidTree_any (l := l) _ hrd).mono ?_
      rintro e w1 ⟨he, hb⟩
      rw [h1] at he
      subst he
      go_wp2
      go_ret
      exact ⟨by rw [HM.out]; rfl, hb⟩
  · have h1' : vldB l = false := by simpa using h1
    have HM : Hid (mkB l ms = false) := by
      show _ = _
      unfold mkB
      rw [h1']
      rfl
    clear h1
    go_enter Try.func65, Try.ntmps65
    go_wp2_with (fail)
    refine (ValidTree_any (l := l) _ hrd).mono ?_
    rintro e w1 ⟨he, hb⟩
    rw [h1'] at he
    subst he
    go_wp2
    go_ret
    exact ⟨by rw [HM.out]; rfl, hb⟩
set_option maxHeartbeats 1000000 in
theorem validMarks_any {v u : Value} {l : List Bx} {ms : List Int} (w : World) (hv : Rd w 9 v (Bs l)) (hu : Rd w 1 u (Is ms)) (hl : l.length ≤ 1048576) :
    Calls Try.prog 67 #[v, u] w fun e w' => e = .returned (.bool (mkB l ms)) ∧ Ext w w' := by
  have hrd := hv
  have hru := hu
  obtain ⟨a, c, rfl, hn, hc, _⟩ := hv.boxes
  obtain ⟨a2, c2, rfl, hn2, hc2, _⟩ := hu.ints
  unfold maxLen at hc hc2
  by_cases h1 : vldB l = true
  · by_cases h2 : ms.length ≤ 16
    · have hl16 := (vldB_iff.1 h1).hi
      have HM : Hid (mkB l ms = ms.all fun m => inR m 0 ((l.length : Int) - 1)) := by
        show _ = _
        unfold mkB
        rw [h1]
        simp [h2]
      go_enter Try.func67, Try.ntmps67
      go_wp2_with (fail)
      refine (validTree_any (l := l) _ hrd (by omega)).mono ?_
      rintro e w1 ⟨he, hb⟩
      rw [h1] at he
      subst he
      go_wp2_with (fail)
      refine (sAllIn_any (l := ms) 0 ((l.length : Int) - 1) _ (hru.below hb (Nat.le_refl _))).mono ?_
      rintro e w2 ⟨rfl, rfl⟩
      rw [← HM.out]
      go_wp2
      go_ret
      exact ⟨rfl, hb⟩
    · have HM : Hid (mkB l ms = false) := by
        show _ = _
        unfold mkB
        simp [h2]
      have h2' : 16 < ms.length := by omega
      go_enter Try.func67, Try.ntmps67
      go_wp2_with (fail)
      refine (validTree_any (l := l) _ hrd (by omega)).mono ?_
      rintro e w1 ⟨he, hb⟩
      rw [h1] at he
      subst he
      go_wp2
      go_ret
      exact ⟨by rw [HM.out]; rfl, hb⟩
  · have h1' : vldB l = false := by simpa using h1
    have HM : Hid (mkB l ms = false) := by
      show _ = _
      unfold mkB
      rw [h1']
      rfl
    clear h1
    go_enter Try.func67, Try.ntmps67
    go_wp2_with (fail)
    refine (validTree_any (l := l) _ hrd (by omega)).mono ?_
    rintro e w1 ⟨he, hb⟩
    rw [h1'] at he
    subst he
    go_wp2
    go_ret
    exact ⟨by rw [HM.out]; rfl, hb⟩

def filTo (p : Nat → Bool) (k : Nat) : List Nat := (List.range k).filter p
theorem filTo_zero (p : Nat → Bool) : filTo p 0 = [] := rfl
theorem filTo_yes {p : Nat → Bool} {k : Nat} (h : p k = true) : filTo p (k + 1) = filTo p k ++ [k] := by
  unfold filTo
  rw [List.range_succ, List.filter_append]
  simp [h]
theorem filTo_no {p : Nat → Bool} {k : Nat} (h : p k = false) : filTo p (k + 1) = filTo p k := by
  unfold filTo
  rw [List.range_succ, List.filter_append]
  simp [h]
theorem filTo_le (p : Nat → Bool) (k : Nat) : (filTo p k).length ≤ k := by
  have := List.length_filter_le p (List.range k)
  rw [List.length_range] at this
  exact this
theorem rootB_any (l : List Bx) (ms : List Int) (k : Nat) : rootB l ms k = (decide ((k : Int) ∈ ms) && !ms.any fun m => decide (m ≠ (k : Int)) && arB l m.toNat k) := by
  unfold rootB
  congr 1
  rw [← any_not_all ms fun m => decide (m = (k : Int)) || !arB l m.toNat k]
  congr 2
  funext m
  by_cases h : m = (k : Int) <;> simp [h]

theorem rootsEnter (args : Array Value) (w : World) : (callFunc 90 args).run Try.prog w = .ok (.enter 90 args) w := by
  kernel_rfl
set_option maxHeartbeats 1000000 in
theorem rootsF_any {v : Value} {l : List Bx} {k : Nat} (hval : Valid l) (hk : k < l.length) (m : Int) (hm0 : 0 ≤ m) (g1 g2 : Nat) (w : World) (h1 : w.cell? ⟨g1, 0, none⟩ = some (.int .i64 k)) (h2 : w.cell? ⟨g2, 0, none⟩ = some v) (hv : Rd w 9 v (Bs l)) :
    Calls Try.prog 90 #[.int .i64 m, .pointer (some ⟨g1, 0, none⟩), .pointer (some ⟨g2, 0, none⟩)] w fun e w' => e = .returned (.bool (decide (m ≠ (k : Int)) && arB l m.toNat k)) ∧ Ext w w' := by
  have hrd := hv
  obtain ⟨a, c, rfl, hn, hc, _⟩ := hv.boxes
  unfold maxLen at hc
  have hd := hval.down hk
  have hll := hval.hi
  clear hval
  by_cases he : m = (k : Int)
  · have he' : (m != (k : Int)) = false := by simp [he]
    have HE := Lib.hid he
    clear he
    go_enter Try.func90, Try.ntmps90
    go_wp2
    go_ret
    exact ⟨by simp [HE.out], Below.refl _ _⟩
  · have he' : (m != (k : Int)) = true := by simp [he]
    have HE := Lib.hid he
    clear he
    go_enter Try.func90, Try.ntmps90
    go_wp2_with (fail)
    refine (around_any (l := l) (a := m) (i := (k : Int)) _ hm0 (by omega) (by omega) hrd (by rw [Int.toNat_natCast]; exact hd) (by omega)).mono ?_
    rintro e w2 ⟨rfl, hx⟩
    rw [Int.toNat_natCast]
    go_wp2
    go_ret
    exact ⟨by simp [HE.out], hx⟩
set_option maxRecDepth 100000 in
set_option maxHeartbeats 1000000 in
theorem roots_any {v u : Value} {l : List Bx} {ms : List Int} (hval : Valid l) (hms : inMarks l ms) (w : World) (hv : Rd w 9 v (Bs l)) (hu : Rd w 1 u (Is ms)) :
    Calls Try.prog 66 #[v, u] w fun e w' => ∃ v', e = .returned v' ∧ Own w' w.heap.size 1 v' (Is (ni (rootsL l ms))) ∧ Ext w w' := by
  have hrd := hv
  obtain ⟨a, c, rfl, hn, hc, _⟩ := hv.boxes
  obtain ⟨a2, c2, rfl, hn2, hc2, _⟩ := hu.ints
  unfold maxLen at hc hc2
  have HV := Lib.hid hval
  have HM := Lib.hid hms
  have hll := hval.hi
  have HF : Hid (filTo (rootB l ms) l.length = rootsL l ms) := rfl
  clear hval hms hv
  go_enter Try.func66, Try.ntmps66
  go_upto_region 3 with fail
  change Code.wp _ _ _ _ ((w.alloc (.cells #[.slice a l.length c] 24)).alloc (.cells #[] 3))
  have hK : Keep w.heap.size (.cells #[.slice a l.length c] 24) ((w.alloc (.cells #[.slice a l.length c] 24)).alloc (.cells #[] 3)) := (Keep.new w _).alloc _
  have hb : Below w.heap.size w ((w.alloc (.cells #[.slice a l.length c] 24)).alloc (.cells #[] 3)) := (Below.of_alloc _ _).alloc (by simp) _
  generalize (w.alloc (.cells #[.slice a l.length c] 24)).alloc (.cells #[] 3) = W at *
  have ho : Own W (w.heap.size + 1) 1 (.slice (some ⟨w.heap.size + 1, 0, none⟩) 0 0) (Is (ni (filTo (rootB l ms) 0))) := Own.empty _ _ _ _
  go_loopw [5, 11] (fun s i wr => ∃ k : Nat, i = .int .i64 k ∧ k ≤ l.length ∧ Own wr (w.heap.size + 1) 1 s (Is (ni (filTo (rootB l ms) k))) ∧ Keep w.heap.size (.cells #[.slice a l.length c] 24) wr ∧ Below w.heap.size w wr) (fun _ i _ => l.length - (intOf i).toNat)
  case atStart => exact ⟨0, rfl, Nat.zero_le _, ho, hK, hb⟩
  case round =>
    clear ho hK hb
    obtain ⟨k, rfl, hk, ho, hK, hb⟩ := hrel
    by_cases hlt : k < l.length
    · have hlti : (k : Int) < l.length := by omega
      have hsz := hb.size
      have hKl := hK.lt
      have HR := Lib.hid (rootB_any l ms k)
      by_cases hmem : (k : Int) ∈ ms
      · have hmb : decide ((k : Int) ∈ ms) = true := by simp [hmem]
        have HMB := Lib.hid hmb
        clear hmem hmb
        go_wp2_with (fail)
        change Calls _ _ _ (wr.alloc (.cells #[.int .i64 k] 3)) _
        have hKi := Keep.new wr (.cells #[.int .i64 (k : Int)] 3)
        replace hK := hK.alloc (.cells #[.int .i64 (k : Int)] 3)
        replace ho := ho.alloc (.cells #[.int .i64 (k : Int)] 3)
        replace hb := hb.alloc hsz (.cells #[.int .i64 (k : Int)] 3)
        generalize hgi : wr.heap.size = gi at hKi ⊢
        have hgi2 : w.heap.size < gi := by omega
        clear hgi
        generalize wr.alloc (.cells #[.int .i64 (k : Int)] 3) = W1 at *
        refine (Contains_any (l := ms) (k : Int) _ (hu.below hb (Nat.le_refl _))).mono ?_
        rintro e w2 ⟨he, rfl⟩
        rw [HMB.out] at he
        subst he
        have ki : W1.cell? ⟨gi, 0, none⟩ = some (.int .i64 (k : Int)) := hKi.cell 0
        have kt : W1.cell? ⟨w.heap.size, 0, none⟩ = some (.slice a l.length c) := hK.cell 0
        go_wp2_with (fail)
        refine (ContainsFunc_any (l := ms) rootsEnter (fun m => decide (m ≠ (k : Int)) && arB l m.toNat k) _ (hu.below hb (Nat.le_refl _)) (fun x hx w' hw' => rootsF_any HV.out hlt x (HM.out x hx).1 _ _ w' (cell_below hw' ki) (cell_below hw' kt) (hrd.below (after hb hw' (Nat.le_refl _)) (Nat.le_refl _)))).mono ?_
        rintro e w2 ⟨rfl, hx⟩
        by_cases hany : (ms.any fun m => decide (m ≠ (k : Int)) && arB l m.toNat k) = true
        · have HRB : Hid (rootB l ms k = false) := by
            show _ = _
            rw [HR.out, hany]
            simp
          rw [hany]
          replace ho := ho.below hx (Nat.le_refl _)
          replace hK := hK.ext hx
          replace hb := after hb hx (Nat.le_refl _)
          clear hx hany ki kt hKi
          go_wp2
          go_roundw
          case rel => exact ⟨k + 1, by go_num, by omega, by rw [filTo_no HRB.out]; exact ho, hK, hb⟩
          case measure => simp [intOf]; omega
        · have hany' : (ms.any fun m => decide (m ≠ (k : Int)) && arB l m.toNat k) = false := by simpa using hany
          have HRB : Hid (rootB l ms k = true) := by
            show _ = _
            rw [HR.out, hany', HMB.out]
            rfl
          rw [hany']
          have ki2 := cell_below hx ki
          replace ho := ho.below hx (Nat.le_refl _)
          replace hK := hK.ext hx
          replace hb := after hb hx (Nat.le_refl _)
          have hsz2 := hb.size
          have hKl2 := hK.lt
          clear hx hany hany' ki kt hKi
          go_wp2_with (at_builtin; refine wpList_app rfl _ _ _ rfl el_int rfl (ho.alloc _) rfl (Rd.oneAt _ _ (by simp)) (Is_one [(k : Int)]) ?hl ?hb ?hK)
          case hl => have := filTo_le (rootB l ms) k; rw [Is_length, ni_length]; simp; omega
          case hb => simp; omega
          intro v' w1 ho1 hg1 hf1
          have hb1 := below_app (hb.alloc (by omega) _) (ho.alloc _) hg1 (by simp; omega) (by omega)
          have hK1 : Keep w.heap.size (.cells #[.slice a l.length c] 24) w1 := (hK.alloc (.cells #[.int .i64 (k : Int)] 3)).grown hg1 (fun e => by have := ((ho.alloc (.cells #[.int .i64 (k : Int)] 3)).lt _ e).1; omega)
          clear ho hK hb hg1 hf1
          go_wp2
          go_roundw
          case rel => exact ⟨k + 1, by go_num, by omega, by rw [filTo_yes HRB.out, ni_append, Is_append]; exact ho1, hK1, hb1⟩
          case measure => simp [intOf]; omega
      · have hmb : decide ((k : Int) ∈ ms) = false := by simp [hmem]
        have HMB := Lib.hid hmb
        have HRB : Hid (rootB l ms k = false) := by
          show _ = _
          rw [HR.out, hmb]
          rfl
        clear hmem hmb
        go_wp2_with (fail)
        change Calls _ _ _ (wr.alloc (.cells #[.int .i64 k] 3)) _
        have hKi := Keep.new wr (.cells #[.int .i64 (k : Int)] 3)
        replace hK := hK.alloc (.cells #[.int .i64 (k : Int)] 3)
        replace ho := ho.alloc (.cells #[.int .i64 (k : Int)] 3)
        replace hb := hb.alloc hsz (.cells #[.int .i64 (k : Int)] 3)
        generalize hgi : wr.heap.size = gi at hKi ⊢
        have hgi2 : w.heap.size < gi := by omega
        clear hgi
        generalize wr.alloc (.cells #[.int .i64 (k : Int)] 3) = W1 at *
        refine (Contains_any (l := ms) (k : Int) _ (hu.below hb (Nat.le_refl _))).mono ?_
        rintro e w2 ⟨he, rfl⟩
        rw [HMB.out] at he
        subst he
        have ki : W1.cell? ⟨gi, 0, none⟩ = some (.int .i64 (k : Int)) := hKi.cell 0
        have kt : W1.cell? ⟨w.heap.size, 0, none⟩ = some (.slice a l.length c) := hK.cell 0
        clear ki kt hKi
        go_wp2
        go_roundw
        case rel => exact ⟨k + 1, by go_num, by omega, by rw [filTo_no HRB.out]; exact ho, hK, hb⟩
        case measure => simp [intOf]; omega
    · obtain rfl : k = l.length := by omega
      rw [HF.out] at ho
      go_wp2_with (fail)
      refine (ClipI_any _ ho).mono ?_
      rintro e w2 ⟨v2, rfl, ho2, rfl⟩
      go_wp2
      go_ret
      exact ⟨_, rfl, ho2.weak (by omega), hb⟩
set_option maxHeartbeats 1000000 in
theorem DirtyRoots_any {v u : Value} {l : List Bx} {ms : List Int} (w : World) (hv : Rd w 9 v (Bs l)) (hu : Rd w 1 u (Is ms)) :
    Calls Try.prog 31 #[v, u] w fun e w' => ∃ v', e = .returned v' ∧ Own w' w.heap.size 1 v' (Is (ni (drtL l ms))) ∧ Ext w w' := by
  by_cases h : mkB l ms = true
  · obtain ⟨hval, _, hin⟩ := mkB_iff.1 h
    have HV := Lib.hid hval
    have HI := Lib.hid hin
    have HD : Hid (drtL l ms = rootsL l ms) := by
      show _ = _
      unfold drtL
      rw [if_pos h]
    clear hval hin
    go_enter Try.func31, Try.ntmps31
    go_wp2_with (fail)
    refine (marksIn_any (l := l) (ms := ms) _ hv hu).mono ?_
    rintro e w1 ⟨he, hb⟩
    rw [h] at he
    subst he
    clear h
    go_wp2_with (fail)
    refine (roots_any (l := l) (ms := ms) HV.out HI.out _ (hv.below hb (Nat.le_refl _)) (hu.below hb (Nat.le_refl _))).mono ?_
    rintro e w2 ⟨v2, rfl, ho, hx⟩
    go_wp2
    go_ret
    exact ⟨_, rfl, by rw [HD.out]; exact ho.weak hb.size, after hb hx (Nat.le_refl _)⟩
  · have h' : mkB l ms = false := by simpa using h
    have HD : Hid (drtL l ms = []) := by
      show _ = _
      unfold drtL
      rw [h']
      rfl
    clear h
    go_enter Try.func31, Try.ntmps31
    go_wp2_with (fail)
    refine (marksIn_any (l := l) (ms := ms) _ hv hu).mono ?_
    rintro e w1 ⟨he, hb⟩
    rw [h'] at he
    subst he
    go_wp2
    go_ret
    exact ⟨_, rfl, by rw [HD.out]; exact Own.nil _ _ _, hb⟩
theorem dirtyEnter (args : Array Value) (w : World) : (callFunc 72 args).run Try.prog w = .ok (.enter 72 args) w := by
  kernel_rfl
set_option maxHeartbeats 1000000 in
theorem dirtyF_any {v : Value} {l : List Bx} {k : Nat} (hval : Valid l) (hk : k < l.length) (m : Int) (hm0 : 0 ≤ m) (g1 g2 : Nat) (w : World) (h1 : w.cell? ⟨g1, 0, none⟩ = some (.int .i64 k)) (h2 : w.cell? ⟨g2, 0, none⟩ = some v) (hv : Rd w 9 v (Bs l)) :
    Calls Try.prog 72 #[.int .i64 m, .pointer (some ⟨g2, 0, none⟩), .pointer (some ⟨g1, 0, none⟩)] w fun e w' => e = .returned (.bool (arB l m.toNat k)) ∧ Ext w w' := by
  have hrd := hv
  obtain ⟨a, c, rfl, hn, hc, _⟩ := hv.boxes
  unfold maxLen at hc
  have hd := hval.down hk
  have hll := hval.hi
  clear hval
  go_enter Try.func72, Try.ntmps72
  go_wp2_with (fail)
  refine (around_any (l := l) (a := m) (i := (k : Int)) _ hm0 (by omega) (by omega) hrd (by rw [Int.toNat_natCast]; exact hd) (by omega)).mono ?_
  rintro e w2 ⟨rfl, hx⟩
  rw [Int.toNat_natCast]
  go_wp2
  go_ret
  exact ⟨rfl, hx⟩
set_option maxRecDepth 100000 in
set_option maxHeartbeats 1000000 in
theorem DirtyBoxes_any {v u : Value} {l : List Bx} {ms : List Int} (w : World) (hv : Rd w 9 v (Bs l)) (hu : Rd w 1 u (Is ms)) :
    Calls Try.prog 38 #[v, u] w fun e w' => ∃ v', e = .returned v' ∧ Own w' w.heap.size 1 v' (Is (ni (dbxL l ms))) ∧ Ext w w' := by
  have hrd := hv
  obtain ⟨a, c, rfl, hn, hc, _⟩ := hv.boxes
  obtain ⟨a2, c2, rfl, hn2, hc2, _⟩ := hu.ints
  unfold maxLen at hc hc2
  by_cases h : mkB l ms = true
  · obtain ⟨hval, _, hin⟩ := mkB_iff.1 h
    have HV := Lib.hid hval
    have HM := Lib.hid hin
    have hll := hval.hi
    have HF : Hid (filTo (covB l ms) l.length = dbxL l ms) := by
      show _ = _
      unfold dbxL
      rw [if_pos h]
      rfl
    clear hval hin hv
    go_enter Try.func38, Try.ntmps38
    go_wp2_with (fail)
    change Calls _ _ _ (w.alloc (.cells #[.slice a l.length c] 24)) _
    refine (marksIn_any (l := l) (ms := ms) _ (hrd.alloc _) (hu.alloc _)).mono ?_
    rintro e w1 ⟨he, hx⟩
    rw [h] at he
    subst he
    clear h
    have hb := after (Below.of_alloc w (.cells #[.slice a l.length c] 24)) hx (Nat.le_refl _)
    have hK := (Keep.new w (.cells #[.slice a l.length c] 24)).ext hx
    clear hx
    go_upto_region 4 with fail
    change Code.wp _ _ _ _ (w1.alloc (.cells #[] 3))
    replace hK := hK.alloc (.cells #[] 3)
    replace hb := hb.alloc hb.size (.cells #[] 3)
    generalize w1.alloc (.cells #[] 3) = W at *
    have ho : Own W (w.heap.size + 1) 1 (.slice (some ⟨w1.heap.size, 0, none⟩) 0 0) (Is (ni (filTo (covB l ms) 0))) := Own.empty _ _ _ _
    have kt0 : W.cell? ⟨w.heap.size, 0, none⟩ = some (.slice a l.length c) := hK.cell 0
    go_upto_region 5 with fail
    clear kt0
    go_loopw [5, 14] (fun s i wr => ∃ k : Nat, i = .int .i64 k ∧ k ≤ l.length ∧ Own wr (w.heap.size + 1) 1 s (Is (ni (filTo (covB l ms) k))) ∧ Keep w.heap.size (.cells #[.slice a l.length c] 24) wr ∧ Below w.heap.size w wr) (fun _ i _ => l.length - (intOf i).toNat)
    case atStart => exact ⟨0, rfl, Nat.zero_le _, ho, hK, hb⟩
    case round =>
      clear ho hK hb
      obtain ⟨k, rfl, hk, ho, hK, hb⟩ := hrel
      by_cases hlt : k < l.length
      · have hlti : (k : Int) < l.length := by omega
        have hsz := hb.size
        have hKl := hK.lt
        go_wp2_with (fail)
        change Calls _ _ _ (wr.alloc (.cells #[.int .i64 k] 3)) _
        have hKi := Keep.new wr (.cells #[.int .i64 (k : Int)] 3)
        replace hK := hK.alloc (.cells #[.int .i64 (k : Int)] 3)
        replace ho := ho.alloc (.cells #[.int .i64 (k : Int)] 3)
        replace hb := hb.alloc hsz (.cells #[.int .i64 (k : Int)] 3)
        generalize hgi : wr.heap.size = gi at hKi ⊢
        have hgi2 : w.heap.size < gi := by omega
        clear hgi
        generalize wr.alloc (.cells #[.int .i64 (k : Int)] 3) = W1 at *
        have ki : W1.cell? ⟨gi, 0, none⟩ = some (.int .i64 (k : Int)) := hKi.cell 0
        have kt : W1.cell? ⟨w.heap.size, 0, none⟩ = some (.slice a l.length c) := hK.cell 0
        refine (ContainsFunc_any (l := ms) dirtyEnter (fun m => arB l m.toNat k) _ (hu.below hb (Nat.le_refl _)) (fun x hx w' hw' => dirtyF_any HV.out hlt x (HM.out x hx).1 _ _ w' (cell_below hw' ki) (cell_below hw' kt) (hrd.below (after hb hw' (Nat.le_refl _)) (Nat.le_refl _)))).mono ?_
        rintro e w2 ⟨rfl, hx⟩
        by_cases hany : (ms.any fun m => arB l m.toNat k) = true
        · have HRB : Hid (covB l ms k = true) := hany
          rw [hany]
          have ki2 := cell_below hx ki
          replace ho := ho.below hx (Nat.le_refl _)
          replace hK := hK.ext hx
          replace hb := after hb hx (Nat.le_refl _)
          have hsz2 := hb.size
          have hKl2 := hK.lt
          clear hx hany ki kt hKi
          go_wp2_with (at_builtin; refine wpList_app rfl _ _ _ rfl el_int rfl (ho.alloc _) rfl (Rd.oneAt _ _ (by simp)) (Is_one [(k : Int)]) ?hl ?hb ?hK)
          case hl => have := filTo_le (covB l ms) k; rw [Is_length, ni_length]; simp; omega
          case hb => simp; omega
          intro v' w3 ho1 hg1 hf1
          have hb1 := below_app (hb.alloc (by omega) _) (ho.alloc _) hg1 (by simp; omega) (by omega)
          have hK1 : Keep w.heap.size (.cells #[.slice a l.length c] 24) w3 := (hK.alloc (.cells #[.int .i64 (k : Int)] 3)).grown hg1 (fun e => by have := ((ho.alloc (.cells #[.int .i64 (k : Int)] 3)).lt _ e).1; omega)
          clear ho hK hb hg1 hf1
          go_wp2
          go_roundw
          case rel => exact ⟨k + 1, by go_num, by omega, by rw [filTo_yes HRB.out, ni_append, Is_append]; exact ho1, hK1, hb1⟩
          case measure => simp [intOf]; omega
        · have hany' : (ms.any fun m => arB l m.toNat k) = false := by simpa using hany
          have HRB : Hid (covB l ms k = false) := hany'
          rw [hany']
          replace ho := ho.below hx (Nat.le_refl _)
          replace hK := hK.ext hx
          replace hb := after hb hx (Nat.le_refl _)
          clear hx hany hany' ki kt hKi
          go_wp2
          go_roundw
          case rel => exact ⟨k + 1, by go_num, by omega, by rw [filTo_no HRB.out]; exact ho, hK, hb⟩
          case measure => simp [intOf]; omega
      · obtain rfl : k = l.length := by omega
        rw [HF.out] at ho
        go_wp2_with (fail)
        refine (ClipI_any _ ho).mono ?_
        rintro e w2 ⟨v2, rfl, ho2, rfl⟩
        go_wp2
        go_ret
        exact ⟨_, rfl, ho2.weak (by omega), hb⟩
  · have h' : mkB l ms = false := by simpa using h
    have HD : Hid (dbxL l ms = []) := by
      show _ = _
      unfold dbxL
      rw [h']
      rfl
    clear h
    go_enter Try.func38, Try.ntmps38
    go_wp2_with (fail)
    change Calls _ _ _ (w.alloc (.cells #[.slice a l.length c] 24)) _
    refine (marksIn_any (l := l) (ms := ms) _ (hrd.alloc _) (hu.alloc _)).mono ?_
    rintro e w1 ⟨he, hx⟩
    rw [h'] at he
    subst he
    go_wp2
    go_ret
    exact ⟨_, rfl, by rw [HD.out]; exact Own.nil _ _ _, after (Below.of_alloc w _) hx (Nat.le_refl _)⟩
end Go.Proofs.Ytckggmbmlpikhaa
