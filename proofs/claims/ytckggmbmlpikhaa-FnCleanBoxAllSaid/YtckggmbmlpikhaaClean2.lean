/-
  CleanBox, of the program and of the reference; DrawCleanBox.
-/
import Derived.Test.YtckggmbmlpikhaaClean
import Derived.Test.YtckggmbmlpikhaaDMark
import Derived.Test.YtckggmbmlpikhaaTree2
namespace Go.Proofs.Ytckggmbmlpikhaa
open Go Go.RowKit

/-- valid arguments of CleanBox, and what it returns -/
def clnOk (l : List Bx) (ms : List Int) (a : Int) : Bool := mkB l ms && inR a 0 ((l.length : Int) - 1)
def clnL (l : List Bx) (ms : List Int) (a : Int) : List Nat := if clnOk l ms a then cleanL l ms a.toNat else []
theorem clnOk_iff {l : List Bx} {ms : List Int} {a : Int} : clnOk l ms a = true ↔ mkB l ms = true ∧ 0 ≤ a ∧ a < l.length := by
  unfold clnOk
  rw [Bool.and_eq_true, inR_iff]
  constructor
  · rintro ⟨h, h1, h2⟩; exact ⟨h, h1, by omega⟩
  · rintro ⟨h, h1, h2⟩; exact ⟨h, h1, by omega⟩
theorem ni_filter (r : List Nat) (f : Nat → Bool) (g : Int → Bool) (h : ∀ k : Nat, g (k : Int) = f k) : ni (r.filter f) = (ni r).filter g := by
  unfold ni
  rw [List.filter_map]
  congr 1
  apply List.filter_congr
  intro k _
  exact (h k).symm
theorem rd_inl {l : List Bx} {ms : List Int} {j : Nat} {y : Int} (h : (ni (rootsL l ms))[j]? = some y) : ∃ k : Nat, y = (k : Int) ∧ k < l.length ∧ (rootsL l ms)[j]? = some k := by
  unfold ni at h
  rw [List.getElem?_map] at h
  obtain ⟨k, hk, rfl⟩ := Option.map_eq_some_iff.1 h
  exact ⟨k, rfl, (mem_roots.1 (List.mem_of_getElem? hk)).1, hk⟩

theorem cleanEnter (args : Array Value) (w : World) : (callFunc 77 args).run Try.prog w = .ok (.enter 77 args) w := by
  kernel_rfl
set_option maxHeartbeats 1000000 in
theorem cleanF_any {v : Value} {l : List Bx} {a : Int} (hval : Valid l) (ha : 0 ≤ a) (m : Int) (hm0 : 0 ≤ m) (hm1 : m < l.length) (g1 g2 : Nat) (w : World) (h1 : w.cell? ⟨g1, 0, none⟩ = some v) (h2 : w.cell? ⟨g2, 0, none⟩ = some (.int .i64 a)) (hv : Rd w 9 v (Bs l)) :
    Calls Try.prog 77 #[.int .i64 m, .pointer (some ⟨g1, 0, none⟩), .pointer (some ⟨g2, 0, none⟩)] w fun e w' => e = .returned (.bool (arB l a.toNat m.toNat)) ∧ Ext w w' := by
  have hrd := hv
  obtain ⟨ad, c, rfl, hn, hc, _⟩ := hv.boxes
  unfold maxLen at hc
  have hd := hval.down (i := m.toNat) (by omega)
  have hll := hval.hi
  clear hval
  go_enter Try.func77, Try.ntmps77
  go_wp2_with (fail)
  refine (around_any (l := l) (a := a) (i := m) _ ha hm0 hm1 hrd hd (by omega)).mono ?_
  rintro e w2 ⟨rfl, hx⟩
  go_wp2
  go_ret
  exact ⟨rfl, hx⟩

set_option maxRecDepth 100000 in
set_option maxHeartbeats 1000000 in
theorem CleanBox_any {v u : Value} {l : List Bx} {ms : List Int} (a : Int) (w : World) (hv : Rd w 9 v (Bs l)) (hu : Rd w 1 u (Is ms)) :
    Calls Try.prog 42 #[v, u, .int .i64 a] w fun e w' => ∃ v', e = .returned (.tuple #[v', .bool (clnOk l ms a)]) ∧ Own w' w.heap.size 1 v' (Is (ni (clnL l ms a))) ∧ Ext w w' := by
  have hrd := hv
  obtain ⟨ad, c, rfl, hn, hc, _⟩ := hv.boxes
  obtain ⟨a2, c2, rfl, hn2, hc2, _⟩ := hu.ints
  unfold maxLen at hc hc2
  have hb : Below w.heap.size w ((w.alloc (.cells #[.slice ad l.length c] 24)).alloc (.cells #[.int .i64 a] 3)) := (Below.of_alloc _ _).alloc (by simp) _
  have hK : Keep w.heap.size (.cells #[.slice ad l.length c] 24) ((w.alloc (.cells #[.slice ad l.length c] 24)).alloc (.cells #[.int .i64 a] 3)) := (Keep.new w _).alloc _
  have hK2 : Keep (w.heap.size + 1) (.cells #[.int .i64 a] 3) ((w.alloc (.cells #[.slice ad l.length c] 24)).alloc (.cells #[.int .i64 a] 3)) := by
    have := Keep.new (w.alloc (.cells #[.slice ad l.length c] 24)) (.cells #[.int .i64 a] 3)
    rw [show (w.alloc (.cells #[.slice ad l.length c] 24)).heap.size = w.heap.size + 1 by simp] at this
    exact this
  clear hv
  by_cases hmk : mkB l ms = true
  · by_cases hin : inR a 0 ((l.length : Int) - 1) = true
    · have hok : clnOk l ms a = true := by unfold clnOk; rw [hmk, hin]; rfl
      obtain ⟨_, ha0, hal⟩ := clnOk_iff.1 hok
      obtain ⟨hval, hm16, hins⟩ := mkB_iff.1 hmk
      have HV := Lib.hid hval
      have HI := Lib.hid hins
      have HOK := Lib.hid hok
      have hll := hval.hi
      have HC : Hid (ni (clnL l ms a) = (ni (rootsL l ms)).filter fun x => !arB l a.toNat x.toNat) := by
        show _ = _
        unfold clnL
        rw [if_pos hok]
        unfold cleanL
        exact ni_filter _ _ _ (fun k => by rw [Int.toNat_natCast])
      have HLEN : Hid ((ni (rootsL l ms)).length ≤ 1000) := by
        show _ ≤ _
        rw [ni_length]
        exact Nat.le_trans (roots_len hval) (by decide)
      have HRT : Hid (∀ x, x ∈ ni (rootsL l ms) → 0 ≤ x ∧ x < l.length) := roots_in
      clear hval hins hok
      go_enter Try.func42, Try.ntmps42
      go_wp2_with (fail)
      change Calls _ _ _ ((w.alloc (.cells #[.slice ad l.length c] 24)).alloc (.cells #[.int .i64 a] 3)) _
      generalize (w.alloc (.cells #[.slice ad l.length c] 24)).alloc (.cells #[.int .i64 a] 3) = W at *
      refine (marksIn_any (l := l) (ms := ms) _ (hrd.below hb (Nat.le_refl _)) (hu.below hb (Nat.le_refl _))).mono ?_
      rintro e w1 ⟨he, hx⟩
      rw [hmk] at he
      subst he
      replace hb := after hb hx (Nat.le_refl _)
      replace hK := hK.ext hx
      replace hK2 := hK2.ext hx
      clear hx
      have kt : w1.cell? ⟨w.heap.size, 0, none⟩ = some (.slice ad l.length c) := hK.cell 0
      have ka : w1.cell? ⟨w.heap.size + 1, 0, none⟩ = some (.int .i64 a) := hK2.cell 0
      go_wp2_with (fail)
      refine (within_any _ _ _ _).mono ?_
      rintro e w2 ⟨he, rfl⟩
      rw [hin] at he
      subst he
      go_wp2_with (fail)
      refine (roots_any (l := l) (ms := ms) HV.out HI.out _ (hrd.below hb (Nat.le_refl _)) (hu.below hb (Nat.le_refl _))).mono ?_
      rintro e w2 ⟨v2, rfl, ho2, hx⟩
      have hsz := hb.size
      have hKl := hK2.lt
      have ho2' := ho2
      obtain ⟨a6, n6, c6, rfl, _, _, _, _⟩ := ho2
      replace hb := after hb hx (Nat.le_refl _)
      have kt2 := cell_below hx kt
      have ka2 := cell_below hx ka
      have hs2 := hx.size
      clear hx kt ka hK hK2
      go_wp2_with (fail)
      refine (DeleteFunc_any (l := ni (rootsL l ms)) cleanEnter (fun x => arB l a.toNat x.toNat) _ ho2' HLEN.out hs2 (fun x hx w' hw' => cleanF_any HV.out ha0 x (HRT.out x hx).1 (HRT.out x hx).2 _ _ w'
        (by rw [hw'.cell (show w.heap.size < w1.heap.size by omega)]; exact kt2) (by rw [hw'.cell (show w.heap.size + 1 < w1.heap.size from hKl)]; exact ka2) (hrd.below (hb.trans (hw'.mono hsz)) (Nat.le_refl _)))).mono ?_
      rintro e w3 ⟨v3, rfl, ho3, hx3⟩
      have hb3 := hb.trans (hx3.mono hsz)
      have HO := Lib.hid (ho3.weak hsz)
      clear kt2 ka2 ho2' hx3
      go_wp2_with (fail)
      refine (ClipI_any _ HO.out).mono ?_
      rintro e w4 ⟨v4, rfl, ho4, rfl⟩
      go_wp2
      go_ret2
      exact ⟨_, by rw [HOK.out]; rfl, by rw [HC.out]; exact ho4, hb3⟩
    · have hin' : inR a 0 ((l.length : Int) - 1) = false := by simpa using hin
      have HOK : Hid (clnOk l ms a = false) := by
        show _ = _
        unfold clnOk
        rw [hin']
        simp
      have HC : Hid (clnL l ms a = []) := by
        show _ = _
        unfold clnL
        rw [HOK.out]
        rfl
      have hll := (mkB_iff.1 hmk).1.hi
      clear hin
      go_enter Try.func42, Try.ntmps42
      go_wp2_with (fail)
      change Calls _ _ _ ((w.alloc (.cells #[.slice ad l.length c] 24)).alloc (.cells #[.int .i64 a] 3)) _
      generalize (w.alloc (.cells #[.slice ad l.length c] 24)).alloc (.cells #[.int .i64 a] 3) = W at *
      refine (marksIn_any (l := l) (ms := ms) _ (hrd.below hb (Nat.le_refl _)) (hu.below hb (Nat.le_refl _))).mono ?_
      rintro e w1 ⟨he, hx⟩
      rw [hmk] at he
      subst he
      replace hb := after hb hx (Nat.le_refl _)
      replace hK := hK.ext hx
      replace hK2 := hK2.ext hx
      clear hx
      have kt : w1.cell? ⟨w.heap.size, 0, none⟩ = some (.slice ad l.length c) := hK.cell 0
      have ka : w1.cell? ⟨w.heap.size + 1, 0, none⟩ = some (.int .i64 a) := hK2.cell 0
      go_wp2_with (fail)
      refine (within_any _ _ _ _).mono ?_
      rintro e w2 ⟨he, rfl⟩
      rw [hin'] at he
      subst he
      go_wp2
      go_ret2
      exact ⟨_, by rw [HOK.out]; rfl, by rw [HC.out]; exact Own.nil _ _ _, hb⟩
  · have hmk' : mkB l ms = false := by simpa using hmk
    have HOK : Hid (clnOk l ms a = false) := by
      show _ = _
      unfold clnOk
      rw [hmk']
      rfl
    have HC : Hid (clnL l ms a = []) := by
      show _ = _
      unfold clnL
      rw [HOK.out]
      rfl
    clear hmk
    have hmk := hmk'
    clear hmk'
    go_enter Try.func42, Try.ntmps42
    go_wp2_with (fail)
    change Calls _ _ _ ((w.alloc (.cells #[.slice ad l.length c] 24)).alloc (.cells #[.int .i64 a] 3)) _
    generalize (w.alloc (.cells #[.slice ad l.length c] 24)).alloc (.cells #[.int .i64 a] 3) = W at *
    refine (marksIn_any (l := l) (ms := ms) _ (hrd.below hb (Nat.le_refl _)) (hu.below hb (Nat.le_refl _))).mono ?_
    rintro e w1 ⟨he, hx⟩
    rw [hmk] at he
    subst he
    replace hb := after hb hx (Nat.le_refl _)
    replace hK := hK.ext hx
    replace hK2 := hK2.ext hx
    clear hx
    have kt : w1.cell? ⟨w.heap.size, 0, none⟩ = some (.slice ad l.length c) := hK.cell 0
    have ka : w1.cell? ⟨w.heap.size + 1, 0, none⟩ = some (.int .i64 a) := hK2.cell 0
    go_wp2
    go_ret2
    exact ⟨_, by rw [HOK.out]; rfl, by rw [HC.out]; exact Own.nil _ _ _, hb⟩
set_option maxRecDepth 100000 in
set_option maxHeartbeats 1000000 in
theorem sCleanBox_any {v u : Value} {l : List Bx} {ms : List Int} (a : Int) (w : World) (hv : Rd w 9 v (Bs l)) (hu : Rd w 1 u (Is ms)) (hl : l.length ≤ 1048576) :
    Calls Try.prog 43 #[v, u, .int .i64 a] w fun e w' => ∃ v', e = .returned (.tuple #[v', .bool (clnOk l ms a)]) ∧ Own w' w.heap.size 1 v' (Is (ni (clnL l ms a))) ∧ Ext w w' := by
  have hrd := hv
  obtain ⟨ad, c, rfl, hn, hc, _⟩ := hv.boxes
  obtain ⟨a2, c2, rfl, hn2, hc2, _⟩ := hu.ints
  unfold maxLen at hc hc2
  clear hv
  by_cases hmk : mkB l ms = true
  · by_cases hin : inR a 0 ((l.length : Int) - 1) = true
    · have hok : clnOk l ms a = true := by unfold clnOk; rw [hmk, hin]; rfl
      obtain ⟨_, ha0, hal⟩ := clnOk_iff.1 hok
      obtain ⟨hval, hm16, hins⟩ := mkB_iff.1 hmk
      have HV := Lib.hid hval
      have HI := Lib.hid hins
      have HOK := Lib.hid hok
      have hll := hval.hi
      obtain ⟨P, hP⟩ : ∃ P : Int → Bool, P = fun x => arB l a.toNat x.toNat := ⟨_, rfl⟩
      have HC : Hid (kp (ni (rootsL l ms)) P (ni (rootsL l ms)).length = ni (clnL l ms a)) := by
        show _ = _
        unfold clnL kp
        rw [if_pos hok, List.take_of_length_le (Nat.le_refl _), hP]
        unfold cleanL
        exact (ni_filter _ _ _ (fun k => by show (!arB l a.toNat (k : Int).toNat) = _; rw [Int.toNat_natCast])).symm
      have hlen : (ni (rootsL l ms)).length ≤ 16 := by
        rw [ni_length]
        exact roots_len hval
      have HRT : Hid (∀ x, x ∈ ni (rootsL l ms) → 0 ≤ x ∧ x < l.length) := roots_in
      have HP : Hid (∀ x, arB l a.toNat x.toNat = P x) := fun x => by rw [hP]
      have HKL : Hid (∀ j, (kp (ni (rootsL l ms)) P j).length ≤ j) := fun j => by
        unfold kp
        exact Nat.le_trans (List.length_filter_le _ _) (by rw [List.length_take]; omega)
      clear hval hins hok hP
      go_enter Try.func43, Try.ntmps43
      go_wp2_with (fail)
      refine (validMarks_any (l := l) (ms := ms) _ (hrd.alloc _) (hu.alloc _) (by omega)).mono ?_
      rintro e w1 ⟨he, hx⟩
      rw [hmk] at he
      subst he
      have hb := after (Below.of_alloc w _) hx (Nat.le_refl _)
      clear hx
      go_wp2_with (fail)
      refine (inRange_any _ _ _ _).mono ?_
      rintro e w2 ⟨he, rfl⟩
      rw [hin] at he
      subst he
      go_wp2_with (fail)
      refine (sroots_any (l := l) (ms := ms) HV.out HI.out _ (hrd.below hb (Nat.le_refl _)) (hu.below hb (Nat.le_refl _))).mono ?_
      rintro e w2 ⟨v2, rfl, ho2, hx⟩
      replace hb := after hb hx (Nat.le_refl _)
      have hrR := ho2.rd
      clear ho2 hx hmk hin
      generalize ni (rootsL l ms) = R at *
      obtain ⟨aR, cR, rfl, hnR, hcR, hcell⟩ := hrR.ints
      have hcR' : cR ≤ maxLen := hcR
      unfold maxLen at hcR'
      clear hcell hcR
      go_wp2
      go_loopw [8, 10] (fun s i wr => ∃ j : Nat, i = .int .i64 j ∧ j ≤ R.length ∧ Own wr w2.heap.size 1 s (Is (kp R P j)) ∧ Below w2.heap.size w2 wr) (fun _ i _ => R.length - (intOf i).toNat)
      case atStart => exact ⟨0, rfl, Nat.zero_le _, Own.empty _ _ _ _, Below.refl _ _⟩
      case round =>
        obtain ⟨j, rfl, hj, ho, hbw⟩ := hrel
        by_cases hlt : j < R.length
        · have hlti : (j : Int) < R.length := by omega
          obtain ⟨y, hy⟩ : ∃ y, R[j]? = some y := ⟨_, List.getElem?_eq_getElem hlt⟩
          obtain ⟨aR', cR', eR, _, _, hcell⟩ := (hrR.below hbw (Nat.le_refl _)).ints
          cases eR
          obtain ⟨bR, offR, rfl, hcc⟩ := hcell j _ hy
          have ck := hcc j _ hy
          obtain ⟨hy0, hy1⟩ := HRT.out y (List.mem_of_getElem? hy)
          have HY := Lib.hid hy
          have hkl := HKL.out j
          have hsz := hbw.size
          clear hcell hcc hy
          by_cases hp : P y = true
          · have HPY := Lib.hid hp
            clear hp
            go_wp2_with (fail)
            refine (saround_any (l := l) (a := a) (i := y) _ ha0 hy0 hy1 (hrd.below (after hb hbw (Nat.le_refl _)) (Nat.le_refl _)) (HV.out.down (by omega))).mono ?_
            rintro e w3 ⟨he, rfl⟩
            rw [HP.out y, HPY.out] at he
            subst he
            clear ck
            go_wp2
            go_roundw
            case rel => exact ⟨j + 1, by go_num, by omega, by rw [kp_yes HY.out HPY.out]; exact ho, hbw⟩
            case measure => simp [intOf]; omega
          · have HPY : Hid (P y = false) := by
              show _ = _
              simpa using hp
            clear hp
            go_wp2_with (fail)
            refine (saround_any (l := l) (a := a) (i := y) _ ha0 hy0 hy1 (hrd.below (after hb hbw (Nat.le_refl _)) (Nat.le_refl _)) (HV.out.down (by omega))).mono ?_
            rintro e w3 ⟨he, rfl⟩
            rw [HP.out y, HPY.out] at he
            subst he
            go_wp2_with (at_builtin; refine wpList_app rfl _ _ _ rfl el_int rfl (ho.alloc _) rfl (Rd.oneAt _ _ (by simp)) (Is_one [y]) ?hl ?hb ?hK)
            case hl =>
              have : (kp R P j).length + 1 ≤ 1073741824 := by omega
              rw [Is_length]
              simpa using this
            case hb => first | omega | (simp; omega)
            intro v4 w4 ho4 hg4 hf4
            have hb4 := below_app (hbw.alloc (by omega) _) (ho.alloc _) hg4 (by simp; omega) (Nat.le_refl _)
            clear ho hbw hg4 hf4 ck
            go_wp2
            go_roundw
            case rel => exact ⟨j + 1, by go_num, by omega, by rw [kp_no HY.out HPY.out, Is_append]; exact ho4, hb4⟩
            case measure => simp [intOf]; omega
        · obtain rfl : j = R.length := by omega
          rw [HC.out] at ho
          have hs2 := hb.size
          go_wp2
          go_ret2
          exact ⟨_, by rw [HOK.out]; rfl, ho.weak hs2, after hb hbw (Nat.le_refl _)⟩
    · have hin' : inR a 0 ((l.length : Int) - 1) = false := by simpa using hin
      have HOK : Hid (clnOk l ms a = false) := by
        show _ = _
        unfold clnOk
        rw [hin']
        simp
      have HC : Hid (clnL l ms a = []) := by
        show _ = _
        unfold clnL
        rw [HOK.out]
        rfl
      have hll := (mkB_iff.1 hmk).1.hi
      clear hin
      go_enter Try.func43, Try.ntmps43
      go_wp2_with (fail)
      refine (validMarks_any (l := l) (ms := ms) _ (hrd.alloc _) (hu.alloc _) (by omega)).mono ?_
      rintro e w1 ⟨he, hx⟩
      rw [hmk] at he
      subst he
      have hb := after (Below.of_alloc w _) hx (Nat.le_refl _)
      clear hx
      go_wp2_with (fail)
      refine (inRange_any _ _ _ _).mono ?_
      rintro e w2 ⟨he, rfl⟩
      rw [hin'] at he
      subst he
      go_wp2
      go_ret2
      exact ⟨_, by rw [HOK.out]; rfl, by rw [HC.out]; exact Own.nil _ _ _, hb⟩
  · have hmk' : mkB l ms = false := by simpa using hmk
    have HOK : Hid (clnOk l ms a = false) := by
      show _ = _
      unfold clnOk
      rw [hmk']
      rfl
    have HC : Hid (clnL l ms a = []) := by
      show _ = _
      unfold clnL
      rw [HOK.out]
      rfl
    clear hmk
    have hmk := hmk'
    clear hmk'
    go_enter Try.func43, Try.ntmps43
    go_wp2_with (fail)
    refine (validMarks_any (l := l) (ms := ms) _ (hrd.alloc _) (hu.alloc _) (by omega)).mono ?_
    rintro e w1 ⟨he, hx⟩
    rw [hmk] at he
    subst he
    have hb := after (Below.of_alloc w _) hx (Nat.le_refl _)
    clear hx
    go_wp2
    go_ret2
    exact ⟨_, by rw [HOK.out]; rfl, by rw [HC.out]; exact Own.nil _ _ _, hb⟩
set_option maxHeartbeats 1000000 in
theorem DrawCleanBox_any {v : Value} (w : World) (hv : RdBytes w v) :
    Calls Try.prog 41 #[v] w fun e w' => ∃ (v' u' : Value) (i : Int), e = .returned (.tuple #[v', u', .int .i64 i]) ∧ ∃ (l : List Bx) (ms : List Int), l.length ≤ 16 ∧ ms.length ≤ 7 ∧ -1 ≤ i ∧ i ≤ 16 ∧ Own w' w.heap.size 9 v' (Bs l) ∧ Own w' w.heap.size 1 u' (Is ms) ∧ Ext w w' := by
  go_enter Try.func41, Try.ntmps41
  go_wp2_with (fail)
  refine (newReader_any _ hv).mono ?_
  rintro e w1 ⟨rfl, hr1, hx1⟩
  go_wp2_with (fail)
  refine (anyTree_any _ hr1 (by omega)).mono ?_
  rintro e w2 ⟨v2, rfl, l, hl, ho2, hr2, hx2⟩
  have hb2 := afterR (bel_of hx1) hx2 (Nat.le_refl _)
  have hR := hr2.lt
  have hR1 := hr1.lt
  have hs1 := hx1.size
  clear hr1 hx1 hx2
  go_wp2_with (fail)
  refine (someMarks_any (l := l) _ hr2 (by omega) ho2.rd hl).mono ?_
  rintro e w3 ⟨v3, rfl, ms, hms, ho3, hr3, hx3⟩
  have hs2 := hb2.size
  have hb3 := afterR hb2 hx3 (Nat.le_refl _)
  have ho2' := ho2.bel hx3 hR1
  clear hx3 hr2 ho2
  go_wp2_with (fail)
  refine (someAt_any (l := l) _ hr3 (by omega) ho2'.rd hl).mono ?_
  rintro e w4 ⟨i, rfl, hi0, hi1, hr4, hx4⟩
  have hb4 := below_of_bel (afterR hb3 hx4 (Nat.le_refl _)) (Nat.le_refl _)
  have ho2'' := ho2'.bel hx4 hR1
  have ho3' := ho3.bel hx4 (by omega)
  go_wp2
  go_ret3
  exact ⟨_, _, i, rfl, l, ms, hl, hms, hi0, hi1, ho2''.weak hs1, ho3'.weak hs2, hb4⟩
end Go.Proofs.Ytckggmbmlpikhaa
