/-
  The laws FnDirtyBoxesAll, FnDirtyRootsAgain, FnDirtyBoxesAround: the walks.
-/
import Derived.Test.YtmdlhjngiadlpaaSMark
import Derived.Test.YtmdlhjngiadlpaaDMark
import Derived.Test.YtmdlhjngiadlpaaTree2
namespace Go.Proofs.Ytmdlhjngiadlpaa
open Go Go.RowKit

/-- the one number of '[]int{x}' -/
theorem rd_one {w : World} {g : Nat} (x : Int) (e : TypeId) (hg : g = w.heap.size) : Rd (w.alloc (.cells #[.int .i64 x] e)) 1 (.slice (some ⟨g, 0, none⟩) 1 1) (Is [x]) := by
  have := Rd.oneAt (w := w) (g := g) #[.int .i64 x] e hg
  exact this
theorem mkB_sub {l : List Bx} {ms ns : List Int} (h : mkB l ms = true) (hn : ns.length ≤ 16) (hi : inMarks l ns) : mkB l ns = true :=
  mkB_iff.2 ⟨(mkB_iff.1 h).1, hn, hi⟩

section
variable {P : Program} {w : World} {ops : Array Oper} {rest : List Oper} {o : Oper} {a : Act} {Q : Exit → Act → World → Prop}
/-- append in a walk, behind a guard that holds -/
theorem wpList_appG (hg : Region.wanted o (yielded ops a.tmps) = true) (s x : Operand) (t : TypeId) (hop : o.op = Op.call { callee := Callee.builtin Builtin.append, args := #[s, x], argTypes := #[t, t] })
    {e : TypeId} {z : Value} {size bytes : Nat} (E : EL P t e z size bytes) {base : Nat} {v : Value} {xs : List Value} (hs : a.eval s = v) (hv : Own w base size v xs)
    {src : Value} {ys : List Value} (hx : a.eval x = src) (hsrc : Rd w size src ys) (h1 : ∀ y ∈ ys, y.oneCell' = true) (hlen : xs.length + ys.length ≤ 1073741824) (hbase : base ≤ w.heap.size)
    (hK : ∀ v' w', Own w' base size v' (xs ++ ys) → w.grownBy w' (blk v) → (blk v' = blk v ∨ ∃ k, blk v' = some k ∧ w.heap.size ≤ k) → wpList P ops Q rest (a.put o.dst v') w') :
    wpList P ops Q (o :: rest) a w := by
  refine wpList_step fun K hK' => ?_
  rw [if_pos hg]
  obtain ⟨v', w', hrun, r1, r2, r3⟩ := run_append_Own (P := P) (ty := o.type) E hv hsrc h1 hlen hbase
  unfold Oper.wp
  simp [execOp, hop, resolve, invoke, builtin, hs, hx, hrun, Result.andThen]
  exact hK' _ _ (hK v' w' r1 r2 r3)
end

set_option maxRecDepth 100000 in
set_option maxHeartbeats 4000000 in
theorem FnDirtyBoxesAll_any {v : Value} (w : World) (hv : RdBytes w v) :
    Calls Try.prog 8 #[v] w fun e w' => e = .returned (.bool true) ∧ Ext w w' := by
  have hv2 := hv
  obtain ⟨ad, n, c, rfl, hn, hc, _⟩ := hv
  unfold maxLen at hc
  by_cases hlen : 1048576 < n
  · have hlen' : (1048576 : Int) < n := by omega
    go_enter Try.func8, Try.ntmps8
    go_wp2
    go_ret
    exact ⟨rfl, Below.refl _ _⟩
  · have hlen' : ¬ ((1048576 : Int) < n) := by omega
    go_enter Try.func8, Try.ntmps8
    go_wp2_with (fail)
    refine (DrawDirtyBoxes_any _ hv2).mono ?_
    rintro e w1 ⟨v1, u1, rfl, l, ms, hl, hms, ho1, hu1, hb⟩
    have hrT := ho1.rd
    have hrM := hu1.rd
    clear ho1 hu1 hv2
    go_wp2_with (fail)
    refine (DirtyBoxes_any (l := l) (ms := ms) _ hrT hrM).mono ?_
    rintro e w2 ⟨v2, rfl, ho2, hx⟩
    replace hb := after hb hx (Nat.le_refl _)
    replace hrT := hrT.below hx (Nat.le_refl _)
    replace hrM := hrM.below hx (Nat.le_refl _)
    have hrO := ho2.rd
    clear ho2 hx
    go_wp2_with (fail)
    refine (sDirtyBoxes_any (l := l) (ms := ms) _ hrT hrM (by omega)).mono ?_
    rintro e w3 ⟨v3, rfl, ho3, hx⟩
    replace hb := after hb hx (Nat.le_refl _)
    replace hrT := hrT.below hx (Nat.le_refl _)
    replace hrM := hrM.below hx (Nat.le_refl _)
    replace hrO := hrO.below hx (Nat.le_refl _)
    have hrW := ho3.rd
    clear ho3 hx
    obtain ⟨aO, cO, rfl, hnO, hcO⟩ := hrO.len
    have hcO' : cO ≤ maxLen := hcO
    unfold maxLen at hcO'
    obtain ⟨aM, cM, rfl, hnM, hcM⟩ := hrM.len
    have hcM' : cM ≤ maxLen := hcM
    unfold maxLen at hcM'
    clear hcO hcM
    go_wp2_with (fail)
    refine (equalInts_any _ hrO hrW).mono ?_
    rintro e w4 ⟨rfl, hx⟩
    rw [show decide (ni (dbxL l ms) = ni (dbxL l ms)) = true by simp]
    replace hb := after hb hx (Nat.le_refl _)
    replace hrT := hrT.below hx (Nat.le_refl _)
    replace hrM := hrM.below hx (Nat.le_refl _)
    replace hrO := hrO.below hx (Nat.le_refl _)
    clear hx hrW
    by_cases hvb : vldB l = true
    · go_wp2_with (fail)
      refine ((ValidTree_any (l := l) _ hrT)).mono ?_
      rintro e w5 ⟨he, hx⟩
      rw [hvb] at he
      subst he
      replace hb := after hb hx (Nat.le_refl _)
      replace hrT := hrT.below hx (Nat.le_refl _)
      replace hrM := hrM.below hx (Nat.le_refl _)
      replace hrO := hrO.below hx (Nat.le_refl _)
      clear hx
      have hval := vldB_iff.1 hvb
      have hlo := hval.lo
      have hm0 : mkB l [0] = true := mkB_iff.2 ⟨hval, by simp, fun m hm => by simp at hm; omega⟩
      have hm1 : mkB l [] = true := mkB_iff.2 ⟨hval, by simp, fun m hm => by simp at hm⟩
      have HD0 : Hid ((ni (dbxL l [0])).length = l.length) := by
        show _ = _
        unfold dbxL
        rw [if_pos hm0, cov_all hval, ni_length, List.length_range]
      have HD1 : Hid ((ni (dbxL l [])).length = 0) := by
        show _ = _
        unfold dbxL
        rw [if_pos hm1, cov_none]
        rfl
      obtain ⟨aT, cT, rfl, hnT, hcT, _⟩ := hrT.boxes
      have hcT' : cT ≤ maxLen := hcT
      unfold maxLen at hcT'
      clear hval hvb hm0 hm1 hcT hrM hrO
      go_wp2_with (fail)
      refine (DirtyBoxes_any (l := l) (ms := [0]) _ (hrT.alloc _) (rd_one 0 _ rfl)).mono ?_
      rintro e w6 ⟨v6, rfl, ho6, hx⟩
      replace hb := after (hb.alloc hb.size _) hx (Nat.le_refl _)
      replace hrT := (hrT.alloc _).below hx (Nat.le_refl _)
      obtain ⟨a6, c6, rfl, hn6, hc6⟩ := ho6.rd.len
      have hc6' : c6 ≤ maxLen := hc6
      unfold maxLen at hc6'
      rw [HD0.out] at hn6 ⊢
      clear ho6 hx hc6
      go_wp2_with (fail)
      refine (DirtyBoxes_any (l := l) (ms := []) _ hrT (Rd.nil _ _)).mono ?_
      rintro e w7 ⟨v7, rfl, ho7, hx⟩
      replace hb := after hb hx (Nat.le_refl _)
      obtain ⟨a7, c7, rfl, hn7, hc7⟩ := ho7.rd.len
      have hc7' : c7 ≤ maxLen := hc7
      unfold maxLen at hc7'
      rw [HD1.out] at hn7 ⊢
      clear ho7 hx hc7
      go_wp2
      go_ret
      exact ⟨rfl, hb⟩
    · have hvb' : vldB l = false := by simpa using hvb
      go_wp2_with (fail)
      refine ((ValidTree_any (l := l) _ hrT)).mono ?_
      rintro e w5 ⟨he, hx⟩
      rw [hvb'] at he
      subst he
      replace hb := after hb hx (Nat.le_refl _)
      replace hrT := hrT.below hx (Nat.le_refl _)
      replace hrM := hrM.below hx (Nat.le_refl _)
      replace hrO := hrO.below hx (Nat.le_refl _)
      clear hx
      clear hvb
      go_wp2_with (fail)
      refine (sDirtyBoxes_any (l := l) (ms := ms) _ hrT hrM (by omega)).mono ?_
      rintro e w6 ⟨v6, rfl, ho6, hx⟩
      replace hb := after hb hx (Nat.le_refl _)
      replace hrO := hrO.below hx (Nat.le_refl _)
      have hrW := ho6.rd
      clear ho6 hx
      go_wp2_with (fail)
      refine (equalInts_any _ hrO hrW).mono ?_
      rintro e w7 ⟨rfl, hx⟩
      rw [show decide (ni (dbxL l ms) = ni (dbxL l ms)) = true by simp]
      replace hb := after hb hx (Nat.le_refl _)
      go_wp2
      go_ret
      exact ⟨rfl, hb⟩
set_option maxRecDepth 100000 in
set_option maxHeartbeats 1000000 in
theorem FnDirtyRootsAgain_any {v : Value} (w : World) (hv : RdBytes w v) :
    Calls Try.prog 13 #[v] w fun e w' => e = .returned (.bool true) ∧ Ext w w' := by
  have hv2 := hv
  obtain ⟨ad, n, c, rfl, hn, hc, _⟩ := hv
  unfold maxLen at hc
  by_cases hlen : 1048576 < n
  · have hlen' : (1048576 : Int) < n := by omega
    go_enter Try.func13, Try.ntmps13
    go_wp2
    go_ret
    exact ⟨rfl, Below.refl _ _⟩
  · have hlen' : ¬ ((1048576 : Int) < n) := by omega
    go_enter Try.func13, Try.ntmps13
    go_wp2_with (fail)
    refine (DrawDirtyRoots_any _ hv2).mono ?_
    rintro e w1 ⟨v1, u1, rfl, l, ms, hl, hms, ho1, hu1, hb⟩
    have hrT := ho1.rd
    have hrM := hu1.rd
    clear ho1 hu1 hv2
    go_wp2_with (fail)
    refine (DirtyRoots_any (l := l) (ms := ms) _ hrT hrM).mono ?_
    rintro e w2 ⟨v2, rfl, ho2, hx⟩
    replace hb := after hb hx (Nat.le_refl _)
    replace hrT := hrT.below hx (Nat.le_refl _)
    replace hrM := hrM.below hx (Nat.le_refl _)
    have hrO := ho2.rd
    clear ho2 hx
    go_wp2_with (fail)
    refine (sDirtyRoots_any (l := l) (ms := ms) _ hrT hrM (by omega)).mono ?_
    rintro e w3 ⟨v3, rfl, ho3, hx⟩
    replace hb := after hb hx (Nat.le_refl _)
    replace hrT := hrT.below hx (Nat.le_refl _)
    replace hrM := hrM.below hx (Nat.le_refl _)
    replace hrO := hrO.below hx (Nat.le_refl _)
    have hrW := ho3.rd
    clear ho3 hx
    obtain ⟨aO, cO, rfl, hnO, hcO⟩ := hrO.len
    have hcO' : cO ≤ maxLen := hcO
    unfold maxLen at hcO'
    obtain ⟨aM, cM, rfl, hnM, hcM⟩ := hrM.len
    have hcM' : cM ≤ maxLen := hcM
    unfold maxLen at hcM'
    clear hcO hcM
    go_wp2_with (fail)
    refine (equalInts_any _ hrO hrW).mono ?_
    rintro e w4 ⟨rfl, hx⟩
    rw [show decide (ni (drtL l ms) = ni (drtL l ms)) = true by simp]
    replace hb := after hb hx (Nat.le_refl _)
    replace hrT := hrT.below hx (Nat.le_refl _)
    replace hrM := hrM.below hx (Nat.le_refl _)
    replace hrO := hrO.below hx (Nat.le_refl _)
    clear hx hrW
    by_cases hz : drtL l ms = []
    · have hz3 : (((ni (drtL l ms)).length : Int) == 0) = true := by rw [hz]; rfl
      clear hz
      go_wp2_with (fail)
      refine (sDirtyRoots_any (l := l) (ms := ms) _ hrT hrM (by omega)).mono ?_
      rintro e w6 ⟨v6, rfl, ho6, hx⟩
      replace hb := after hb hx (Nat.le_refl _)
      replace hrO := hrO.below hx (Nat.le_refl _)
      have hrW := ho6.rd
      clear ho6 hx
      go_wp2_with (fail)
      refine (equalInts_any _ hrO hrW).mono ?_
      rintro e w7 ⟨rfl, hx⟩
      rw [show decide (ni (drtL l ms) = ni (drtL l ms)) = true by simp]
      replace hb := after hb hx (Nat.le_refl _)
      go_wp2
      go_ret
      exact ⟨rfl, hb⟩
    · have hmk : mkB l ms = true := by
        cases h : mkB l ms with
        | true => rfl
        | false => exact absurd (by unfold drtL; rw [h]; rfl) hz
      obtain ⟨hval, hm16, hin⟩ := mkB_iff.1 hmk
      have HDR : Hid (drtL l ms = rootsL l ms) := by
        show _ = _
        unfold drtL
        rw [if_pos hmk]
      have hpos : 0 < (ni (drtL l ms)).length := by
        rw [ni_length]
        exact List.length_pos_iff.2 hz
      have hne : (((ni (drtL l ms)).length : Int) == 0) = false := beq_eq_false_iff_ne.2 (by omega)
      have hlo := hval.lo
      have HA : Hid (drtL l (ni (drtL l ms)) = drtL l ms) := by
        show _ = _
        rw [HDR.out]
        unfold drtL
        rw [if_pos (mkB_iff.2 ⟨hval, by rw [ni_length]; exact roots_len hval, roots_in⟩), roots_roots]
      have HB : Hid (drtL l (ms ++ [0]) = [0]) := by
        have hin2 : inMarks l (ms ++ [0]) := fun m hm => by
          rw [List.mem_append, List.mem_singleton] at hm
          rcases hm with hm | rfl
          · exact hin m hm
          · exact ⟨by omega, by omega⟩
        show _ = _
        unfold drtL
        rw [if_pos (mkB_iff.2 ⟨hval, by simp; omega, hin2⟩)]
        exact roots_first hval hin2 (by simp)
      have hm16' : ((ms.length : Int) == 16) = false := beq_eq_false_iff_ne.2 (by omega)
      clear hz hval hin hmk
      go_wp2_with (fail)
      refine (DirtyRoots_any (l := l) (ms := ni (drtL l ms)) _ hrT hrO).mono ?_
      rintro e w6 ⟨v6, rfl, ho6, hx⟩
      rw [HA.out] at ho6
      replace hb := after hb hx (Nat.le_refl _)
      replace hrT := hrT.below hx (Nat.le_refl _)
      replace hrM := hrM.below hx (Nat.le_refl _)
      replace hrO := hrO.below hx (Nat.le_refl _)
      have hr6 := ho6.rd
      clear ho6 hx
      go_wp2_with (fail)
      refine (equalInts_any _ hr6 hrO).mono ?_
      rintro e w7 ⟨rfl, hx⟩
      rw [show decide (ni (drtL l ms) = ni (drtL l ms)) = true by simp]
      replace hb := after hb hx (Nat.le_refl _)
      replace hrT := hrT.below hx (Nat.le_refl _)
      replace hrM := hrM.below hx (Nat.le_refl _)
      have hs7 := hb.size
      clear hx hr6 hrO
      have hle := hms
      go_wp2_with (at_builtin; refine wpList_appG rfl _ _ _ rfl el_int rfl (Own.empty _ w7.heap.size 1 _) rfl (hrM.alloc (.cells #[] 3)) (Is_one ms) ?hl1 ?hb1 ?hK1)
      case hl1 => rw [Is_length]; simp; omega
      case hb1 => simp
      intro v8 w8 ho8 hg8 hf8
      have hb8 : Below w7.heap.size w7 w8 := after (Below.of_alloc w7 (.cells #[] 3)) (ext_app0 hg8) (Nat.le_refl _)
      have hs8 := hb8.size
      clear hg8 hf8 hrM
      go_wp2_with (at_builtin; refine wpList_appG rfl _ _ _ rfl el_int rfl (ho8.alloc _) rfl (rd_one 0 3 rfl) (Is_one [0]) ?hl2 ?hb2 ?hK2)
      case hl2 => simp only [Is_length]; simp; omega
      case hb2 => simp; omega
      intro v9 w9 ho9 hg9 hf9
      have hlt9 := fun k hk => ((ho8.alloc (.cells #[.int .i64 0] 3)).lt k hk).1
      have hb9 : Below w7.heap.size w7 w9 := (hb8.alloc hs8 (.cells #[.int .i64 0] 3)).grown hg9 (by simp; omega) hlt9
      replace hrT := hrT.below hb9 (Nat.le_refl _)
      replace hb := after hb hb9 (Nat.le_refl _)
      try rw [List.nil_append] at ho9
      rw [← Is_append] at ho9
      clear hb9 hlt9 hg9 hf9 ho8 hb8
      go_wp2_with (fail)
      refine (DirtyRoots_any (l := l) (ms := ms ++ [0]) _ hrT ho9.rd).mono ?_
      rintro e w10 ⟨v10, rfl, ho10, hx⟩
      rw [HB.out] at ho10
      replace hb := after hb hx (Nat.le_refl _)
      have hr10 := ho10.rd
      clear ho9 hx hrT ho10
      go_wp2_with (fail)
      refine (equalInts_any (m := [0]) _ (hr10.alloc _) (rd_one 0 3 rfl)).mono ?_
      rintro e w11 ⟨rfl, hx⟩
      rw [show decide (ni [0] = [(0 : Int)]) = true by rfl]
      replace hb := after (hb.alloc hb.size _) hx (Nat.le_refl _)
      go_wp2
      go_ret
      exact ⟨rfl, hb⟩
end Go.Proofs.Ytmdlhjngiadlpaa
