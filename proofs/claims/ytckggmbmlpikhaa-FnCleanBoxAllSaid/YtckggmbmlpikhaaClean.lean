/-
  CleanBox, of the program and of the reference; slices.DeleteFunc.
-/
import Derived.Test.YtckggmbmlpikhaaSMark
import Derived.Lib.SliceRun
namespace Go.Proofs.Ytckggmbmlpikhaa
open Go Go.RowKit

theorem Own.setBeyond {w : World} {base size b off n c : Nat} {xs : List Value} (h : Own w base size (.slice (some ⟨b, off, none⟩) n c) xs) {o : Nat} (ho : off + n * size ≤ o) (u : Value) :
    Own (w.setCell ⟨b, o, none⟩ u) base size (.slice (some ⟨b, off, none⟩) n c) xs := by
  obtain ⟨a, n', c', e, hl, hn, hc, h⟩ := h
  cases e
  refine ⟨_, n, c, rfl, hl, hn, hc, ?_⟩
  rcases h with rfl | ⟨g, off', cur, e, e', hg, hh, hs, ht⟩
  · exact .inl rfl
  · cases e'
    refine .inr ⟨b, off, cur.setIfInBounds o u, e, rfl, hg, ?_, by simpa using hs, ?_⟩
    · simp only [World.setCell, Array.getElem?_modify]
      simp [hh]
    · rw [← ht]
      apply List.ext_getElem?
      intro i
      simp only [List.getElem?_take, List.getElem?_drop, Array.toList_setIfInBounds, List.getElem?_set]
      by_cases hi : i < n * size
      · rw [if_pos hi, if_pos hi, if_neg (by omega)]
      · rw [if_neg hi, if_neg hi]
theorem Own.setCellsBeyond {base size b off n c : Nat} {xs : List Value} : ∀ (vs : List Value) (o : Nat) (w : World), Own w base size (.slice (some ⟨b, off, none⟩) n c) xs → off + n * size ≤ o → Own (w.setCells b o vs) base size (.slice (some ⟨b, off, none⟩) n c) xs
  | [], _, _, h, _ => h
  | _ :: r, o, _, h, ho => Own.setCellsBeyond r (o + 1) _ (h.setBeyond ho _) (by omega)
theorem below_setCells {B b : Nat} {w0 : World} (hb : B ≤ b) : ∀ (vs : List Value) (o : Nat) (w : World), Below B w0 w → Below B w0 (w.setCells b o vs)
  | [], _, _, h => h
  | v :: r, o, _, h => below_setCells hb r (o + 1) _ (h.setCell (p := ⟨b, o, none⟩) hb v)
theorem Own.shorter {w : World} {base b off n m c : Nat} {xs ys : List Int} (h : Own w base 1 (.slice (some ⟨b, off, none⟩) n c) (Is (xs ++ ys))) (hm : xs.length = m) : Own w base 1 (.slice (some ⟨b, off, none⟩) m c) (Is xs) := by
  obtain ⟨a, n', c', e, hl, hn, hc, h⟩ := h
  cases e
  rw [Is_length, List.length_append] at hl
  refine ⟨_, m, c, rfl, by rw [Is_length]; omega, by omega, hc, ?_⟩
  rcases h with rfl | ⟨g, off', cur, e, e', hg, hh, hs, ht⟩
  · exact .inl rfl
  · cases e'
    refine .inr ⟨b, off, cur, e, rfl, hg, hh, hs, ?_⟩
    have h2 := congrArg (List.take m) ht
    rw [List.take_take, Is_append, List.take_left' (by rw [Is_length]; exact hm), Nat.min_eq_left (by omega)] at h2
    rw [Nat.mul_one]
    exact h2

section
variable {P : Program} {w : World} {ops : Array Oper} {rest : List Oper} {o : Oper} {a : Act} {Q : Exit → Act → World → Prop}
/-- clear in a walk -/
theorem wpList_clear (hg : o.guard = none) (x : Operand) (t : TypeId) (hop : o.op = Op.call { callee := Callee.builtin Builtin.clear, args := #[x], argTypes := #[t] })
    {src : Value} (hx : a.eval x = src) {w' : World} (hr : ∀ ty, (Builtin.clear_ #[t] ty #[src]).run P w = .ok (.tuple #[]) w')
    (hK : wpList P ops Q rest (a.put o.dst (.tuple #[])) w') : wpList P ops Q (o :: rest) a w := by
  refine wpList_plain hg fun K hK' => ?_
  unfold Oper.wp
  simp [execOp, hop, resolve, invoke, builtin, hx, hr, Result.andThen]
  exact hK' _ _ hK
end

set_option maxRecDepth 100000 in
set_option maxHeartbeats 400000 in
theorem IndexFunc2_any {v c1 c2 : Value} {l : List Int} {N : Nat} (hN : ∀ args w', (callFunc N args).run Try.prog w' = .ok (.enter N args) w') (p : Int → Bool) (w : World) (hv : Rd w 1 v (Is l))
    (hf : ∀ x, x ∈ l → ∀ w', Below w.heap.size w w' → Calls Try.prog N #[.int .i64 x, c1, c2] w' fun e w'' => e = .returned (.bool (p x)) ∧ Ext w' w'') :
    Calls Try.prog 95 #[v, .func (.func N) #[] #[c1, c2]] w fun e w' => ∃ r : Int, e = .returned (.int .i64 r) ∧ ((r = -1 ∧ l.any p = false) ∨ ∃ k : Nat, r = k ∧ (l.take k).any p = false ∧ ∃ y, l[k]? = some y ∧ p y = true) ∧ Ext w w' := by
  obtain ⟨a, c, rfl, hn, hc, hcell⟩ := hv.ints
  clear hv
  unfold maxLen at hc
  have HF := Lib.hid hf
  clear hf
  go_enter Try.func95, Try.ntmps95
  go_wp2
  go_loopw [8] (fun i wr => ∃ k : Nat, k ≤ l.length ∧ i = .int .i64 k ∧ (l.take k).any p = false ∧ Below w.heap.size w wr) (fun i _ => l.length - (intOf i).toNat)
  case atStart => exact ⟨0, Nat.zero_le _, rfl, by simp, Below.refl _ _⟩
  case round =>
    obtain ⟨k, hk, rfl, hx, hb⟩ := hrel
    have Hx := Lib.hid hx
    clear hx
    by_cases hlt : k < l.length
    · obtain ⟨y, hy⟩ : ∃ y, l[k]? = some y := ⟨_, List.getElem?_eq_getElem hlt⟩
      obtain ⟨b, off, rfl, hC⟩ := hcell k y hy
      have hck := cell_below hb (hC k y hy)
      have Hy := Lib.hid hy
      clear hcell hC hy
      have hlti : (k : Int) < l.length := by omega
      by_cases hp : p y = true
      · have HP := Lib.hid hp
        clear hp
        go_wp2_with (fail)
        refine (HF.out y (List.mem_of_getElem? Hy.out) _ hb).mono ?_
        rintro e w2 ⟨he, hx⟩
        rw [HP.out] at he
        subst he
        go_wp2
        go_ret
        exact ⟨k, rfl, .inr ⟨k, rfl, Hx.out, y, Hy.out, HP.out⟩, after hb hx (Nat.le_refl _)⟩
      · have HP : Hid (p y = false) := by
          show _ = _
          simpa using hp
        clear hp
        go_wp2_with (fail)
        refine (HF.out y (List.mem_of_getElem? Hy.out) _ hb).mono ?_
        rintro e w2 ⟨he, hx⟩
        rw [HP.out] at he
        subst he
        go_wp2
        go_roundw
        case rel => exact ⟨k + 1, by omega, by go_num, any_take_succ Hy.out Hx.out HP.out, after hb hx (Nat.le_refl _)⟩
        case measure => simp [intOf]; omega
    · go_wp2
      go_ret
      refine ⟨-1, rfl, .inl ⟨rfl, ?_⟩, hb⟩
      have := Hx.out
      rw [List.take_of_length_le (by omega)] at this
      exact this

/-- what is kept of the first j numbers -/
def kp (l : List Int) (p : Int → Bool) (j : Nat) : List Int := (l.take j).filter fun x => !p x
theorem kp_yes {l : List Int} {p : Int → Bool} {j : Nat} {y : Int} (hy : l[j]? = some y) (h : p y = true) : kp l p (j + 1) = kp l p j := by
  unfold kp
  rw [List.take_add_one, hy, List.filter_append]
  simp [h]
theorem kp_no {l : List Int} {p : Int → Bool} {j : Nat} {y : Int} (hy : l[j]? = some y) (h : p y = false) : kp l p (j + 1) = kp l p j ++ [y] := by
  unfold kp
  rw [List.take_add_one, hy, List.filter_append]
  simp [h]
theorem filter_none {l : List Int} {p : Int → Bool} (h : l.any p = false) : (l.filter fun x => !p x) = l := by
  rw [List.filter_eq_self]
  intro x hx
  rw [List.any_eq_false] at h
  have := h x hx
  simpa using this
theorem kp_start {l : List Int} {p : Int → Bool} {k : Nat} {y : Int} (hpre : (l.take k).any p = false) (hy : l[k]? = some y) (h : p y = true) : kp l p (k + 1) = l.take k := by
  rw [kp_yes hy h]
  exact filter_none hpre
theorem set_mid {A : List Int} {l : List Int} {i : Nat} (hA : A.length = i) (hi : i < l.length) (y : Int) : (A ++ l.drop i).set i y = (A ++ [y]) ++ l.drop (i + 1) := by
  rw [List.set_append_right _ _ (by omega), hA, Nat.sub_self, List.drop_eq_getElem_cons hi, List.set_cons_zero, List.append_assoc]
  rfl

set_option maxRecDepth 100000 in
set_option maxHeartbeats 1000000 in
theorem DeleteFunc_any {base : Nat} {v c1 c2 : Value} {l : List Int} {N : Nat} (hN : ∀ args w', (callFunc N args).run Try.prog w' = .ok (.enter N args) w') (p : Int → Bool) (w : World) (hv : Own w base 1 v (Is l)) (hl : l.length ≤ 1000) (hbase : base ≤ w.heap.size)
    (hf : ∀ x, x ∈ l → ∀ w', Below base w w' → Calls Try.prog N #[.int .i64 x, c1, c2] w' fun e w'' => e = .returned (.bool (p x)) ∧ Ext w' w'') :
    Calls Try.prog 76 #[v, .func (.func N) #[] #[c1, c2]] w fun e w' => ∃ v', e = .returned v' ∧ Own w' base 1 v' (Is (l.filter fun x => !p x)) ∧ Below base w w' := by
  have ho := hv
  obtain ⟨a, c, rfl, hn, hc, _⟩ := hv.rd.ints
  unfold maxLen at hc
  have HF := Lib.hid hf
  clear hf hv
  go_enter Try.func76, Try.ntmps76
  go_wp2_with (fail)
  refine (IndexFunc2_any (l := l) hN p _ ho.rd (fun x hx w' hw' => HF.out x hx w' (hw'.mono hbase))).mono ?_
  rintro e w1 ⟨r, rfl, hr, hx⟩
  have hb := hx.mono hbase
  replace ho := ho.below hx (Nat.le_refl _)
  clear hx
  rcases hr with ⟨rfl, hany⟩ | ⟨k, rfl, hpre, y0, hy0, hpy⟩
  · have HA := Lib.hid (filter_none hany)
    clear hany
    go_wp2
    go_ret
    exact ⟨_, rfl, by rw [HA.out]; exact ho, hb⟩
  · have hkl : k < l.length := (List.getElem?_eq_some_iff.1 hy0).1
    have hk1 : ((k : Int) == -1) = false := beq_eq_false_iff_ne.2 (by omega)
    obtain ⟨b, off, n3, c3, e3, hn3, hbk, hbb, hbs, _, _, _⟩ := ho.cells (by
      intro e
      have := congrArg List.length e
      rw [Is_length, List.length_nil] at this
      omega)
    cases e3
    have hst := kp_start hpre hy0 hpy
    have HST := Lib.hid hst
    have HLK : Hid ((kp l p (k + 1)).length = k) := by
      show _ = _
      rw [hst, List.length_take]
      omega
    have HM0 : Hid (Is (kp l p (k + 1) ++ l.drop k) = Is l) := by
      show _ = _
      rw [hst, List.take_append_drop]
    have HFIN : Hid (kp l p l.length = l.filter fun x => !p x) := by
      show _ = _
      unfold kp
      rw [List.take_of_length_le (Nat.le_refl _)]
    rw [← HM0.out] at ho
    clear hst hpre hy0 hpy
    go_wp2
    go_loopw [5, 6] (fun s t wr => ∃ i j : Nat, s = .int .i64 i ∧ t = .int .i64 j ∧ i < j ∧ j ≤ l.length ∧ (kp l p j).length = i ∧ Own wr base 1 (.slice (some ⟨b, off, none⟩) l.length c) (Is (kp l p j ++ l.drop i)) ∧ Below base w wr) (fun _ t _ => l.length - (intOf t).toNat)
    case atStart => exact ⟨k, k + 1, rfl, by simp, by omega, by omega, HLK.out, ho, hb⟩
    case round =>
      clear ho hb
      obtain ⟨i, j, rfl, rfl, hij, hj, hkp, ho, hb⟩ := hrel
      have HKP := Lib.hid hkp
      by_cases hlt : j < l.length
      · have hlti : (j : Int) < l.length := by omega
        have hil : (i : Int) < l.length := by omega
        obtain ⟨y, hy⟩ : ∃ y, l[j]? = some y := ⟨_, List.getElem?_eq_getElem hlt⟩
        have hmem : (kp l p j ++ l.drop i)[j]? = some y := by
          rw [List.getElem?_append_right (by omega), hkp, List.getElem?_drop, show i + (j - i) = j by omega]
          exact hy
        have hmi : i < (Is (kp l p j ++ l.drop i)).length := by
          rw [Is_length, List.length_append, List.length_drop]
          omega
        obtain ⟨b', off', n4, c4, e4, _, _, _, _, hcell, hfz, hset⟩ := ho.cells (by
          intro e
          rw [e] at hmi
          simp at hmi)
        cases e4
        have ck := hcell j _ (Is_get hmem)
        have fi := hfz i
        obtain ⟨ui, hui⟩ : ∃ ui, (kp l p j ++ l.drop i)[i]? = some ui := ⟨_, List.getElem?_eq_getElem (by rw [Is_length] at hmi; exact hmi)⟩
        have ci := hcell i _ (Is_get hui)
        have hs := hset i (.int .i64 y) hmi
        have HY := Lib.hid hy
        have HS : Hid ((Is (kp l p j ++ l.drop i)).set i (.int .i64 y) = Is ((kp l p j ++ [y]) ++ l.drop (i + 1))) := by
          show _ = _
          rw [show (Is (kp l p j ++ l.drop i)).set i (.int .i64 y) = Is ((kp l p j ++ l.drop i).set i y) by simp [Is, List.map_set], set_mid hkp (by omega)]
        rw [HS.out] at hs
        clear hcell hfz hset hmem hui hy hkp hmi
        by_cases hp : p y = true
        · have HP := Lib.hid hp
          clear hp ci fi hs
          go_wp2_with (fail)
          refine (HF.out y (List.mem_of_getElem? HY.out) _ hb).mono ?_
          rintro e w2 ⟨he, hx⟩
          rw [HP.out] at he
          subst he
          replace ho := ho.below hx (Nat.le_refl _)
          replace hb := after hb hx hbase
          clear hx ck
          go_wp2
          go_roundw
          case rel => exact ⟨i, j + 1, rfl, by go_num, by omega, by omega, by rw [kp_yes HY.out HP.out]; exact HKP.out, by rw [kp_yes HY.out HP.out]; exact ho, hb⟩
          case measure => simp [intOf]; omega
        · have HP : Hid (p y = false) := by
            show _ = _
            simpa using hp
          clear hp ci fi hs
          go_wp2_with (fail)
          refine (HF.out y (List.mem_of_getElem? HY.out) _ hb).mono ?_
          rintro e w2 ⟨he, hx⟩
          rw [HP.out] at he
          subst he
          replace ho := ho.below hx (Nat.le_refl _)
          replace hb := after hb hx hbase
          have hmi : i < (Is (kp l p j ++ l.drop i)).length := by
            have := HKP.out
            rw [Is_length, List.length_append, List.length_drop]
            omega
          obtain ⟨b', off', n4, c4, e4, _, _, _, _, hcell, hfz, hset⟩ := ho.cells (by
            intro e
            rw [e] at hmi
            simp at hmi)
          cases e4
          have fi := hfz i
          obtain ⟨ui, hui⟩ : ∃ ui, (kp l p j ++ l.drop i)[i]? = some ui := ⟨_, List.getElem?_eq_getElem (by rw [Is_length] at hmi; exact hmi)⟩
          have ci := hcell i _ (Is_get hui)
          have hs := hset i (.int .i64 y) hmi
          rw [HS.out, ← kp_no HY.out HP.out] at hs
          have hb2 := hb.setCell (p := ⟨b, off + i, none⟩) hbb (.int .i64 y)
          clear hcell hfz hset hui hmi hx ck ho hb
          go_wp2
          go_roundw
          case rel => exact ⟨i + 1, j + 1, by go_num, by go_num, by omega, by omega, by rw [kp_no HY.out HP.out, List.length_append, HKP.out]; rfl, hs, hb2⟩
          case measure => simp [intOf]; omega
      · obtain rfl : j = l.length := by omega
        have hic : (i : Int) ≤ l.length := by omega
        have hicc : i < c := by omega
        have hic2 : i ≤ c := by omega
        have hne : ¬ c = i := by omega
        have hln : 0 < l.length - i := by omega
        have hoS := ho.shorter HKP.out
        obtain ⟨b', off', n4, c4, e4, hn4, _, _, _, hcell, hfz, _⟩ := ho.cells (by
          intro e
          have := congrArg List.length e
          rw [Is_length, List.length_append, List.length_drop, List.length_nil] at this
          omega)
        cases e4
        have hcr : ∀ q, q < l.length - i → (wr.cell? ⟨b, off + i + q, none⟩).isSome = true := fun q hq => by
          obtain ⟨uq, huq⟩ : ∃ uq, (kp l p l.length ++ l.drop i)[i + q]? = some uq := ⟨_, List.getElem?_eq_getElem (by rw [List.length_append, List.length_drop, HKP.out]; omega)⟩
          rw [Nat.add_assoc, hcell (i + q) _ (Is_get huq)]
          rfl
        have hfr : ∀ q, q < l.length - i → wr.frozen? ⟨b, off + i + q, none⟩ = false := fun q _ => by
          rw [Nat.add_assoc]
          exact hfz (i + q)
        obtain ⟨ii, hii, hz0, hsz, hby⟩ := el_int.info
        have HCL := Lib.hid (fun ty => Lib.run_clear_slice (P := Try.prog) wr 42 3 ty (.int .i64 0) el_int.und (fun w => by simp [zeroValue, typeInfo, hii, hz0]) rfl rfl b (off + i) (l.length - i) (c - i) hln hcr hfr)
        have hoE := Own.setCellsBeyond (List.replicate (l.length - i) (.int .i64 0)) (off + i) wr hoS (by omega)
        have hbE := below_setCells hbb (List.replicate (l.length - i) (Value.int .i64 0)) (off + i) wr hb
        rw [HFIN.out] at hoE
        clear hcr hfr hcell hfz ho hb hoS hii hz0 hsz hby
        go_wp2_with (refine wpList_clear rfl _ _ rfl rfl HCL.out ?_)
        generalize wr.setCells b (off + i) (List.replicate (l.length - i) (Value.int .i64 0)) = W at *
        go_wp2
        go_ret
        exact ⟨_, rfl, hoE, hbE⟩
end Go.Proofs.Ytckggmbmlpikhaa
