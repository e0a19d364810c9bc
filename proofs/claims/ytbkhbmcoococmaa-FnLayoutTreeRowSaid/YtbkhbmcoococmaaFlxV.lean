/-
  Flexible sizes that are valid: ValidFlexes, FlexSizes.
-/
import Derived.Test.YtbkhbmcoococmaaFlexd
import Derived.Test.YtbkhbmcoococmaaAj
import Derived.Test.YtbkhbmcoococmaaAe
namespace Go.Proofs.Ytbkhbmcoococmaa
open Go Go.RowKit

set_option maxRecDepth 100000 in
set_option maxHeartbeats 2000000 in
theorem flexValid_any {f : Flx} (w : World) (hf : flOk f) :
    Calls Try.prog 93 #[.agg #[.int .i64 f.base, .int .i64 f.min, .int .i64 f.max, .int .i64 f.grow, .int .i64 f.shrink]] w fun e w' => e = .returned (.bool true) ∧ Ext w w' := by
  obtain ⟨h1, h2, h3, h4, h5, h6, h7, h8⟩ := hf
  have r1 : inR f.min 0 10000 = true := inR_iff.2 (by omega)
  have r2 : inR f.max f.min 10000 = true := inR_iff.2 (by omega)
  have r3 : inR f.base f.min f.max = true := inR_iff.2 (by omega)
  have r4 : inR f.grow 0 10 = true := inR_iff.2 (by omega)
  have r5 : inR f.shrink 0 10 = true := inR_iff.2 (by omega)
  have R := Lib.hid (And.intro r1 (And.intro r2 (And.intro r3 (And.intro r4 r5))))
  clear r1 r2 r3 r4 r5
  go_enter Try.func93, Try.ntmps93
  go_wp2_with (fail)
  refine (within_any _ _ _ _).mono ?_
  rintro e w1 ⟨he, rfl⟩
  rw [R.out.1] at he
  subst he
  go_wp2_with (fail)
  refine (within_any _ _ _ _).mono ?_
  rintro e w1 ⟨he, rfl⟩
  rw [R.out.2.1] at he
  subst he
  go_wp2_with (fail)
  refine (within_any _ _ _ _).mono ?_
  rintro e w1 ⟨he, rfl⟩
  rw [R.out.2.2.1] at he
  subst he
  go_wp2_with (fail)
  refine (within_any _ _ _ _).mono ?_
  rintro e w1 ⟨he, rfl⟩
  rw [R.out.2.2.2.1] at he
  subst he
  go_wp2_with (fail)
  refine (within_any _ _ _ _).mono ?_
  rintro e w1 ⟨he, rfl⟩
  rw [R.out.2.2.2.2] at he
  subst he
  go_wp2
  go_ret
  exact ⟨rfl, Below.of_alloc _ _⟩
theorem flexesEnter (args : Array Value) (w : World) : (callFunc 92 args).run Try.prog w = .ok (.enter 92 args) w := by
  kernel_rfl
set_option maxHeartbeats 2000000 in
theorem flexesF_any {f : Flx} (w : World) (hf : flOk f) :
    Calls Try.prog 92 #[.agg #[.int .i64 f.base, .int .i64 f.min, .int .i64 f.max, .int .i64 f.grow, .int .i64 f.shrink]] w fun e w' => e = .returned (.bool false) ∧ Ext w w' := by
  have hb := Below.of_alloc w (.cells #[.int .i64 f.base, .int .i64 f.min, .int .i64 f.max, .int .i64 f.grow, .int .i64 f.shrink] 37)
  go_enter Try.func92, Try.ntmps92
  go_wp2_with (fail)
  refine (flexValid_any (f := f) _ hf).mono ?_
  rintro e w1 ⟨rfl, hx⟩
  replace hb := after hb hx (Nat.le_refl _)
  clear hx
  go_wp2
  go_ret
  exact ⟨rfl, hb⟩
set_option maxRecDepth 100000 in
set_option maxHeartbeats 2000000 in
theorem indexFlex_any {v : Value} {l : List Flx} (w : World) (hv : Rd w 5 v (Fs l)) (hf : ∀ f, f ∈ l → flOk f) :
    Calls Try.prog 116 #[v, .func (.func 92) #[] #[]] w fun e w' => e = .returned (.int .i64 (-1)) ∧ Ext w w' := by
  obtain ⟨a, c, rfl, hn, hc, hcell⟩ := hv.flxs
  clear hv
  unfold maxLen at hc
  have HF := Lib.hid hf
  have HN := flexesEnter
  clear hf
  go_enter Try.func116, Try.ntmps116
  go_wp2
  go_loopw [8] (fun i wr => ∃ k : Nat, k ≤ l.length ∧ i = .int .i64 k ∧ Below w.heap.size w wr) (fun i _ => l.length - (intOf i).toNat)
  case atStart => exact ⟨0, Nat.zero_le _, rfl, Below.refl _ _⟩
  case round =>
    obtain ⟨k, hk, rfl, hb⟩ := hrel
    by_cases hlt : k < l.length
    · obtain ⟨y, hy⟩ : ∃ y, l[k]? = some y := ⟨_, List.getElem?_eq_getElem hlt⟩
      obtain ⟨b, off, rfl, hbl, hC⟩ := hcell k y hy
      obtain ⟨c0, c1, c2, c3, c4⟩ := (hC k y hy).below hb hbl
      have Hy := Lib.hid hy
      have hlti : (k : Int) < l.length := by omega
      clear hcell hC hy
      go_wp2_with (fail)
      refine (flexesF_any (f := y) _ (HF.out y (List.mem_of_getElem? Hy.out))).mono ?_
      rintro e w2 ⟨rfl, hx⟩
      replace hb := after hb hx (Nat.le_refl _)
      clear hx c0 c1 c2 c3 c4
      go_wp2
      go_roundw
      case rel => exact ⟨k + 1, by omega, by go_num, hb⟩
      case measure => simp [intOf]; omega
    · go_wp2
      go_ret
      exact ⟨rfl, hb⟩
set_option maxHeartbeats 2000000 in
theorem containsFlex_any {v : Value} {l : List Flx} (w : World) (hv : Rd w 5 v (Fs l)) (hf : ∀ f, f ∈ l → flOk f) :
    Calls Try.prog 91 #[v, .func (.func 92) #[] #[]] w fun e w' => e = .returned (.bool false) ∧ Ext w w' := by
  have HF := Lib.hid hf
  clear hf
  go_enter Try.func91, Try.ntmps91
  go_wp2_with (fail)
  refine (indexFlex_any (l := l) _ hv HF.out).mono ?_
  rintro e w1 ⟨rfl, hx⟩
  go_wp2
  go_ret
  exact ⟨rfl, hx⟩
set_option maxHeartbeats 2000000 in
theorem ValidFlexes_any {v : Value} {l : List Flx} (w : World) (hv : Rd w 5 v (Fs l)) (hf : ∀ f, f ∈ l → flOk f) (h1 : 1 ≤ l.length) (h8 : l.length ≤ 8) :
    Calls Try.prog 55 #[v] w fun e w' => e = .returned (.bool true) ∧ Ext w w' := by
  have hrd := hv
  obtain ⟨a, c, rfl, hn, hc, hcell⟩ := hv.flxs
  clear hv hcell
  unfold maxLen at hc
  have HF := Lib.hid hf
  have HR := Lib.hid (show inR (l.length : Int) 1 8 = true from inR_iff.2 (by omega))
  clear hf
  go_enter Try.func55, Try.ntmps55
  go_wp2_with (fail)
  refine (within_any _ _ _ _).mono ?_
  rintro e w1 ⟨he, rfl⟩
  rw [HR.out] at he
  subst he
  go_wp2_with (fail)
  refine (containsFlex_any (l := l) _ hrd HF.out).mono ?_
  rintro e w1 ⟨rfl, hx⟩
  go_wp2
  go_ret
  exact ⟨rfl, hx⟩
set_option maxHeartbeats 2000000 in
theorem FlexSizes_any {v : Value} {l : List Flx} {space : Int} (w : World) (hv : Rd w 5 v (Fs l)) (hf : ∀ f, f ∈ l → flOk f) (h1 : 1 ≤ l.length) (h8 : l.length ≤ 8) (hs : 0 ≤ space ∧ space ≤ 200000) :
    Calls Try.prog 22 #[v, .int .i64 space] w fun e w' => ∃ v', e = .returned v' ∧ Own w' w.heap.size 1 v' (Is (flexL l space)) ∧ Ext w w' := by
  have hrd := hv
  obtain ⟨a, c, rfl, hn, hc, hcell⟩ := hv.flxs
  clear hv hcell
  unfold maxLen at hc
  have HF := Lib.hid hf
  have HR := Lib.hid (show inR space 0 200000 = true from inR_iff.2 hs)
  clear hf
  go_enter Try.func22, Try.ntmps22
  go_wp2_with (fail)
  refine (ValidFlexes_any (l := l) _ hrd HF.out h1 h8).mono ?_
  rintro e w1 ⟨rfl, hx⟩
  replace hrd := hrd.below hx (Nat.le_refl _)
  go_wp2_with (fail)
  refine (sizeOk_any _ _).mono ?_
  rintro e w2 ⟨he, rfl⟩
  rw [HR.out] at he
  subst he
  go_wp2_with (fail)
  refine (flexed_any (fs := l) _ hrd HF.out h8 hs).mono ?_
  rintro e w3 ⟨v3, rfl, ho, hx2⟩
  have hb := after hx hx2 (Nat.le_refl _)
  have hs1 := hx.size
  go_wp2
  go_ret
  exact ⟨_, rfl, ho.weak hs1, hb⟩
end Go.Proofs.Ytbkhbmcoococmaa
