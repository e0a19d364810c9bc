/-
  slices.IndexFunc, slices.ContainsFunc with a function over three captured variables.
-/
import Derived.Test.YtbkhbmcoococmaaAe
namespace Go.Proofs.Ytbkhbmcoococmaa
open Go Go.RowKit

set_option maxRecDepth 100000 in
set_option maxHeartbeats 400000 in
theorem IndexFunc3_any {v c1 c2 c3 : Value} {l : List Int} {N : Nat} (hN : ∀ args w', (callFunc N args).run Try.prog w' = .ok (.enter N args) w') (p : Int → Bool) (w : World) (hv : Rd w 1 v (Is l))
    (hf : ∀ x, x ∈ l → ∀ w', Below w.heap.size w w' → Calls Try.prog N #[.int .i64 x, c1, c2, c3] w' fun e w'' => e = .returned (.bool (p x)) ∧ Ext w' w'') :
    Calls Try.prog 99 #[v, .func (.func N) #[] #[c1, c2, c3]] w fun e w' => ∃ r : Int, e = .returned (.int .i64 r) ∧ decide (0 ≤ r) = l.any p ∧ Ext w w' := by
  obtain ⟨a, c, rfl, hn, hc, hcell⟩ := hv.ints
  clear hv
  unfold maxLen at hc
  have HF := Lib.hid hf
  clear hf
  go_enter Try.func99, Try.ntmps99
  go_wp2
  go_loopw [8] (fun i wr => ∃ k : Nat, k ≤ l.length ∧ i = .int .i64 k ∧ (l.take k).any p = false ∧ Below w.heap.size w wr) (fun i _ => l.length - (intOf i).toNat)
  case atStart => exact ⟨0, Nat.zero_le _, rfl, by simp, Below.refl _ _⟩
  case round =>
    obtain ⟨k, hk, rfl, hx, hb⟩ := hrel
    have Hx := Lib.hid hx
    clear hx
    by_cases hlt : k < l.length
    · obtain ⟨y, hy⟩ : ∃ y, l[k]? = some y := ⟨_, List.getElem?_eq_getElem hlt⟩
      obtain ⟨b, off, rfl, hC⟩ := hcell k y hy
      have hck := cell_below hb (hC k y hy)
      have Hy := Lib.hid hy
      clear hcell hC hy
      have hlti : (k : Int) < l.length := by omega
      by_cases hp : p y = true
      · have HP := Lib.hid hp
        clear hp
        go_wp2_with (fail)
        refine (HF.out y (List.mem_of_getElem? Hy.out) _ hb).mono ?_
        rintro e w2 ⟨he, hx⟩
        rw [HP.out] at he
        subst he
        go_wp2
        go_ret
        refine ⟨k, rfl, ?_, after hb hx (Nat.le_refl _)⟩
        have : l.any p = true := List.any_eq_true.2 ⟨y, List.mem_of_getElem? Hy.out, HP.out⟩
        simp [this]
      · have HP : Hid (p y = false) := by
          show _ = _
          simpa using hp
        clear hp
        go_wp2_with (fail)
        refine (HF.out y (List.mem_of_getElem? Hy.out) _ hb).mono ?_
        rintro e w2 ⟨he, hx⟩
        rw [HP.out] at he
        subst he
        go_wp2
        go_roundw
        case rel => exact ⟨k + 1, by omega, by go_num, any_take_succ Hy.out Hx.out HP.out, after hb hx (Nat.le_refl _)⟩
        case measure => simp [intOf]; omega
    · go_wp2
      go_ret
      refine ⟨-1, rfl, ?_, hb⟩
      have := Hx.out
      rw [List.take_of_length_le (by omega)] at this
      simp [this]
set_option maxHeartbeats 400000 in
theorem ContainsFunc3_any {v c1 c2 c3 : Value} {l : List Int} {N : Nat} (hN : ∀ args w', (callFunc N args).run Try.prog w' = .ok (.enter N args) w') (p : Int → Bool) (w : World) (hv : Rd w 1 v (Is l))
    (hf : ∀ x, x ∈ l → ∀ w', Below w.heap.size w w' → Calls Try.prog N #[.int .i64 x, c1, c2, c3] w' fun e w'' => e = .returned (.bool (p x)) ∧ Ext w' w'') :
    Calls Try.prog 62 #[v, .func (.func N) #[] #[c1, c2, c3]] w fun e w' => e = .returned (.bool (l.any p)) ∧ Ext w w' := by
  go_enter Try.func62, Try.ntmps62
  go_wp2_with (fail)
  refine (IndexFunc3_any (l := l) hN p _ hv hf).mono ?_
  rintro e w1 ⟨r, rfl, hr, hx⟩
  have HR := Lib.hid hr
  clear hr
  go_wp2
  go_ret
  exact ⟨by rw [← HR.out]; rfl, hx⟩
end Go.Proofs.Ytbkhbmcoococmaa
