/-
  slices.IndexFunc, slices.ContainsFunc with a function that answers as a word of plain Lean.
-/
import Derived.Test.YtckggmbmlpikhaaInts
namespace Go.Proofs.Ytckggmbmlpikhaa
open Go Go.RowKit

theorem any_take_succ {l : List Int} {p : Int → Bool} {k : Nat} {y : Int} (hy : l[k]? = some y) (hx : (l.take k).any p = false) (hp : p y = false) : (l.take (k + 1)).any p = false := by
  rw [List.take_add_one, hy, List.any_append, hx]
  simp [hp]
set_option maxRecDepth 100000 in
set_option maxHeartbeats 400000 in
theorem IndexFunc_any {v c1 c2 : Value} {l : List Int} {N : Nat} (hN : ∀ args w', (callFunc N args).run Try.prog w' = .ok (.enter N args) w') (p : Int → Bool) (w : World) (hv : Rd w 1 v (Is l))
    (hf : ∀ x, x ∈ l → ∀ w', Below w.heap.size w w' → Calls Try.prog N #[.int .i64 x, c1, c2] w' fun e w'' => e = .returned (.bool (p x)) ∧ Ext w' w'') :
    Calls Try.prog 95 #[v, .func (.func N) #[] #[c1, c2]] w fun e w' => ∃ r : Int, e = .returned (.int .i64 r) ∧ decide (0 ≤ r) = l.any p ∧ Ext w w' := by
  obtain ⟨a, c, rfl, hn, hc, hcell⟩ := hv.ints
  clear hv
  unfold maxLen at hc
  have HF := Lib.hid hf
  clear hf
  go_enter Try.func95, Try.ntmps95
  go_wp2
  go_loopw [8] (fun i wr => ∃ k : Nat, k ≤ l.length ∧ i = .int .i64 k ∧ (l.take k).any p = false ∧ Below w.heap.size w wr) (fun i _ => l.length - (intOf i).toNat)
  case atStart => exact ⟨0, Nat.zero_le _, rfl, by simp, Below.refl _ _⟩
  case round =>
    obtain ⟨k, hk, rfl, hx, hb⟩ := hrel
    have Hx := Lib.hid hx
    clear hx
    by_cases hlt : k < l.length
    · obtain ⟨y, hy⟩ : ∃ y, l[k]? = some y := ⟨_, List.getElem?_eq_getElem hlt⟩
      obtain ⟨b, off, rfl, hC⟩ := hcell k y hy
      have hck := cell_below hb (hC k y hy)
      have Hy := Lib.hid hy
      clear hcell hC hy
      have hlti : (k : Int) < l.length := by omega
      by_cases hp : p y = true
      · have HP := Lib.hid hp
        clear hp
        go_wp2_with (fail)
        refine (HF.out y (List.mem_of_getElem? Hy.out) _ hb).mono ?_
        rintro e w2 ⟨he, hx⟩
        rw [HP.out] at he
        subst he
        go_wp2
        go_ret
        refine ⟨k, rfl, ?_, after hb hx (Nat.le_refl _)⟩
        have : l.any p = true := List.any_eq_true.2 ⟨y, List.mem_of_getElem? Hy.out, HP.out⟩
        simp [this]
      · have HP : Hid (p y = false) := by
          show _ = _
          simpa using hp
        clear hp
        go_wp2_with (fail)
        refine (HF.out y (List.mem_of_getElem? Hy.out) _ hb).mono ?_
        rintro e w2 ⟨he, hx⟩
        rw [HP.out] at he
        subst he
        go_wp2
        go_roundw
        case rel => exact ⟨k + 1, by omega, by go_num, any_take_succ Hy.out Hx.out HP.out, after hb hx (Nat.le_refl _)⟩
        case measure => simp [intOf]; omega
    · go_wp2
      go_ret
      refine ⟨-1, rfl, ?_, hb⟩
      have := Hx.out
      rw [List.take_of_length_le (by omega)] at this
      simp [this]
set_option maxHeartbeats 400000 in
theorem ContainsFunc_any {v c1 c2 : Value} {l : List Int} {N : Nat} (hN : ∀ args w', (callFunc N args).run Try.prog w' = .ok (.enter N args) w') (p : Int → Bool) (w : World) (hv : Rd w 1 v (Is l))
    (hf : ∀ x, x ∈ l → ∀ w', Below w.heap.size w w' → Calls Try.prog N #[.int .i64 x, c1, c2] w' fun e w'' => e = .returned (.bool (p x)) ∧ Ext w' w'') :
    Calls Try.prog 71 #[v, .func (.func N) #[] #[c1, c2]] w fun e w' => e = .returned (.bool (l.any p)) ∧ Ext w w' := by
  go_enter Try.func71, Try.ntmps71
  go_wp2_with (fail)
  refine (IndexFunc_any (l := l) hN p _ hv hf).mono ?_
  rintro e w1 ⟨r, rfl, hr, hx⟩
  have HR := Lib.hid hr
  clear hr
  go_wp2
  go_ret
  exact ⟨by rw [← HR.out]; rfl, hx⟩
theorem allInEnter (args : Array Value) (w : World) : (callFunc 98 args).run Try.prog w = .ok (.enter 98 args) w := by
  kernel_rfl
set_option maxHeartbeats 400000 in
theorem allInF_any (x lo hi : Int) (g1 g2 : Nat) (w : World) (h1 : w.cell? ⟨g1, 0, none⟩ = some (.int .i64 lo)) (h2 : w.cell? ⟨g2, 0, none⟩ = some (.int .i64 hi)) :
    Calls Try.prog 98 #[.int .i64 x, .pointer (some ⟨g1, 0, none⟩), .pointer (some ⟨g2, 0, none⟩)] w fun e w' => e = .returned (.bool (!inR x lo hi)) ∧ Ext w w' := by
  go_enter Try.func98, Try.ntmps98
  go_wp2_with (fail)
  refine (within_any _ _ _ _).mono ?_
  rintro e w2 ⟨rfl, rfl⟩
  go_wp2
  go_ret
  exact ⟨rfl, Below.refl _ _⟩
theorem any_not_all (l : List Int) (p : Int → Bool) : (!l.any fun m => !p m) = l.all p := by
  induction l with
  | nil => rfl
  | cons x r ih =>
    rw [List.any_cons, List.all_cons, Bool.not_or, Bool.not_not, ih]
set_option maxHeartbeats 400000 in
theorem allIn_any {v : Value} {l : List Int} (lo hi : Int) (w : World) (hv : Rd w 1 v (Is l)) :
    Calls Try.prog 89 #[v, .int .i64 lo, .int .i64 hi] w fun e w' => e = .returned (.bool (l.all fun m => inR m lo hi)) ∧ Ext w w' := by
  have hrd := hv
  obtain ⟨a, c, rfl, hn, hc, _⟩ := hv.ints
  unfold maxLen at hc
  have HA := Lib.hid (any_not_all l fun m => inR m lo hi)
  go_enter Try.func89, Try.ntmps89
  go_wp2_with (fail)
  change Calls _ _ _ ((w.alloc (.cells #[.int .i64 lo] 3)).alloc (.cells #[.int .i64 hi] 3)) _
  have hb : Below w.heap.size w ((w.alloc (.cells #[.int .i64 lo] 3)).alloc (.cells #[.int .i64 hi] 3)) := (Below.of_alloc _ _).alloc (by simp) _
  have k1 : ((w.alloc (.cells #[.int .i64 lo] 3)).alloc (.cells #[.int .i64 hi] 3)).cell? ⟨w.heap.size, 0, none⟩ = some (.int .i64 lo) := cell_below (Below.of_alloc _ _) (by rw [cell_of_heap (heap_alloc_new w _)]; rfl)
  have k2 : ((w.alloc (.cells #[.int .i64 lo] 3)).alloc (.cells #[.int .i64 hi] 3)).cell? ⟨w.heap.size + 1, 0, none⟩ = some (.int .i64 hi) := by
    have := heap_alloc_new (w.alloc (.cells #[.int .i64 lo] 3)) (.cells #[.int .i64 hi] 3)
    rw [show (w.alloc (.cells #[.int .i64 lo] 3)).heap.size = w.heap.size + 1 by simp] at this
    rw [cell_of_heap this]
    rfl
  generalize (w.alloc (.cells #[.int .i64 lo] 3)).alloc (.cells #[.int .i64 hi] 3) = W at *
  refine (ContainsFunc_any (l := l) allInEnter (fun m => !inR m lo hi) _ (hrd.below hb (Nat.le_refl _)) (fun x _ w' hw' => allInF_any x lo hi _ _ w' (cell_below hw' k1) (cell_below hw' k2))).mono ?_
  rintro e w2 ⟨rfl, hx⟩
  go_wp2
  go_ret
  exact ⟨by rw [← HA.out]; rfl, after hb hx (Nat.le_refl _)⟩
end Go.Proofs.Ytckggmbmlpikhaa
