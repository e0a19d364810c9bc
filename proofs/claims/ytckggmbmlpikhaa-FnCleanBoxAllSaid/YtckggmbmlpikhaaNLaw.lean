/-
  The plain laws of natural sizes.
-/
import Derived.Test.YtckggmbmlpikhaaNS
import Derived.Test.YtckggmbmlpikhaaPl
namespace Go.Proofs.Ytckggmbmlpikhaa
open Go Go.RowKit

theorem nW_nat {l : List Bx} {i : Nat} (h : inB l (i : Int) = true) : nW l (i : Int) = (natS l i).1 := by
  unfold nW
  rw [if_pos h, Int.toNat_natCast]
theorem nH_nat {l : List Bx} {i : Nat} (h : inB l (i : Int) = true) : nH l (i : Int) = (natS l i).2 := by
  unfold nH
  rw [if_pos h, Int.toNat_natCast]
theorem n_leaf {l : List Bx} {i : Nat} (h : inB l (i : Int) = true) (hk : (bx l i).kind = 0) : nW l (i : Int) = (bx l i).w + 2 * (bx l i).pad ∧ nH l (i : Int) = (bx l i).h + 2 * (bx l i).pad := by
  obtain ⟨hv, h0, hi⟩ := inB_iff.1 h
  rw [nW_nat h, nH_nat h, natS_leaf hv (by omega) hk]
  exact ⟨rfl, rfl⟩
theorem foldK_ge (b : Bx) (hb : 0 ≤ b.gap) : ∀ (r : List (Int × Int)) (k : Nat) (acc : Int × Int), (∀ s, s ∈ r → 0 ≤ s.1 ∧ 0 ≤ s.2) → acc.1 ≤ (foldK b k acc r).1 ∧ acc.2 ≤ (foldK b k acc r).2
  | [], _, _, _ => ⟨Int.le_refl _, Int.le_refl _⟩
  | s :: r, k, acc, hs => by
    have h := foldK_ge b hb r (k + 1) (addK b k acc s) (fun t ht => hs t (List.mem_cons_of_mem _ ht))
    have h0 := hs s List.mem_cons_self
    have h1 : acc.1 ≤ (addK b k acc s).1 ∧ acc.2 ≤ (addK b k acc s).2 := by
      unfold addK
      split <;> (dsimp only; split <;> omega)
    exact ⟨Int.le_trans h1.1 h.1, Int.le_trans h1.2 h.2⟩
theorem n_box {l : List Bx} {i : Nat} (h : inB l (i : Int) = true) : 2 * (bx l i).pad ≤ nW l (i : Int) ∧ 2 * (bx l i).pad ≤ nH l (i : Int) := by
  obtain ⟨hv, h0, hi⟩ := inB_iff.1 h
  have hi : i < l.length := by omega
  have hb := okB_bounds (hv.ok i hi)
  have hg := foldK_ge (bx l i) (by omega) (kidS l i) 0 ((bx l i).w, (bx l i).h) (fun s hs => by
    unfold kidS at hs
    obtain ⟨k, hk, rfl⟩ := List.mem_map.1 hs
    have := natS_sz hv (mem_kid.1 hk).1
    exact ⟨this.1, this.2.2.1⟩)
  rw [nW_nat h, nH_nat h, natS_eq (fun k hk => hv.down hk k (Nat.le_refl _)) hi]
  dsimp only at hg ⊢
  omega
theorem n_empty {l : List Bx} {i : Nat} (h : inB l (i : Int) = true) (hk : (bx l i).kind ≠ 0) (he : kid l (i : Int) = []) : nW l (i : Int) = 2 * (bx l i).pad ∧ nH l (i : Int) = 2 * (bx l i).pad := by
  obtain ⟨hv, h0, hi⟩ := inB_iff.1 h
  have hi : i < l.length := by omega
  have ho := hv.ok i hi
  rw [okB_eq] at ho
  simp only [Bool.and_eq_true, Bool.or_eq_true, beq_iff_eq] at ho
  rcases ho.2 with h1 | h1
  · exact absurd h1 hk
  · have hs : kidS l i = [] := by unfold kidS; rw [he]; rfl
    rw [nW_nat h, nH_nat h, natS_eq (fun k hk => hv.down hk k (Nat.le_refl _)) hi, hs]
    simp only [foldK]
    omega
theorem n_sz {l : List Bx} {i : Int} : 0 ≤ nW l i ∧ nW l i ≤ 24126426575199000 ∧ 0 ≤ nH l i ∧ nH l i ≤ 24126426575199000 := by
  unfold nW nH
  by_cases h : inB l i = true
  · obtain ⟨hv, h0, hi⟩ := inB_iff.1 h
    have := natS_sz hv (i := i.toNat) (by omega)
    rw [if_pos h, if_pos h]
    exact this
  · rw [if_neg h, if_neg h]
    omega
end Go.Proofs.Ytckggmbmlpikhaa
