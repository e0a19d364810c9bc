/-
  Plain laws: the lines of a text tell the tree: the open boxes of a depth.
-/
import Derived.Test.YtdlggpphfkjidaaGreatDoorPrs
namespace Go.Proofs.YtdlggpphfkjidaaGreatDoor
open Go Go.RowKit

theorem anc_suffix {l : List Bx} : ∀ (j : Nat), Down l j → ∀ p, p ∈ anc l j → ∃ pre, anc l j = pre ++ anc l p := by
  intro j
  induction j using Nat.strongRecOn with
  | _ j ih =>
    intro hd p hp
    by_cases e : p = j
    · subst e
      exact ⟨[], rfl⟩
    · have hlt := hd j (Nat.le_refl _)
      have he := anc_eq hd
      rw [he] at hp
      rcases List.mem_cons.1 hp with h | h
      · exact absurd h e
      · by_cases h0 : 0 ≤ par l j
        · rw [if_pos h0] at h he
          obtain ⟨pre, hpre⟩ := ih (par l j).toNat (by omega) (hd.mono (by omega)) p h
          exact ⟨j :: pre, by rw [he, hpre]; rfl⟩
        · rw [if_neg h0] at h
          cases h
/-- the box around a box stands among the open ones, at its depth -/
theorem open_par {l : List Bx} (hv : Valid l) {i : Nat} (h0 : 0 < i) (hi : i < l.length) :
    (anc l (par l i).toNat).length = dep l i ∧ ((anc l (i - 1)).reverse)[dep l i - 1]? = some (par l i).toNat ∧ ((anc l (i - 1)).reverse).take (dep l i) ++ [i] = (anc l i).reverse ∧ 1 ≤ dep l i ∧ dep l i ≤ (anc l (i - 1)).length := by
  obtain ⟨h1, h2, h3⟩ := hv.par i h0 hi
  obtain ⟨pre, hpre⟩ := anc_suffix (i - 1) (hv.down (by omega)) _ h3
  have hp : par l i = ((par l i).toNat : Int) := by omega
  have he := anc_up (hv.down hi) hp
  have hpos : 0 < (anc l (par l i).toNat).length := by
    rw [anc_eq (hv.down (show (par l i).toNat < l.length by omega))]
    simp
  have hhd : (anc l (par l i).toNat).head? = some (par l i).toNat := by
    rw [anc_eq (hv.down (show (par l i).toNat < l.length by omega))]
    rfl
  have hd : dep l i = (anc l (par l i).toNat).length := by
    unfold dep
    rw [he, List.length_cons]
    omega
  rw [hd, hpre, he]
  generalize anc l (par l i).toNat = A at *
  have hl : A.reverse.length = A.length := List.length_reverse
  refine ⟨rfl, ?_, ?_, by omega, by rw [List.length_append]; omega⟩
  · rw [List.reverse_append, List.getElem?_append_left (by omega), List.getElem?_reverse (by omega), ← hhd, List.head?_eq_getElem?]
    congr 1
    omega
  · rw [List.reverse_append, List.take_left' hl, List.reverse_cons]
theorem anc_same {l m : List Bx} : ∀ (j : Nat), Down l j → Down m j → (∀ k, k ≤ j → par l k = par m k) → anc l j = anc m j := by
  intro j
  induction j using Nat.strongRecOn with
  | _ j ih =>
    intro h1 h2 h
    have hlt := h1 j (Nat.le_refl _)
    rw [anc_eq h1, anc_eq h2, ← h j (Nat.le_refl _)]
    by_cases h0 : 0 ≤ par l j
    · rw [if_pos h0, if_pos h0, ih (par l j).toNat (by omega) (h1.mono (by omega)) (h2.mono (by omega)) fun k hk => h k (by omega)]
    · rw [if_neg h0, if_neg h0]
/-- valid trees with one text are the same -/
theorem tree_inj {l m : List Bx} (hl : Valid l) (hm : Valid m) (h : treeT l = treeT m) : l = m := by
  have h1 := split_tree hl.lo
  rw [h, split_tree hm.lo] at h1
  have hlen : l.length = m.length := by
    have := congrArg List.length h1
    simpa using this.symm
  have hline : ∀ i, i < l.length → lineT l i = lineT m i := fun i hi => by
    have := congrArg (fun x => x[i]?) h1
    simp only [List.getElem?_map] at this
    rw [List.getElem?_range (by omega), List.getElem?_range hi] at this
    exact (Option.some.inj this).symm
  have hdep : ∀ i, i < l.length → dep l i = dep m i := fun i hi => by
    have := congrArg dashes (hline i hi)
    unfold lineT at this
    rw [dashes_line, dashes_line] at this
    exact this
  have hbox : ∀ i, i < l.length → boxT (bx l i) = boxT (bx m i) := fun i hi => by
    have h2 := hline i hi
    have h3 := hdep i hi
    unfold lineT at h2
    unfold dep at h3
    rw [h3] at h2
    exact List.append_cancel_left h2
  have hpar : ∀ i, i < l.length → par l i = par m i := by
    intro i
    induction i using Nat.strongRecOn with
    | _ i ih =>
      intro hi
      by_cases h0 : i = 0
      · subst h0
        rw [hl.root, hm.root]
      · have a := open_par hl (by omega) hi
        have b := open_par hm (show 0 < i by omega) (by omega)
        have hs := anc_same (i - 1) (hl.down (by omega)) (hm.down (by omega)) fun k hk => ih k (by omega) (by omega)
        have h4 := a.2.1
        rw [hdep i hi, hs, b.2.1] at h4
        have h5 := Option.some.inj h4
        have h6 := (hl.par i (by omega) hi).1
        have h7 := (hm.par i (by omega) (by omega)).1
        omega
  apply List.ext_getElem?
  intro i
  by_cases hi : i < l.length
  · rw [bx_get hi, bx_get (l := m) (by omega)]
    have h8 := box_inj (hl.ok i hi) (hm.ok i (by omega)) (hbox i hi)
    have h9 : (bx l i).parent = (bx m i).parent := hpar i hi
    rw [h8, h9]
  · rw [List.getElem?_eq_none (by omega), List.getElem?_eq_none (by omega)]
end Go.Proofs.YtdlggpphfkjidaaGreatDoor
