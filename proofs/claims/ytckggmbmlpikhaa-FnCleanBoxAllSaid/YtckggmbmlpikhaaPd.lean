/-
  Plain laws of dirty boxes: roots, what is in them, what is left.
-/
import Derived.Test.YtckggmbmlpikhaaPl
namespace Go.Proofs.Ytckggmbmlpikhaa
open Go Go.RowKit

/-! ### dirty boxes -/
def inMarks (l : List Bx) (ms : List Int) : Prop := ∀ m, m ∈ ms → 0 ≤ m ∧ m < l.length
/-- a valid tree and at most 16 numbers of its boxes -/
def mkB (l : List Bx) (ms : List Int) : Bool := vldB l && (decide (ms.length ≤ 16) && ms.all fun m => inR m 0 ((l.length : Int) - 1))
theorem mkB_iff {l : List Bx} {ms : List Int} : mkB l ms = true ↔ Valid l ∧ ms.length ≤ 16 ∧ inMarks l ms := by
  unfold mkB inMarks
  simp only [Bool.and_eq_true, vldB_iff, decide_eq_true_eq, List.all_eq_true, inR_iff]
  constructor
  · rintro ⟨h1, h2, h3⟩
    exact ⟨h1, h2, fun m hm => by have := h3 m hm; omega⟩
  · rintro ⟨h1, h2, h3⟩
    exact ⟨h1, h2, fun m hm => by have := h3 m hm; omega⟩
def rootB (l : List Bx) (ms : List Int) (i : Nat) : Bool := decide ((i : Int) ∈ ms) && ms.all fun m => decide (m = (i : Int)) || !arB l m.toNat i
def covB (l : List Bx) (ms : List Int) (i : Nat) : Bool := ms.any fun m => arB l m.toNat i
/-- the marked boxes around which no other marked one is -/
def rootsL (l : List Bx) (ms : List Int) : List Nat := (List.range l.length).filter (rootB l ms)
/-- the boxes around which a marked one is -/
def covL (l : List Bx) (ms : List Int) : List Nat := (List.range l.length).filter (covB l ms)
theorem arB_anc {l : List Bx} {a i : Nat} : arB l a i = true ↔ a ∈ anc l i := by simp [arB]
theorem anc_antisymm {l : List Bx} (hv : Valid l) {a b : Nat} (ha : a < l.length) (hb : b < l.length) (h1 : a ∈ anc l b) (h2 : b ∈ anc l a) : a = b := by
  have := anc_le _ (hv.down hb) _ h1
  have := anc_le _ (hv.down ha) _ h2
  omega
theorem rootB_iff {l : List Bx} {ms : List Int} {i : Nat} : rootB l ms i = true ↔ (i : Int) ∈ ms ∧ ∀ m, m ∈ ms → m.toNat ∈ anc l i → m = i := by
  unfold rootB
  simp only [Bool.and_eq_true, decide_eq_true_eq, List.all_eq_true, Bool.or_eq_true, Bool.not_eq_true']
  constructor
  · rintro ⟨h1, h2⟩
    refine ⟨h1, fun m hm ha => ?_⟩
    rcases h2 m hm with h | h
    · exact h
    · rw [arB_anc.2 ha] at h
      cases h
  · rintro ⟨h1, h2⟩
    refine ⟨h1, fun m hm => ?_⟩
    by_cases h : m.toNat ∈ anc l i
    · exact .inl (h2 m hm h)
    · right
      rw [Bool.eq_false_iff]
      exact fun h3 => h (arB_anc.1 h3)
theorem mem_roots {l : List Bx} {ms : List Int} {i : Nat} : i ∈ rootsL l ms ↔ i < l.length ∧ (i : Int) ∈ ms ∧ ∀ m, m ∈ ms → m.toNat ∈ anc l i → m = i := by
  unfold rootsL
  rw [List.mem_filter, List.mem_range, rootB_iff]
theorem mem_cov {l : List Bx} {ms : List Int} {i : Nat} : i ∈ covL l ms ↔ i < l.length ∧ ∃ m, m ∈ ms ∧ m.toNat ∈ anc l i := by
  unfold covL covB
  rw [List.mem_filter, List.mem_range, List.any_eq_true]
  simp only [arB_anc]
theorem roots_sorted (l : List Bx) (ms : List Int) : (rootsL l ms).Pairwise (· < ·) := List.Pairwise.filter _ List.pairwise_lt_range
theorem cov_sorted (l : List Bx) (ms : List Int) : (covL l ms).Pairwise (· < ·) := List.Pairwise.filter _ List.pairwise_lt_range
/-- no root is around another one -/
theorem roots_apart {l : List Bx} {ms : List Int} {a b : Nat} (ha : a ∈ rootsL l ms) (hb : b ∈ rootsL l ms) (h : a ∈ anc l b) : a = b := by
  have h1 := mem_roots.1 ha
  have h2 := (mem_roots.1 hb).2.2 a h1.2.1 (by simpa using h)
  omega
/-- each marked box is in a root -/
theorem roots_cover {l : List Bx} {ms : List Int} (hv : Valid l) (hm : inMarks l ms) : ∀ (m : Nat), (m : Int) ∈ ms → ∃ r, r ∈ rootsL l ms ∧ r ∈ anc l m := by
  intro m
  induction m using Nat.strongRecOn with
  | _ m ih =>
    intro h
    have hml : m < l.length := by have := hm _ h; omega
    by_cases hr : m ∈ rootsL l ms
    · exact ⟨m, hr, anc_self (hv.down hml)⟩
    · have : ∃ x, x ∈ ms ∧ x.toNat ∈ anc l m ∧ x ≠ m := by
        false_or_by_contra
        rename_i hn
        refine hr (mem_roots.2 ⟨hml, h, fun x hx ha => ?_⟩)
        false_or_by_contra
        rename_i hne
        exact hn ⟨x, hx, ha, hne⟩
      obtain ⟨x, hx, ha, hne⟩ := this
      have hx0 := hm x hx
      have hxl := anc_le _ (hv.down hml) _ ha
      obtain ⟨r, h1, h2⟩ := ih x.toNat (by omega) (by rw [show ((x.toNat : Nat) : Int) = x from by omega]; exact hx)
      exact ⟨r, h1, anc_trans _ (hv.down hml) ha h2⟩
theorem roots_in {l : List Bx} {ms : List Int} : inMarks l (ni (rootsL l ms)) := by
  intro m hm
  obtain ⟨k, hk, rfl⟩ := mem_ni.1 hm
  have := (mem_roots.1 hk).1
  omega
theorem roots_len {l : List Bx} {ms : List Int} (hv : Valid l) : (rootsL l ms).length ≤ 16 := by
  have h := List.length_filter_le (rootB l ms) (List.range l.length)
  rw [List.length_range] at h
  have := hv.hi
  unfold rootsL
  omega
theorem cov_len {l : List Bx} {ms : List Int} : (covL l ms).length ≤ l.length := by
  have h := List.length_filter_le (covB l ms) (List.range l.length)
  rw [List.length_range] at h
  exact h
/-- roots are their own roots -/
theorem roots_roots {l : List Bx} {ms : List Int} : rootsL l (ni (rootsL l ms)) = rootsL l ms := by
  apply sorted_ext _ _ (roots_sorted _ _) (roots_sorted _ _)
  intro i
  constructor
  · intro h
    exact mem_ni_nat.1 (mem_roots.1 h).2.1
  · intro h
    refine mem_roots.2 ⟨(mem_roots.1 h).1, mem_ni_nat.2 h, fun m hm ha => ?_⟩
    obtain ⟨k, hk, rfl⟩ := mem_ni.1 hm
    rw [roots_apart hk h (by simpa using ha)]
theorem single_of {r : List Nat} {p : Nat} (hs : r.Pairwise (· < ·)) (h : ∀ x, x ∈ r ↔ x = p) : r = [p] :=
  sorted_ext _ _ hs (List.pairwise_singleton _ _) fun x => by rw [h, List.mem_singleton]
theorem roots_first {l : List Bx} {ms : List Int} (hv : Valid l) (hm : inMarks l ms) (h0 : (0 : Int) ∈ ms) : rootsL l ms = [0] := by
  apply single_of (roots_sorted _ _)
  intro x
  constructor
  · intro hx
    have h1 := mem_roots.1 hx
    have := h1.2.2 0 h0 (anc_zero hv x h1.1)
    omega
  · rintro rfl
    have hl := hv.lo
    refine mem_roots.2 ⟨by omega, h0, fun m hmm ha => ?_⟩
    have h1 := hm m hmm
    have h2 := anc_le _ (hv.down (i := 0) (by omega)) _ ha
    omega
theorem roots_one {l : List Bx} {a p : Nat} (hv : Valid l) (ha : a < l.length) (hp : p ∈ anc l a) : rootsL l [(a : Int), (p : Int)] = [p] := by
  have hpl := anc_le _ (hv.down ha) _ hp
  apply single_of (roots_sorted _ _)
  intro x
  constructor
  · intro hx
    have h1 := mem_roots.1 hx
    have h2 := h1.2.1
    simp only [List.mem_cons, List.not_mem_nil, or_false] at h2
    rcases h2 with h2 | h2
    · obtain rfl : x = a := by omega
      have := h1.2.2 (p : Int) (by simp) (by simpa using hp)
      omega
    · omega
  · rintro rfl
    refine mem_roots.2 ⟨by omega, by simp, fun m hm hx => ?_⟩
    simp only [List.mem_cons, List.not_mem_nil, or_false] at hm
    rcases hm with rfl | rfl
    · have := anc_antisymm hv ha (by omega) (by simpa using hx) hp
      omega
    · rfl
theorem roots_self {l : List Bx} {a : Nat} (_hv : Valid l) (ha : a < l.length) : rootsL l [(a : Int)] = [a] := by
  apply single_of (roots_sorted _ _)
  intro x
  rw [mem_roots]
  constructor
  · rintro ⟨_, h, _⟩
    simp only [List.mem_cons, List.not_mem_nil, or_false] at h
    omega
  · rintro rfl
    exact ⟨ha, by simp, fun m hm _ => by simpa using hm⟩
theorem cov_roots {l : List Bx} {ms : List Int} (hv : Valid l) (hm : inMarks l ms) : covL l (ni (rootsL l ms)) = covL l ms := by
  apply sorted_ext _ _ (cov_sorted _ _) (cov_sorted _ _)
  intro i
  rw [mem_cov, mem_cov]
  constructor
  · rintro ⟨h, m, hmm, ha⟩
    obtain ⟨k, hk, rfl⟩ := mem_ni.1 hmm
    exact ⟨h, k, (mem_roots.1 hk).2.1, ha⟩
  · rintro ⟨h, m, hmm, ha⟩
    have h0 := hm m hmm
    obtain ⟨r, h1, h2⟩ := roots_cover hv hm m.toNat (by rw [show ((m.toNat : Nat) : Int) = m from by omega]; exact hmm)
    exact ⟨h, r, mem_ni_nat.2 h1, by simpa using anc_trans _ (hv.down h) ha h2⟩
theorem cov_all {l : List Bx} (hv : Valid l) : covL l [0] = List.range l.length := by
  apply sorted_ext _ _ (cov_sorted _ _) List.pairwise_lt_range
  intro i
  rw [mem_cov, List.mem_range]
  constructor
  · exact fun h => h.1
  · exact fun h => ⟨h, 0, by simp, by simpa using anc_zero hv i h⟩
theorem cov_none (l : List Bx) : covL l [] = [] := by
  rw [List.eq_nil_iff_forall_not_mem]
  intro i h
  obtain ⟨_, m, hm, _⟩ := mem_cov.1 h
  cases hm
/-- the sum of the counts of boxes that are not around each other -/
def sumC (l : List Bx) (r : List Nat) : Nat := (r.map (cnt l)).foldl (· + ·) 0
theorem foldl_add : ∀ (r : List Nat) (c : Nat), r.foldl (· + ·) c = c + r.foldl (· + ·) 0
  | [], c => by simp
  | x :: r, c => by
    rw [List.foldl_cons, List.foldl_cons, foldl_add r (c + x), foldl_add r (0 + x)]
    omega
theorem sumC_snoc (l : List Bx) (r : List Nat) (x : Nat) : sumC l (r ++ [x]) = sumC l r + cnt l x := by
  unfold sumC
  rw [List.map_append, List.foldl_append]
  rfl
theorem sumC_cons (l : List Bx) (r : List Nat) (x : Nat) : sumC l (x :: r) = cnt l x + sumC l r := by
  unfold sumC
  rw [List.map_cons, List.foldl_cons, foldl_add]
  omega
theorem filter_or : ∀ (p q : Nat → Bool) (r : List Nat), (∀ x, x ∈ r → ¬ (p x = true ∧ q x = true)) → (r.filter fun x => p x || q x).length = (r.filter p).length + (r.filter q).length
  | _, _, [], _ => rfl
  | p, q, x :: r, h => by
    have ih := filter_or p q r fun y hy => h y (List.mem_cons_of_mem _ hy)
    have hx := h x List.mem_cons_self
    by_cases h1 : p x = true
    · have h2 : q x = false := by
        rw [Bool.eq_false_iff]
        exact fun h2 => hx ⟨h1, h2⟩
      simp only [List.filter_cons, h1, h2, Bool.or_false, if_true, List.length_cons, ih]
      simp
      omega
    · have h1' : p x = false := by simpa using h1
      by_cases h2 : q x = true
      · simp only [List.filter_cons, h1', h2, Bool.or_true, if_true, List.length_cons, ih]
        simp
        omega
      · have h2' : q x = false := by simpa using h2
        simp only [List.filter_cons, h1', h2', Bool.or_self]
        simp
        exact ih
theorem cov_sum {l : List Bx} (hv : Valid l) : ∀ (r : List Nat), r.Pairwise (fun a b => ¬ a ∈ anc l b ∧ ¬ b ∈ anc l a) → (∀ x, x ∈ r → x < l.length) → (covL l (ni r)).length = sumC l r
  | [], _, _ => by
    rw [show ni [] = [] from rfl, cov_none]
    rfl
  | a :: r, hp, hr => by
    have hp' := List.pairwise_cons.1 hp
    have ih := cov_sum hv r hp'.2 fun x hx => hr x (List.mem_cons_of_mem _ hx)
    have e : covL l (ni (a :: r)) = (List.range l.length).filter fun i => arB l a i || covB l (ni r) i := by
      unfold covL
      apply List.filter_congr
      intro i _
      rfl
    rw [e, filter_or, sumC_cons, ← ih]
    · rfl
    · intro i hi
      rw [List.mem_range] at hi
      rintro ⟨h1, h2⟩
      rw [arB_anc] at h1
      obtain ⟨m, hm, h3⟩ := List.any_eq_true.1 h2
      rw [arB_anc] at h3
      obtain ⟨k, hk, rfl⟩ := mem_ni.1 hm
      rw [Int.toNat_natCast] at h3
      have hak := hp'.1 k hk
      -- of two boxes around one, one is around the other
      have key : ∀ (a k : Nat), a ≤ k → k < l.length → a ∈ anc l i → k ∈ anc l i → a ∈ anc l k := by
        intro a k hak hkl ha hk
        have hki := anc_le _ (hv.down hi) _ hk
        obtain ⟨d, hd⟩ : ∃ d, i = k + d := ⟨i - k, by omega⟩
        exact between hv d k (by omega) hak (by rw [← hd]; exact ha)
      have hkl := hr k (List.mem_cons_of_mem _ hk)
      have hal := hr a List.mem_cons_self
      rcases Nat.le_total a k with h | h
      · exact hak.1 (key a k h hkl h1 h3)
      · exact hak.2 (key k a h hal h3 h1)
theorem pairwise_of : ∀ (r : List Nat) (R : Nat → Nat → Prop), r.Pairwise (· < ·) → (∀ a b, a ∈ r → b ∈ r → a < b → R a b) → r.Pairwise R
  | [], _, _, _ => List.Pairwise.nil
  | x :: r, R, h, hR => by
    have h' := List.pairwise_cons.1 h
    exact List.pairwise_cons.2 ⟨fun y hy => hR x y List.mem_cons_self (List.mem_cons_of_mem _ hy) (h'.1 y hy), pairwise_of r R h'.2 fun a b ha hb => hR a b (List.mem_cons_of_mem _ ha) (List.mem_cons_of_mem _ hb)⟩
theorem dirty_sum {l : List Bx} {ms : List Int} (hv : Valid l) (hm : inMarks l ms) : sumC l (rootsL l ms) = (covL l ms).length := by
  rw [← cov_roots hv hm]
  symm
  apply cov_sum hv
  · apply pairwise_of _ _ (roots_sorted _ _)
    intro a b ha hb hlt
    exact ⟨fun h => by have := roots_apart ha hb h; omega, fun h => by have := roots_apart hb ha h; omega⟩
  · exact fun x hx => (mem_roots.1 hx).1
/-- the roots that are left if a box is clean -/
def cleanL (l : List Bx) (ms : List Int) (a : Nat) : List Nat := (rootsL l ms).filter fun i => !arB l a i
theorem mem_clean {l : List Bx} {ms : List Int} {a i : Nat} : i ∈ cleanL l ms a ↔ i ∈ rootsL l ms ∧ ¬ a ∈ anc l i := by
  unfold cleanL
  rw [List.mem_filter]
  constructor
  · rintro ⟨h1, h2⟩
    exact ⟨h1, fun h => by rw [arB_anc.2 h] at h2; cases h2⟩
  · rintro ⟨h1, h2⟩
    refine ⟨h1, ?_⟩
    have : arB l a i = false := by
      rw [Bool.eq_false_iff]
      exact fun h => h2 (arB_anc.1 h)
    rw [this]
    rfl
theorem clean_first {l : List Bx} {ms : List Int} (hv : Valid l) : cleanL l ms 0 = [] := by
  rw [List.eq_nil_iff_forall_not_mem]
  intro i h
  have := mem_clean.1 h
  exact this.2 (anc_zero hv i (mem_roots.1 this.1).1)
/-- some of the roots are their own roots -/
theorem roots_some {l : List Bx} {ms : List Int} {r : List Nat} (hs : r.Pairwise (· < ·)) (hr : ∀ x, x ∈ r → x ∈ rootsL l ms) : rootsL l (ni r) = r := by
  apply sorted_ext _ _ (roots_sorted _ _) hs
  intro i
  constructor
  · exact fun h => mem_ni_nat.1 (mem_roots.1 h).2.1
  · intro h
    refine mem_roots.2 ⟨(mem_roots.1 (hr i h)).1, mem_ni_nat.2 h, fun m hm ha => ?_⟩
    obtain ⟨k, hk, rfl⟩ := mem_ni.1 hm
    rw [roots_apart (hr k hk) (hr i h) (by simpa using ha)]
theorem clean_head {l : List Bx} {ms : List Int} (hv : Valid l) {x : Nat} {r : List Nat} (hs : (x :: r).Pairwise (· < ·)) (hr : ∀ y, y ∈ x :: r → y ∈ rootsL l ms) : cleanL l (ni (x :: r)) x = r := by
  unfold cleanL
  rw [roots_some hs hr]
  have hx := hr x List.mem_cons_self
  have h0 : arB l x x = true := arB_anc.2 (anc_self (hv.down (mem_roots.1 hx).1))
  rw [List.filter_cons, h0]
  simp only [Bool.not_true, Bool.false_eq_true, if_false]
  rw [List.filter_eq_self]
  intro y hy
  have hlt := (List.pairwise_cons.1 hs).1 y hy
  have : arB l x y = false := by
    rw [Bool.eq_false_iff]
    intro h
    have := roots_apart hx (hr y (List.mem_cons_of_mem _ hy)) (arB_anc.1 h)
    omega
  rw [this]
  rfl
/-! ### a part, made box by box -/
def partToBx (l : List Bx) (a k j : Nat) : Bx := if j < k then (bx l (a + j)).at (par l (a + j) - a) else bx l (a + j)
def partTo (l : List Bx) (a k : Nat) : List Bx := (List.range (cntS l a)).map (partToBx l a k)
theorem partTo_length (l : List Bx) (a k : Nat) : (partTo l a k).length = cntS l a := by simp [partTo]
theorem partTo_get {l : List Bx} {a k j : Nat} (hj : j < cntS l a) : (partTo l a k)[j]? = some (partToBx l a k j) := by simp [partTo, hj]
theorem partTo_bx {l : List Bx} {a k j : Nat} (hj : j < cntS l a) : bx (partTo l a k) j = partToBx l a k j := bx_of (partTo_get hj)
theorem partTo_zero {l : List Bx} {a : Nat} : partTo l a 0 = (l.drop a).take (cntS l a) := by
  have hle := cntS_le l a
  apply List.ext_getElem?
  intro j
  rcases Nat.lt_or_ge j (cntS l a) with h | h
  · rw [partTo_get h, List.getElem?_take, if_pos h, List.getElem?_drop, bx_get (by omega)]
    unfold partToBx
    rw [if_neg (by omega)]
  · rw [List.getElem?_eq_none (by rw [partTo_length]; exact h), List.getElem?_eq_none (by rw [List.length_take]; omega)]
theorem partTo_succ {l : List Bx} {a k : Nat} : (partTo l a k).set k ({ bx (partTo l a k) k with parent := par l (a + k) - a }) = partTo l a (k + 1) := by
  apply List.ext_getElem?
  intro j
  rcases Nat.lt_or_ge j (cntS l a) with h | h
  · rw [partTo_get h, List.getElem?_set, partTo_length]
    by_cases h2 : k = j
    · subst h2
      rw [if_pos rfl, if_pos h, partTo_bx h]
      unfold partToBx
      rw [if_neg (Nat.lt_irrefl k), if_pos (Nat.lt_succ_self k)]
      rfl
    · rw [if_neg h2, partTo_get h]
      unfold partToBx
      by_cases h3 : j < k
      · rw [if_pos h3, if_pos (by omega)]
      · rw [if_neg h3, if_neg (by omega)]
  · rw [List.getElem?_eq_none (by rw [List.length_set, partTo_length]; exact h), List.getElem?_eq_none (by rw [partTo_length]; exact h)]
theorem partTo_full {l : List Bx} {a : Nat} (hc : 0 < cntS l a) : (partTo l a (cntS l a)).set 0 ({ bx (partTo l a (cntS l a)) 0 with parent := -1 }) = partL l a := by
  apply List.ext_getElem?
  intro j
  rcases Nat.lt_or_ge j (cntS l a) with h | h
  · have e : (partL l a)[j]? = some (partBx l a j) := by simp [partL, h]
    rw [e, List.getElem?_set, partTo_length]
    by_cases h2 : 0 = j
    · subst h2
      rw [if_pos rfl, if_pos h, partTo_bx h]
      unfold partToBx partBx
      rw [if_pos hc, if_pos rfl]
      rfl
    · rw [if_neg h2, partTo_get h]
      unfold partToBx partBx
      rw [if_pos h, if_neg (by omega)]
  · rw [List.getElem?_eq_none (by rw [List.length_set, partTo_length]; exact h), List.getElem?_eq_none (by rw [partL_length]; exact h)]
end Go.Proofs.Ytckggmbmlpikhaa
