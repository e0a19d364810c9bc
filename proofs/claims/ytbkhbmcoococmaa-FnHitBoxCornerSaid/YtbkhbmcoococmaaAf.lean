/-
  Plain laws of trees: what lies in a box, parts, boxes more and boxes fewer, and their sizes.
-/
import Derived.Test.YtbkhbmcoococmaaSNat
import Derived.Test.YtbkhbmcoococmaaSAdd
import Derived.Test.YtbkhbmcoococmaaAa
import Derived.Test.YtbkhbmcoococmaaAc
namespace Go.Proofs.Ytbkhbmcoococmaa
open Go Go.RowKit
theorem takeWhile_mem (p : Nat → Bool) : ∀ (r : List Nat) {x : Nat}, x ∈ r.takeWhile p → p x = true
  | [], x, h => by simp at h
  | y :: r, x, h => by
    by_cases hy : p y = true
    · rw [List.takeWhile_cons, if_pos hy] at h
      rcases List.mem_cons.1 h with h | h
      · rw [h]; exact hy
      · exact takeWhile_mem p r h
    · rw [List.takeWhile_cons, if_neg hy] at h
      cases h
theorem takeWhile_stop (p : Nat → Bool) : ∀ (r : List Nat), (r.takeWhile p).length < r.length → ∀ {x : Nat}, r[(r.takeWhile p).length]? = some x → p x = false
  | [], h, _, _ => by simp at h
  | y :: r, h, x, hx => by
    by_cases hy : p y = true
    · rw [List.takeWhile_cons, if_pos hy] at h hx
      simp only [List.length_cons, List.getElem?_cons_succ] at h hx
      exact takeWhile_stop p r (by omega) hx
    · rw [List.takeWhile_cons, if_neg hy] at hx
      simp at hx
      subst hx
      simpa using hy
theorem anc_trans {l : List Bx} {a b : Nat} : ∀ (i : Nat), Down l i → b ∈ anc l i → a ∈ anc l b → a ∈ anc l i := by
  intro i
  induction i using Nat.strongRecOn with
  | _ i ih =>
    intro hd hb ha
    rw [anc_eq hd] at hb ⊢
    rcases List.mem_cons.1 hb with h | h
    · subst h
      rw [anc_eq hd] at ha
      exact ha
    · split at h
      · rename_i h0
        have hp := hd i (Nat.le_refl _)
        rw [if_pos h0]
        exact List.mem_cons_of_mem _ (ih (par l i).toNat (by omega) (hd.mono (by omega)) h ha)
      · cases h
theorem anc_self {l : List Bx} {i : Nat} (hd : Down l i) : i ∈ anc l i := by rw [anc_eq hd]; exact List.mem_cons_self
theorem anc_par {l : List Bx} {a i : Nat} (hd : Down l i) (h : a ∈ anc l i) (hne : a ≠ i) : 0 ≤ par l i ∧ a ∈ anc l (par l i).toNat := by
  rw [anc_eq hd] at h
  rcases List.mem_cons.1 h with h | h
  · exact absurd h hne
  · split at h
    · exact ⟨by assumption, h⟩
    · cases h
theorem anc_step {l : List Bx} {a i : Nat} (hd : Down l i) (h0 : 0 ≤ par l i) (h : a ∈ anc l (par l i).toNat) : a ∈ anc l i := by
  rw [anc_eq hd, if_pos h0]
  exact List.mem_cons_of_mem _ h
/-- in a valid tree what lies in a box follows it directly -/
theorem between {l : List Bx} (hv : Valid l) {a : Nat} : ∀ (d j : Nat), j + d < l.length → a ≤ j → a ∈ anc l (j + d) → a ∈ anc l j
  | 0, _, _, _, h => h
  | d + 1, j, hi, hj, h => by
    have hdn := hv.down hi
    have h1 := anc_par hdn h (by omega)
    have h2 := (hv.par (j + (d + 1)) (by omega) hi).2.2
    exact between hv d j (by omega) hj (anc_trans (j + d) (hv.down (by omega)) (show (par l (j + (d + 1))).toNat ∈ anc l (j + d) from h2) h1.2)
theorem cntS_pos {l : List Bx} (hv : Valid l) {a : Nat} (ha : a < l.length) : 1 ≤ cntS l a := by
  unfold cntS
  obtain ⟨n, hn⟩ : ∃ n, l.length - a = n + 1 := ⟨l.length - a - 1, by omega⟩
  rw [hn, List.range'_succ, List.takeWhile_cons, arB_self (hv.down ha)]
  simp
theorem cntS_in {l : List Bx} {a i : Nat} (h1 : a ≤ i) (h2 : i < a + cntS l a) : arB l a i = true := by
  unfold cntS at h2
  have hp := List.takeWhile_prefix (fun i => arB l a i) (l := List.range' a (l.length - a))
  obtain ⟨t, ht⟩ := hp
  have hm : (List.takeWhile (fun i => arB l a i) (List.range' a (l.length - a)))[i - a]? = some i := by
    have h3 : (List.range' a (l.length - a))[i - a]? = some i := by
      have h4 := (List.takeWhile_sublist (fun i => arB l a i) (l := List.range' a (l.length - a))).length_le
      rw [List.length_range'] at h4
      rw [List.getElem?_range' (by omega)]
      congr 1
      omega
    rw [← ht, List.getElem?_append_left (by omega)] at h3
    exact h3
  have := List.mem_of_getElem? hm
  exact (takeWhile_mem _ _ this)
theorem cntS_out {l : List Bx} (hv : Valid l) {a i : Nat} (h1 : a + cntS l a ≤ i) (h2 : i < l.length) : arB l a i = false := by
  by_cases h : arB l a i = true
  · exfalso
    have hm : a ∈ anc l i := by simpa [arB] using h
    have key : ∀ t, t < l.length - a → arB l a (a + t) = true ∨ cntS l a ≤ t := by
      intro t ht
      by_cases hb : a + t ≤ i
      · left
        obtain ⟨d, hd⟩ : ∃ d, i = a + t + d := ⟨i - (a + t), by omega⟩
        have := between hv (a := a) d (a + t) (by omega) (by omega) (by rw [← hd]; exact hm)
        simpa [arB] using this
      · right
        have := anc_le i (hv.down h2) a hm
        omega
    have hc : (List.takeWhile (fun i => arB l a i) (List.range' a (l.length - a))).length = cntS l a := rfl
    rcases Nat.lt_or_ge (cntS l a) (l.length - a) with h3 | h3
    · have hs := takeWhile_stop (fun i => arB l a i) (List.range' a (l.length - a)) (by rw [List.length_range']; exact h3) (x := a + cntS l a) (by
        rw [hc, List.getElem?_range' (by omega)]; simp)
      obtain ⟨d, hd⟩ : ∃ d, i = a + cntS l a + d := ⟨i - (a + cntS l a), by omega⟩
      have := between hv (a := a) d (a + cntS l a) (by omega) (by omega) (by rw [← hd]; exact hm)
      have h5 : arB l a (a + cntS l a) = true := by simpa [arB] using this
      rw [h5] at hs
      cases hs
    · omega
  · simpa using h
theorem arB_iff {l : List Bx} (hv : Valid l) {a i : Nat} (hi : i < l.length) : arB l a i = true ↔ a ≤ i ∧ i < a + cntS l a := by
  constructor
  · intro h
    have hm : a ∈ anc l i := by simpa [arB] using h
    refine ⟨anc_le i (hv.down hi) a hm, ?_⟩
    rcases Nat.lt_or_ge i (a + cntS l a) with h1 | h1
    · exact h1
    · rw [cntS_out hv h1 hi] at h
      cases h
  · exact fun h => cntS_in h.1 h.2
theorem filter_interval : ∀ (n a e : Nat), a ≤ e → e ≤ n → ((List.range n).filter fun i => decide (a ≤ i) && decide (i < e)).length = e - a
  | 0, a, e, h1, h2 => by simp; omega
  | n + 1, a, e, h1, h2 => by
    rw [List.range_succ, List.filter_append, List.length_append]
    rcases Nat.lt_or_ge n e with h | h
    · obtain rfl : e = n + 1 := by omega
      rcases Nat.lt_or_ge n a with h3 | h3
      · have e1 : (List.range n).filter (fun i => decide (a ≤ i) && decide (i < n + 1)) = [] := by
          rw [List.filter_eq_nil_iff]
          intro i hi
          rw [List.mem_range] at hi
          simp
          omega
        rw [e1]
        have : ¬ a ≤ n := by omega
        simp [this]
        omega
      · have e1 : (List.range n).filter (fun i => decide (a ≤ i) && decide (i < n + 1)) = (List.range n).filter (fun i => decide (a ≤ i) && decide (i < n)) := by
          apply List.filter_congr
          intro i hi
          rw [List.mem_range] at hi
          have h4 : i < n + 1 := by omega
          simp [hi, h4]
        rw [e1, filter_interval n a n h3 (Nat.le_refl _)]
        simp [h3]
        omega
    · rw [filter_interval n a e h1 h]
      have : ¬ n < e := by omega
      simp [this]
theorem cnt_eq {l : List Bx} (hv : Valid l) {a : Nat} (ha : a < l.length) : cnt l a = cntS l a := by
  unfold cnt
  have hle := cntS_le l a
  have e : (List.range l.length).filter (fun i => arB l a i) = (List.range l.length).filter (fun i => decide (a ≤ i) && decide (i < a + cntS l a)) := by
    apply List.filter_congr
    intro i hi
    rw [List.mem_range] at hi
    rw [Bool.eq_iff_iff, arB_iff hv hi]
    simp
  rw [e, filter_interval l.length a (a + cntS l a) (by omega) (by omega)]
  omega
/-- a box and all boxes in it, as a tree -/
def partBx (l : List Bx) (a j : Nat) : Bx := if j = 0 then (bx l a).at (-1) else (bx l (a + j)).at (par l (a + j) - a)
def partL (l : List Bx) (a : Nat) : List Bx := (List.range (cntS l a)).map (partBx l a)
theorem partL_length (l : List Bx) (a : Nat) : (partL l a).length = cntS l a := by simp [partL]
theorem partL_bx {l : List Bx} {a j : Nat} (hj : j < cntS l a) : bx (partL l a) j = partBx l a j := by
  unfold bx partL
  simp [List.getD, hj]
theorem partBx_kind (l : List Bx) (a j : Nat) : (partBx l a j).kind = (bx l (a + j)).kind := by
  unfold partBx
  split
  · rename_i h; subst h; rfl
  · rfl
theorem partBx_ok (l : List Bx) (a j : Nat) : okB (partBx l a j) = okB (bx l (a + j)) := by
  unfold partBx
  split
  · rename_i h; subst h; rfl
  · rfl
theorem part_par {l : List Bx} (hv : Valid l) {a j : Nat} (ha : a < l.length) (h0 : 0 < j) (hj : j < cntS l a) :
    par (partL l a) j = par l (a + j) - a ∧ (a : Int) ≤ par l (a + j) ∧ par l (a + j) < a + j := by
  have hle := cntS_le l a
  have hi : a + j < l.length := by omega
  have hm : a ∈ anc l (a + j) := by
    have := cntS_in (l := l) (a := a) (i := a + j) (by omega) (by omega)
    simpa [arB] using this
  have h1 := anc_par (hv.down hi) hm (by omega)
  have h2 := hv.down hi (a + j) (Nat.le_refl _)
  have h3 := anc_le _ ((hv.down hi).mono (by omega)) a h1.2
  refine ⟨?_, by omega, by omega⟩
  show (bx (partL l a) j).parent = _
  rw [partL_bx hj]
  unfold partBx
  rw [if_neg (by omega)]
  rfl
theorem part_root {l : List Bx} {a : Nat} (h : 0 < cntS l a) : par (partL l a) 0 = -1 := by
  show (bx (partL l a) 0).parent = _
  rw [partL_bx h]
  rfl
theorem part_down {l : List Bx} (hv : Valid l) {a j : Nat} (ha : a < l.length) (hj : j < cntS l a) : Down (partL l a) j := by
  intro k hk
  rcases Nat.eq_zero_or_pos k with h0 | h0
  · subst h0
    rw [part_root (by omega)]
    omega
  · have := part_par hv ha h0 (by omega)
    omega
theorem part_anc {l : List Bx} (hv : Valid l) {a : Nat} (ha : a < l.length) : ∀ (j : Nat), j < cntS l a → anc l (a + j) = (anc (partL l a) j).map (a + ·) ++ (anc l a).tail := by
  intro j
  induction j using Nat.strongRecOn with
  | _ j ih =>
    intro hj
    have hle := cntS_le l a
    rcases Nat.eq_zero_or_pos j with h0 | h0
    · subst h0
      rw [anc_root (part_down hv ha hj) (by rw [part_root hj]; omega), Nat.add_zero, anc_eq (hv.down ha)]
      simp
    · obtain ⟨e, h1, h2⟩ := part_par hv ha h0 hj
      obtain ⟨p, hp⟩ : ∃ p : Nat, par l (a + j) = ((a + p : Nat) : Int) := ⟨(par l (a + j) - a).toNat, by omega⟩
      have hpj : p < j := by omega
      rw [anc_up (hv.down (by omega)) hp, ih p hpj (by omega), anc_up (l := partL l a) (i := j) (p := p) (part_down hv ha hj) (by rw [e]; omega)]
      simp
theorem part_anc_mem {l : List Bx} (hv : Valid l) {a b j : Nat} (ha : a < l.length) (hj : j < cntS l a) : b ∈ anc (partL l a) j ↔ a + b ∈ anc l (a + j) := by
  rw [part_anc hv ha j hj, List.mem_append, List.mem_map]
  constructor
  · exact fun h => .inl ⟨b, h, rfl⟩
  · rintro (⟨x, hx, e⟩ | h)
    · obtain rfl : x = b := by omega
      exact hx
    · exfalso
      rw [anc_eq (hv.down ha), List.tail_cons] at h
      split at h
      · have := hv.down ha a (Nat.le_refl _)
        have := anc_le _ ((hv.down ha).mono (by omega)) _ h
        omega
      · cases h
theorem mem_kid_iff {l : List Bx} {i : Int} {k : Nat} : k ∈ kid l i ↔ k < l.length ∧ par l k = i := by
  simp [kid]
theorem kid_in {l : List Bx} (hv : Valid l) {a j k : Nat} (hj : j < cntS l a) (hk : k < l.length) (h : par l k = ((a + j : Nat) : Int)) : a + j < k ∧ k < a + cntS l a := by
  have hd := hv.down hk k (Nat.le_refl _)
  have hm : a ∈ anc l k := anc_step (hv.down hk) (by omega) (by
    rw [h, Int.toNat_natCast]
    have := cntS_in (l := l) (a := a) (i := a + j) (by omega) (by omega)
    simpa [arB] using this)
  have := (arB_iff (a := a) hv hk).1 (by simpa [arB] using hm)
  omega
theorem filter_shift (p q : Nat → Bool) (a n m : Nat) (hm : a + n ≤ m) (hin : ∀ j, j < n → p (a + j) = q j) (hout : ∀ k, k < m → ¬ (a ≤ k ∧ k < a + n) → p k = false) :
    (List.range m).filter p = ((List.range n).filter q).map (a + ·) := by
  have e : List.range m = List.range a ++ ((List.range n).map (a + ·) ++ (List.range (m - (a + n))).map (a + n + ·)) := by
    have h1 : m = a + (n + (m - (a + n))) := by omega
    conv => lhs; rw [h1]
    rw [List.range_add, List.range_add]
    simp [Nat.add_assoc]
  rw [e, List.filter_append, List.filter_append]
  have f1 : (List.range a).filter p = [] := by
    rw [List.filter_eq_nil_iff]
    intro k hk
    rw [List.mem_range] at hk
    rw [hout k (by omega) (by omega)]
    simp
  have f3 : ((List.range (m - (a + n))).map (a + n + ·)).filter p = [] := by
    rw [List.filter_eq_nil_iff]
    intro k hk
    obtain ⟨t, ht, rfl⟩ := List.mem_map.1 hk
    rw [List.mem_range] at ht
    rw [hout _ (by omega) (by omega)]
    simp
  rw [f1, f3, List.nil_append, List.append_nil, List.filter_map]
  congr 1
  apply List.filter_congr
  intro j hj
  rw [List.mem_range] at hj
  exact hin j hj
theorem part_kid {l : List Bx} (hv : Valid l) {a j : Nat} (ha : a < l.length) (hj : j < cntS l a) : kid l ((a + j : Nat) : Int) = (kid (partL l a) (j : Int)).map (a + ·) := by
  have hle := cntS_le l a
  unfold kid
  rw [partL_length]
  refine filter_shift _ _ a (cntS l a) l.length (by omega) (fun k hk => ?_) (fun k hk hn => ?_)
  · rw [decide_eq_decide]
    rcases Nat.eq_zero_or_pos k with h0 | h0
    · subst h0
      rw [part_root (by omega)]
      constructor
      · intro h
        have := (kid_in hv hj (by omega) h).1
        omega
      · intro h; omega
    · have := (part_par hv ha h0 hk).1
      rw [this]
      omega
  · rw [decide_eq_false_iff_not]
    intro h
    have := kid_in hv hj hk h
    omega
theorem part_valid {l : List Bx} (hv : Valid l) {a : Nat} (ha : a < l.length) : Valid (partL l a) := by
  have hle := cntS_le l a
  have hpos := cntS_pos hv ha
  have hhi := hv.hi
  refine ⟨?_, ?_, part_root (by omega), ?_, ?_, ?_, ?_⟩
  · rw [partL_length]; exact hpos
  · rw [partL_length]; omega
  · intro i hi
    rw [partL_length] at hi
    rw [partL_bx hi, partBx_ok]
    exact hv.ok _ (by omega)
  · intro i h0 hi
    rw [partL_length] at hi
    obtain ⟨e, h1, h2⟩ := part_par hv ha h0 hi
    refine ⟨by omega, by omega, ?_⟩
    rw [part_anc_mem hv ha (by omega), e]
    have := (hv.par (a + i) (by omega) (by omega)).2.2
    rw [show a + (par l (a + i) - a).toNat = (par l (a + i)).toNat from by omega, show a + (i - 1) = a + i - 1 from by omega]
    exact this
  · intro i hi
    rw [partL_length] at hi
    have := hv.depth (a + i) (by omega)
    rw [part_anc hv ha i hi, List.length_append, List.length_map] at this
    omega
  · intro i hi
    rw [partL_length] at hi
    have := hv.kids (a + i) (by omega)
    rw [part_kid hv ha hi, List.length_map] at this
    refine ⟨this.1, fun hk => ?_⟩
    rw [partL_bx hi, partBx_kind] at hk
    exact List.map_eq_nil_iff.1 (this.2 hk)
/-- the root is around all boxes -/
theorem anc_zero {l : List Bx} (hv : Valid l) : ∀ (i : Nat), i < l.length → 0 ∈ anc l i := by
  intro i
  induction i using Nat.strongRecOn with
  | _ i ih =>
    intro hi
    rcases Nat.eq_zero_or_pos i with h0 | h0
    · subst h0
      exact anc_self (hv.down hi)
    · have := hv.par i h0 hi
      exact anc_step (hv.down hi) this.1 (ih _ (by omega) (by omega))
theorem cntS_zero {l : List Bx} (hv : Valid l) : cntS l 0 = l.length := by
  have hle := cntS_le l 0
  rcases Nat.lt_or_ge (cntS l 0) l.length with h | h
  · have := cntS_out hv (a := 0) (i := cntS l 0) (by omega) h
    have h2 := anc_zero hv _ h
    unfold arB at this
    simp [h2] at this
  · omega
theorem part_zero {l : List Bx} (hv : Valid l) : partL l 0 = l := by
  apply List.ext_getElem?
  intro j
  rcases Nat.lt_or_ge j l.length with h | h
  · have hc := cntS_zero hv
    have e : (partL l 0)[j]? = some (partBx l 0 j) := by simp [partL, hc, h]
    have e2 : l[j]? = some (bx l j) := by simp [bx, List.getD, h]
    rw [e, e2]
    unfold partBx
    split
    · rename_i h0
      subst h0
      have := hv.root
      unfold par at this
      rw [← this]
      rfl
    · simp [Bx.at, par]
  · rw [List.getElem?_eq_none (by rw [partL_length, cntS_zero hv]; exact h), List.getElem?_eq_none h]
theorem part_cntS {l : List Bx} (hv : Valid l) {a j : Nat} (ha : a < l.length) (hj : j < cntS l a) : cntS (partL l a) j = cntS l (a + j) := by
  have hle := cntS_le l a
  have hle2 := cntS_le l (a + j)
  have hle3 := cntS_le (partL l a) j
  rw [partL_length] at hle3
  have hpv := part_valid hv ha
  have key : ∀ k, k < cntS l a → arB (partL l a) j k = arB l (a + j) (a + k) := by
    intro k hk
    unfold arB
    rw [decide_eq_decide]
    exact part_anc_mem hv ha hk
  -- the end of the inner one lies within
  have hin : a + j + cntS l (a + j) ≤ a + cntS l a := by
    rcases Nat.lt_or_ge (a + cntS l a) (a + j + cntS l (a + j)) with h | h
    · exfalso
      have h1 := cntS_in (l := l) (a := a + j) (i := a + cntS l a) (by omega) h
      have h2 : a ∈ anc l (a + cntS l a) := anc_trans _ (hv.down (by omega)) (show a + j ∈ _ by simpa [arB] using h1) (by
        have := cntS_in (l := l) (a := a) (i := a + j) (by omega) (by omega)
        simpa [arB] using this)
      have h3 := cntS_out hv (a := a) (i := a + cntS l a) (Nat.le_refl _) (by omega)
      unfold arB at h3
      simp [h2] at h3
    · exact h
  rcases Nat.lt_trichotomy (cntS (partL l a) j) (cntS l (a + j)) with h | h | h
  · exfalso
    have h1 := cntS_out hpv (a := j) (i := j + cntS (partL l a) j) (Nat.le_refl _) (by rw [partL_length]; omega)
    rw [key _ (by omega), cntS_in (by omega) (by omega)] at h1
    cases h1
  · exact h
  · exfalso
    have h1 := cntS_in (l := partL l a) (a := j) (i := j + cntS l (a + j)) (by omega) (by omega)
    rw [key _ (by omega), cntS_out hv (by omega) (by omega)] at h1
    cases h1
theorem part_part {l : List Bx} (hv : Valid l) {a j : Nat} (ha : a < l.length) (hj : j < cntS l a) : partL (partL l a) j = partL l (a + j) := by
  unfold partL
  rw [show cntS (List.map (partBx l a) (List.range (cntS l a))) j = cntS l (a + j) from part_cntS hv ha hj]
  have hle2 : j + cntS l (a + j) ≤ cntS l a := by
    have := cntS_le (partL l a) j
    rw [part_cntS hv ha hj, partL_length] at this
    omega
  apply List.map_congr_left
  intro k hk
  rw [List.mem_range] at hk
  show partBx (partL l a) j k = _
  unfold partBx
  by_cases h0 : k = 0
  · subst h0
    rw [if_pos rfl, if_pos rfl, partL_bx hj]
    unfold partBx
    split
    · rename_i h; subst h; rfl
    · rfl
  · rw [if_neg h0, if_neg h0, (part_par hv ha (j := j + k) (by omega) (by omega)).1, partL_bx (by omega)]
    unfold partBx
    rw [if_neg (by omega)]
    rw [show a + (j + k) = a + j + k from by omega]
    simp only [Bx.at]
    congr 1
    omega
/-- the size depends on the boxes and on the kids alone: a renumbering keeps it -/
theorem natS_map {l m : List Bx} {f : Nat → Nat} {ok : Nat → Prop} (hdl : ∀ k, k < l.length → par l k < k) (hdm : ∀ k, k < m.length → par m k < k)
    (hok : ∀ j, ok j → j < m.length ∧ f j < l.length) (hsty : ∀ j, ok j → ∃ p, bx m j = (bx l (f j)).at p)
    (hkid : ∀ j, ok j → kid l (f j : Int) = (kid m (j : Int)).map f) (hoks : ∀ j k, ok j → k ∈ kid m (j : Int) → ok k) :
    ∀ (d j : Nat), m.length - j ≤ d → ok j → natS m j = natS l (f j)
  | 0, j, h, hj => by have := (hok j hj).1; omega
  | d + 1, j, h, hj => by
    obtain ⟨h1, h2⟩ := hok j hj
    rw [natS_eq hdm h1, natS_eq hdl h2]
    have hk : kidS m j = kidS l (f j) := by
      unfold kidS
      rw [hkid j hj, List.map_map]
      apply List.map_congr_left
      intro k hk
      have hm := mem_kid.1 hk
      have := hdm k hm.1
      exact natS_map hdl hdm hok hsty hkid hoks d k (by omega) (hoks j k hj hk)
    obtain ⟨p, hp⟩ := hsty j hj
    rw [hk, hp]
    have : ∀ (r : List (Int × Int)) (k : Nat) (acc : Int × Int), foldK ((bx l (f j)).at p) k acc r = foldK (bx l (f j)) k acc r := by
      intro r
      induction r with
      | nil => intro k acc; rfl
      | cons s r ih => intro k acc; rw [foldK, foldK, ih]; rfl
    rw [this]
    rfl
theorem part_nat {l : List Bx} (hv : Valid l) {a j : Nat} (ha : a < l.length) (hj : j < cntS l a) : natS (partL l a) j = natS l (a + j) := by
  have hle := cntS_le l a
  have hpv := part_valid hv ha
  refine natS_map (f := (a + ·)) (ok := fun j => j < cntS l a) (fun k hk => hv.down hk k (Nat.le_refl _)) (fun k hk => hpv.down hk k (Nat.le_refl _)) (fun j hj => ⟨by rw [partL_length]; exact hj, by omega⟩) (fun j hj => ?_) (fun j hj => part_kid hv ha hj) (fun j k hj hk => ?_) _ j (Nat.le_refl _) hj
  · rw [partL_bx hj]
    unfold partBx
    split
    · rename_i h; subst h; exact ⟨_, rfl⟩
    · exact ⟨_, rfl⟩
  · have := (mem_kid.1 hk).1
    rw [partL_length] at this
    exact this
theorem foldK_mono (b : Bx) (hb : 0 ≤ b.gap) : ∀ (r : List (Int × Int)) (k : Nat) (acc : Int × Int), (∀ s, s ∈ r → 0 ≤ s.1 ∧ 0 ≤ s.2) → acc.1 ≤ (foldK b k acc r).1 ∧ acc.2 ≤ (foldK b k acc r).2
  | [], _, _, _ => ⟨Int.le_refl _, Int.le_refl _⟩
  | s :: r, k, acc, hs => by
    have h := foldK_mono b hb r (k + 1) (addK b k acc s) (fun t ht => hs t (List.mem_cons_of_mem _ ht))
    have h0 := hs s List.mem_cons_self
    have h1 : acc.1 ≤ (addK b k acc s).1 ∧ acc.2 ≤ (addK b k acc s).2 := by
      unfold addK
      split <;> (dsimp only; split <;> omega)
    exact ⟨Int.le_trans h1.1 h.1, Int.le_trans h1.2 h.2⟩
theorem foldK_mem (b : Bx) (hb : 0 ≤ b.gap) : ∀ (r : List (Int × Int)) (k : Nat) (acc : Int × Int), 0 ≤ acc.1 → 0 ≤ acc.2 → (∀ s, s ∈ r → 0 ≤ s.1 ∧ 0 ≤ s.2) → ∀ t, t ∈ r → t.1 ≤ (foldK b k acc r).1 ∧ t.2 ≤ (foldK b k acc r).2
  | [], _, _, _, _, _, t, ht => by cases ht
  | s :: r, k, acc, ha1, ha2, hs, t, ht => by
    have h0 := hs s List.mem_cons_self
    have hr : ∀ t, t ∈ r → 0 ≤ t.1 ∧ 0 ≤ t.2 := fun t ht => hs t (List.mem_cons_of_mem _ ht)
    have h1 : 0 ≤ (addK b k acc s).1 ∧ 0 ≤ (addK b k acc s).2 ∧ s.1 ≤ (addK b k acc s).1 ∧ s.2 ≤ (addK b k acc s).2 := by
      unfold addK
      split <;> (dsimp only; split <;> omega)
    rcases List.mem_cons.1 ht with h | h
    · subst h
      have := foldK_mono b hb r (k + 1) (addK b k acc t) hr
      rw [foldK]
      omega
    · exact foldK_mem b hb r (k + 1) (addK b k acc s) h1.1 h1.2.1 hr t h
theorem natS_pos {l : List Bx} (hv : Valid l) {i : Nat} (hi : i < l.length) : 0 ≤ (natS l i).1 ∧ 0 ≤ (natS l i).2 := by
  have := natS_sz hv hi
  exact ⟨this.1, this.2.2.1⟩
theorem kidS_pos {l : List Bx} (hv : Valid l) {i : Nat} : ∀ s, s ∈ kidS l i → 0 ≤ s.1 ∧ 0 ≤ s.2 := fun s hs => by
  unfold kidS at hs
  obtain ⟨k, hk, rfl⟩ := List.mem_map.1 hs
  exact natS_pos hv (mem_kid.1 hk).1
theorem nat_kid {l : List Bx} (hv : Valid l) {i k : Nat} (hi : i < l.length) (hk : k ∈ kid l (i : Int)) :
    (natS l k).1 + 2 * (bx l i).pad ≤ (natS l i).1 ∧ (natS l k).2 + 2 * (bx l i).pad ≤ (natS l i).2 := by
  have hb := okB_bounds (hv.ok i hi)
  have h := foldK_mem (bx l i) (by omega) (kidS l i) 0 ((bx l i).w, (bx l i).h) (by dsimp only; omega) (by dsimp only; omega) (kidS_pos hv) (natS l k) (List.mem_map_of_mem hk)
  rw [natS_eq (fun k hk => hv.down hk k (Nat.le_refl _)) hi]
  dsimp only
  omega
/-- rows add widths, all others heights -/
theorem nat_line {l : List Bx} (hv : Valid l) {i : Nat} (hi : i < l.length) (hk : ¬ (bx l i).kind = 0) :
    (if (bx l i).kind = 2 then (natS l i).1 else (natS l i).2) = alongTo l i (kid l (i : Int)).length + 2 * (bx l i).pad := by
  rw [natS_box hv hi hk]
  unfold alongTo
  rw [List.take_of_length_le (by rw [kidS_length]; exact Nat.le_refl _)]
  split <;> rfl
/-! ### a box whose pad is 1 greater -/
def padL (l : List Bx) (i : Nat) : List Bx := l.set i { bx l i with pad := (bx l i).pad + 1 }
theorem padL_length (l : List Bx) (i : Nat) : (padL l i).length = l.length := by simp [padL]
theorem padL_bx {l : List Bx} {i : Nat} (hi : i < l.length) (j : Nat) : bx (padL l i) j = if j = i then { bx l i with pad := (bx l i).pad + 1 } else bx l j := by
  unfold bx padL
  simp only [List.getD_eq_getElem?_getD, List.getElem?_set]
  by_cases h : i = j
  · subst h; simp [hi, bx]
  · have : ¬ j = i := by omega
    simp [h, this]
theorem padL_par {l : List Bx} {i : Nat} (hi : i < l.length) (j : Nat) : par (padL l i) j = par l j := by
  unfold par
  rw [padL_bx hi]
  split
  · rename_i h; rw [h]
  · rfl
theorem padL_kid {l : List Bx} {i : Nat} (hi : i < l.length) (j : Int) : kid (padL l i) j = kid l j := by
  unfold kid
  rw [padL_length]
  apply List.filter_congr
  intro k _
  rw [padL_par hi]
theorem nat_pad {l : List Bx} (hv : Valid l) {i : Nat} (hi : i < l.length) : natS (padL l i) i = ((natS l i).1 + 2, (natS l i).2 + 2) := by
  have hdl : ∀ k, k < l.length → par l k < k := fun k hk => hv.down hk k (Nat.le_refl _)
  have hdm : ∀ k, k < (padL l i).length → par (padL l i) k < k := fun k hk => by
    rw [padL_par hi]
    exact hdl k (by rw [padL_length] at hk; exact hk)
  rw [natS_eq hdm (by rw [padL_length]; exact hi), natS_eq hdl hi]
  have hk : kidS (padL l i) i = kidS l i := by
    unfold kidS
    rw [padL_kid hi]
    apply List.map_congr_left
    intro k hk
    have hm := mem_kid.1 hk
    have := hdl k hm.1
    refine (natS_map (f := id) (ok := fun j => i < j ∧ j < l.length) hdl hdm (fun j hj => ⟨by rw [padL_length]; exact hj.2, hj.2⟩) (fun j hj => ⟨(bx l j).parent, ?_⟩) (fun j hj => ?_) (fun j k hj hk => ?_) _ k (Nat.le_refl _) ⟨by omega, hm.1⟩)
    · rw [padL_bx hi, if_neg (by omega)]
      rfl
    · rw [padL_kid hi]; simp
    · rw [padL_kid hi] at hk
      have hm := mem_kid.1 hk
      have := hdl k hm.1
      exact ⟨by omega, hm.1⟩
  rw [hk, padL_bx hi, if_pos rfl]
  have : ∀ (r : List (Int × Int)) (k : Nat) (acc : Int × Int), foldK { bx l i with pad := (bx l i).pad + 1 } k acc r = foldK (bx l i) k acc r := by
    intro r
    induction r with
    | nil => intro k acc; rfl
    | cons s r ih => intro k acc; rw [foldK, foldK, ih]; rfl
  rw [this]
  dsimp only
  congr 1 <;> omega
/-! ### the widest box -/
def wkStep (l : List Bx) (b : Int) (k : Nat) : Int := if b < 0 ∨ (natS l b.toNat).1 < (natS l k).1 then (k : Int) else b
def wkTo (l : List Bx) (i : Int) (j : Nat) : Int := ((kid l i).take j).foldl (wkStep l) (-1)
/-- the widest box directly in box i -/
def wkF (l : List Bx) (i : Int) : Int := wkTo l i (kid l i).length
theorem wkTo_zero (l : List Bx) (i : Int) : wkTo l i 0 = -1 := rfl
theorem wkTo_succ {l : List Bx} {i : Int} {j k : Nat} (hk : (kid l i)[j]? = some k) : wkTo l i (j + 1) = wkStep l (wkTo l i j) k := by
  unfold wkTo
  rw [List.take_add_one, hk]
  simp
theorem wkTo_spec {l : List Bx} {i : Int} : ∀ (j : Nat), j ≤ (kid l i).length → (j = 0 → wkTo l i j = -1) ∧ (0 < j → ∃ k t : Nat, wkTo l i j = (k : Int) ∧ t < j ∧ (kid l i)[t]? = some k ∧ ∀ t' k', t' < j → (kid l i)[t']? = some k' → (natS l k').1 ≤ (natS l k).1 ∧ (t' < t → (natS l k').1 < (natS l k).1))
  | 0, _ => ⟨fun _ => rfl, fun h => by omega⟩
  | j + 1, hj => by
    refine ⟨fun h => by omega, fun _ => ?_⟩
    obtain ⟨n, hn⟩ : ∃ n, (kid l i)[j]? = some n := ⟨_, List.getElem?_eq_getElem (by omega)⟩
    rw [wkTo_succ hn]
    obtain ⟨h1, h2⟩ := wkTo_spec (l := l) (i := i) j (by omega)
    rcases Nat.eq_zero_or_pos j with h0 | h0
    · subst h0
      refine ⟨n, 0, ?_, by omega, hn, fun t' k' ht hk => ?_⟩
      · rw [h1 rfl]; rfl
      · obtain rfl : t' = 0 := by omega
        rw [hn] at hk
        cases hk
        exact ⟨Int.le_refl _, fun h => by omega⟩
    · obtain ⟨k, t, e, ht, hk, hall⟩ := h2 h0
      rw [e]
      unfold wkStep
      rw [Int.toNat_natCast]
      by_cases hlt : (natS l k).1 < (natS l n).1
      · rw [if_pos (.inr hlt)]
        refine ⟨n, j, rfl, by omega, hn, fun t' k' ht' hk' => ?_⟩
        rcases Nat.lt_or_ge t' j with h | h
        · have := (hall t' k' h hk').1
          exact ⟨by omega, fun _ => by omega⟩
        · obtain rfl : t' = j := by omega
          rw [hn] at hk'
          cases hk'
          exact ⟨Int.le_refl _, fun h => by omega⟩
      · rw [if_neg (by omega)]
        refine ⟨k, t, rfl, by omega, hk, fun t' k' ht' hk' => ?_⟩
        rcases Nat.lt_or_ge t' j with h | h
        · exact hall t' k' h hk'
        · obtain rfl : t' = j := by omega
          rw [hn] at hk'
          cases hk'
          exact ⟨by omega, fun h => by omega⟩
theorem kid_sorted {l : List Bx} {i : Int} {s t a b : Nat} (hs : (kid l i)[s]? = some a) (ht : (kid l i)[t]? = some b) : s < t ↔ a < b := by
  have hp : (kid l i).Pairwise (· < ·) := List.Pairwise.filter _ List.pairwise_lt_range
  obtain ⟨h1, e1⟩ := List.getElem?_eq_some_iff.1 hs
  obtain ⟨h2, e2⟩ := List.getElem?_eq_some_iff.1 ht
  have hp' := List.pairwise_iff_getElem.1 hp
  constructor
  · intro h
    have := hp' s t h1 h2 h
    omega
  · intro h
    rcases Nat.lt_trichotomy s t with h3 | h3 | h3
    · exact h3
    · subst h3
      rw [e1] at e2
      omega
    · have := hp' t s h2 h1 h3
      omega
/-- what the widest box is -/
theorem wkF_spec {l : List Bx} {i : Int} (h : 0 ≤ wkF l i) : ∃ k : Nat, wkF l i = (k : Int) ∧ k ∈ kid l i ∧ ∀ k', k' ∈ kid l i → (natS l k').1 ≤ (natS l k).1 ∧ (k' < k → (natS l k').1 < (natS l k).1) := by
  obtain ⟨h1, h2⟩ := wkTo_spec (l := l) (i := i) (kid l i).length (Nat.le_refl _)
  rcases Nat.eq_zero_or_pos (kid l i).length with h0 | h0
  · have := h1 h0
    unfold wkF at h
    omega
  · obtain ⟨k, t, e, ht, hk, hall⟩ := h2 h0
    refine ⟨k, e, List.mem_of_getElem? hk, fun k' hk' => ?_⟩
    obtain ⟨t', ht', e'⟩ := List.getElem_of_mem hk'
    have hg : (kid l i)[t']? = some k' := by rw [List.getElem?_eq_getElem ht', e']
    have := hall t' k' ht' hg
    exact ⟨this.1, fun h => this.2 ((kid_sorted hg hk).2 h)⟩
theorem acrossL_le (b : Bx) : ∀ (r : List (Int × Int)) (c m : Int), c ≤ m → (∀ s, s ∈ r → crossOf b s ≤ m) → acrossL b c r ≤ m
  | [], _, _, h, _ => h
  | s :: r, c, m, h, hs => acrossL_le b r (max c (crossOf b s)) m (by have := hs s List.mem_cons_self; omega) (fun t ht => hs t (List.mem_cons_of_mem _ ht))
/-- a box that is no row is as wide as its widest box and its pads -/
theorem nat_widest {l : List Bx} (hv : Valid l) {i k : Nat} (hi : i < l.length) (hk2 : ¬ (bx l i).kind = 2) (hk : k ∈ kid l (i : Int)) (hall : ∀ k', k' ∈ kid l (i : Int) → (natS l k').1 ≤ (natS l k).1) :
    (natS l i).1 = (natS l k).1 + 2 * (bx l i).pad := by
  have hk0 : ¬ (bx l i).kind = 0 := fun h0 => by
    rw [(hv.kids i hi).2 h0] at hk
    cases hk
  have h1 := (nat_kid hv hi hk).1
  have hp := natS_pos hv (mem_kid.1 hk).1
  have h2 : (natS l i).1 ≤ (natS l k).1 + 2 * (bx l i).pad := by
    rw [natS_box hv hi hk0, if_neg hk2]
    dsimp only
    have := acrossL_le (bx l i) (kidS l i) 0 (natS l k).1 hp.1 (fun s hs => by
      unfold kidS at hs
      obtain ⟨k', hk', rfl⟩ := List.mem_map.1 hs
      unfold crossOf
      rw [if_neg hk2]
      exact hall k' hk')
    omega
  omega
/-! ### one tree in another one -/
structure Emb (s b : List Bx) (f : Nat → Nat) : Prop where
  mono : ∀ i j, i < j → f i < f j
  range : ∀ i, i < s.length → f i < b.length
  pr : ∀ i, i < s.length → (par s i < 0 ∧ par b (f i) < 0) ∨ (0 ≤ par s i ∧ par b (f i) = (f (par s i).toNat : Nat))
theorem emb_inj {s b : List Bx} {f : Nat → Nat} (h : Emb s b f) {i j : Nat} (e : f i = f j) : i = j := by
  rcases Nat.lt_trichotomy i j with h1 | h1 | h1
  · have := h.mono i j h1; omega
  · exact h1
  · have := h.mono j i h1; omega
theorem emb_le {s b : List Bx} {f : Nat → Nat} (h : Emb s b f) {i j : Nat} : f i ≤ f j ↔ i ≤ j := by
  rcases Nat.lt_trichotomy i j with h1 | h1 | h1
  · have := h.mono i j h1; omega
  · subst h1; omega
  · have := h.mono j i h1; omega
theorem emb_anc {s b : List Bx} {f : Nat → Nat} (h : Emb s b f) (hs : ∀ k, k < s.length → par s k < k) (hb : ∀ k, k < b.length → par b k < k) : ∀ (i : Nat), i < s.length → anc b (f i) = (anc s i).map f := by
  intro i
  induction i using Nat.strongRecOn with
  | _ i ih =>
    intro hi
    have hr := h.range i hi
    have hds : Down s i := fun k hk => hs k (by omega)
    have hdb : Down b (f i) := fun k hk => hb k (by omega)
    rcases h.pr i hi with ⟨h1, h2⟩ | ⟨h1, h2⟩
    · rw [anc_root hds h1, anc_root hdb h2]; rfl
    · have h3 := hs i hi
      obtain ⟨p, hp⟩ := Int.eq_ofNat_of_zero_le h1
      rw [hp, Int.toNat_natCast] at h2
      rw [anc_up hds hp, anc_up hdb h2, ih p (by omega) (by omega)]
      rfl
theorem emb_ancMem {s b : List Bx} {f : Nat → Nat} (h : Emb s b f) (hs : ∀ k, k < s.length → par s k < k) (hb : ∀ k, k < b.length → par b k < k) {i j : Nat} (hi : i < s.length) : f j ∈ anc b (f i) ↔ j ∈ anc s i := by
  rw [emb_anc h hs hb i hi, List.mem_map]
  constructor
  · rintro ⟨x, hx, e⟩
    rw [← emb_inj h e]
    exact hx
  · exact fun hj => ⟨j, hj, rfl⟩
theorem emb_arB {s b : List Bx} {f : Nat → Nat} (h : Emb s b f) (hs : ∀ k, k < s.length → par s k < k) (hb : ∀ k, k < b.length → par b k < k) {i j : Nat} (hi : i < s.length) : arB b (f j) (f i) = arB s j i := by
  unfold arB
  rw [decide_eq_decide]
  exact emb_ancMem h hs hb hi
theorem emb_kid {s b : List Bx} {f : Nat → Nat} (h : Emb s b f) {j k : Nat} : k ∈ kid s (j : Int) ↔ k < s.length ∧ f k ∈ kid b (f j : Int) := by
  rw [mem_kid, mem_kid]
  constructor
  · rintro ⟨h1, h2⟩
    refine ⟨h1, h.range k h1, ?_⟩
    rcases h.pr k h1 with ⟨h3, h4⟩ | ⟨h3, h4⟩
    · omega
    · rw [h4, h2, Int.toNat_natCast]
  · rintro ⟨h1, h2, h3⟩
    refine ⟨h1, ?_⟩
    rcases h.pr k h1 with ⟨h4, h5⟩ | ⟨h4, h5⟩
    · omega
    · rw [h5] at h3
      have := emb_inj h (i := (par s k).toNat) (j := j) (by omega)
      omega
theorem kid_pairwise (l : List Bx) (i : Int) : (kid l i).Pairwise (· < ·) := List.Pairwise.filter _ List.pairwise_lt_range
/-- two ascending lists with the same members are the same -/
theorem sorted_ext : ∀ (a b : List Nat), a.Pairwise (· < ·) → b.Pairwise (· < ·) → (∀ x, x ∈ a ↔ x ∈ b) → a = b
  | [], [], _, _, _ => rfl
  | [], y :: b, _, _, h => by have := (h y).2 List.mem_cons_self; cases this
  | x :: a, [], _, _, h => by have := (h x).1 List.mem_cons_self; cases this
  | x :: a, y :: b, ha, hb, h => by
    have ha' := List.pairwise_cons.1 ha
    have hb' := List.pairwise_cons.1 hb
    have e : x = y := by
      rcases List.mem_cons.1 ((h x).1 List.mem_cons_self) with h1 | h1
      · exact h1
      · rcases List.mem_cons.1 ((h y).2 List.mem_cons_self) with h2 | h2
        · exact h2.symm
        · have := hb'.1 x h1
          have := ha'.1 y h2
          omega
    subst e
    rw [sorted_ext a b ha'.2 hb'.2 fun z => ?_]
    constructor
    · intro hz
      rcases List.mem_cons.1 ((h z).1 (List.mem_cons_of_mem _ hz)) with h1 | h1
      · have := ha'.1 z hz
        omega
      · exact h1
    · intro hz
      rcases List.mem_cons.1 ((h z).2 (List.mem_cons_of_mem _ hz)) with h1 | h1
      · have := hb'.1 z hz
        omega
      · exact h1
theorem emb_kidMap {s b : List Bx} {f : Nat → Nat} (h : Emb s b f) (j : Nat) : ((kid s (j : Int)).map f).Sublist (kid b (f j : Int)) := by
  have e : (kid s (j : Int)).map f = (kid b (f j : Int)).filter fun k => decide (∃ i, i < s.length ∧ f i = k) := by
    apply sorted_ext
    · rw [List.pairwise_map]
      exact (kid_pairwise s j).imp fun hx => h.mono _ _ hx
    · exact (kid_pairwise b _).filter _
    · intro x
      rw [List.mem_map, List.mem_filter]
      constructor
      · rintro ⟨k, hk, rfl⟩
        have := (emb_kid h).1 hk
        exact ⟨this.2, by simpa using ⟨k, this.1, rfl⟩⟩
      · rintro ⟨hx, hi⟩
        simp only [decide_eq_true_eq] at hi
        obtain ⟨i, hi, rfl⟩ := hi
        exact ⟨i, (emb_kid h).2 ⟨hi, hx⟩, rfl⟩
  rw [e]
  exact List.filter_sublist
theorem cntS_unique {l : List Bx} (hv : Valid l) {a c : Nat} (ha : a < l.length) (hc : a + c ≤ l.length) (h : ∀ i, i < l.length → (arB l a i = true ↔ a ≤ i ∧ i < a + c)) : cntS l a = c := by
  have hle := cntS_le l a
  rcases Nat.lt_trichotomy (cntS l a) c with h1 | h1 | h1
  · have h2 := (h (a + cntS l a) (by omega)).2 ⟨by omega, by omega⟩
    have h3 := (arB_iff hv (a := a) (i := a + cntS l a) (by omega)).1 h2
    omega
  · exact h1
  · have h2 := (arB_iff hv (a := a) (i := a + c) (by omega)).2 ⟨by omega, by omega⟩
    have h3 := (h (a + c) (by omega)).1 h2
    omega
/-- a part of a valid tree that is numbered anew is valid -/
theorem emb_valid {s b : List Bx} {f : Nat → Nat} (h : Emb s b f) (hv : Valid b) (hs : ∀ k, k < s.length → par s k < k) (h1 : 1 ≤ s.length) (h2 : s.length ≤ b.length) (hr : par s 0 = -1)
    (hp : ∀ i, 0 < i → i < s.length → 0 ≤ par s i) (hsty : ∀ i, i < s.length → ∃ p, bx s i = (bx b (f i)).at p) : Valid s := by
  have hb : ∀ k, k < b.length → par b k < k := fun k hk => hv.down hk k (Nat.le_refl _)
  have hhi := hv.hi
  refine ⟨h1, by omega, hr, ?_, ?_, ?_, ?_⟩
  · intro i hi
    obtain ⟨p, e⟩ := hsty i hi
    rw [e]
    exact hv.ok (f i) (h.range i hi)
  · intro i h0 hi
    have e1 := hp i h0 hi
    have e2 := hs i hi
    refine ⟨e1, e2, ?_⟩
    rcases h.pr i hi with ⟨h3, h4⟩ | ⟨h3, h4⟩
    · omega
    · have hm := h.mono (i - 1) i (by omega)
      have hfi := h.range i hi
      have h5 := (hv.par (f i) (by omega) hfi).2.2
      rw [h4, Int.toNat_natCast] at h5
      have h6 := emb_le h (i := (par s i).toNat) (j := i - 1)
      obtain ⟨d, hd⟩ : ∃ d, f i - 1 = f (i - 1) + d := ⟨f i - 1 - f (i - 1), by omega⟩
      rw [hd] at h5
      have h7 := between hv d (f (i - 1)) (by omega) (by omega) h5
      exact (emb_ancMem h hs hb (by omega)).1 h7
  · intro i hi
    have := hv.depth (f i) (h.range i hi)
    rw [emb_anc h hs hb i hi, List.length_map] at this
    exact this
  · intro i hi
    have h3 := hv.kids (f i) (h.range i hi)
    have h4 := emb_kidMap h i
    refine ⟨?_, fun hk => ?_⟩
    · have := h4.length_le
      rw [List.length_map] at this
      omega
    · obtain ⟨p, e⟩ := hsty i hi
      rw [e] at hk
      rw [h3.2 hk] at h4
      exact List.map_eq_nil_iff.1 (List.sublist_nil.1 h4)
/-! ### a box that is removed -/
def drp (a n : Nat) (y : Bx) : Bx := y.at (y.parent - (if (a : Int) ≤ y.parent then (n : Int) else 0))
def remL (l : List Bx) (a : Nat) : List Bx := l.take a ++ (l.drop (a + cntS l a)).map (drp a (cntS l a))
def remF (l : List Bx) (a i : Nat) : Nat := if i < a then i else i + cntS l a
theorem remL_length {l : List Bx} {a : Nat} (ha : a < l.length) : (remL l a).length + cntS l a = l.length := by
  have := cntS_le l a
  unfold remL
  simp only [List.length_append, List.length_take, List.length_map, List.length_drop]
  omega
theorem remL_bx {l : List Bx} {a i : Nat} (ha : a < l.length) (hi : i < (remL l a).length) : bx (remL l a) i = if i < a then bx l i else drp a (cntS l a) (bx l (i + cntS l a)) := by
  have hl := remL_length ha
  have hle := cntS_le l a
  apply bx_of
  unfold remL
  by_cases h : i < a
  · rw [if_pos h, List.getElem?_append_left (by rw [List.length_take]; omega), List.getElem?_take, if_pos h, bx_get (by omega)]
  · rw [if_neg h, List.getElem?_append_right (by rw [List.length_take]; omega), List.length_take, Nat.min_eq_left (by omega), List.getElem?_map, List.getElem?_drop,
      show a + cntS l a + (i - a) = i + cntS l a from by omega, bx_get (by omega)]
    rfl
theorem rem_sty {l : List Bx} {a i : Nat} (ha : a < l.length) (hi : i < (remL l a).length) : ∃ p, bx (remL l a) i = (bx l (remF l a i)).at p := by
  rw [remL_bx ha hi]
  unfold remF
  split
  · exact ⟨(bx l i).parent, rfl⟩
  · exact ⟨_, rfl⟩
theorem rem_par {l : List Bx} (hv : Valid l) {a i : Nat} (ha : a < l.length) (h0 : 0 < a) (hi : i < (remL l a).length) :
    (par (remL l a) i < 0 ∧ par l (remF l a i) < 0) ∨ (0 ≤ par (remL l a) i ∧ par l (remF l a i) = (remF l a (par (remL l a) i).toNat : Nat)) := by
  have hl := remL_length ha
  have hle := cntS_le l a
  have e := remL_bx ha hi
  unfold remF
  by_cases h : i < a
  · rw [if_pos h] at e
    have e2 : par (remL l a) i = par l i := by unfold par; rw [e]
    rw [if_pos h, e2]
    have := hv.down (i := i) (by omega) i (Nat.le_refl _)
    by_cases hp : 0 ≤ par l i
    · right
      refine ⟨hp, ?_⟩
      rw [if_pos (by omega)]
      omega
    · left; omega
  · rw [if_neg h] at e
    have e2 : par (remL l a) i = par l (i + cntS l a) - (if (a : Int) ≤ par l (i + cntS l a) then (cntS l a : Int) else 0) := by
      unfold par; rw [e]; rfl
    rw [if_neg h, e2]
    have hin : i + cntS l a < l.length := by omega
    have hp := hv.par (i + cntS l a) (by omega) hin
    have hno : ¬ (a ≤ (par l (i + cntS l a)).toNat ∧ (par l (i + cntS l a)).toNat < a + cntS l a) := fun hh => by
      have h1 := (arB_iff hv (a := a) (i := (par l (i + cntS l a)).toNat) (by omega)).2 hh
      have h2 : a ∈ anc l (i + cntS l a) := anc_step (hv.down hin) hp.1 (by simpa [arB] using h1)
      have h3 := (arB_iff hv (a := a) hin).1 (by simpa [arB] using h2)
      omega
    right
    by_cases hap : (a : Int) ≤ par l (i + cntS l a)
    · rw [if_pos hap]
      refine ⟨by omega, ?_⟩
      rw [if_neg (by omega)]
      omega
    · rw [if_neg hap]
      refine ⟨by omega, ?_⟩
      rw [if_pos (by omega)]
      omega
theorem rem_emb {l : List Bx} (hv : Valid l) {a : Nat} (ha : a < l.length) (h0 : 0 < a) : Emb (remL l a) l (remF l a) := by
  have hl := remL_length ha
  refine ⟨fun i j h => ?_, fun i hi => ?_, fun i hi => rem_par hv ha h0 hi⟩
  · unfold remF
    split <;> split <;> omega
  · unfold remF
    split <;> omega
theorem rem_down {l : List Bx} (hv : Valid l) {a : Nat} (ha : a < l.length) (h0 : 0 < a) : ∀ k, k < (remL l a).length → par (remL l a) k < k := fun k hk => by
  have hE := rem_emb hv ha h0
  have h1 := hv.down (hE.range k hk) _ (Nat.le_refl _)
  rcases hE.pr k hk with ⟨h2, h3⟩ | ⟨h2, h3⟩
  · omega
  · have h4 := emb_le hE (i := k) (j := (par (remL l a) k).toNat)
    omega
theorem rem_parPos {l : List Bx} (hv : Valid l) {a : Nat} (ha : a < l.length) (h0 : 0 < a) {i : Nat} (hi0 : 0 < i) (hi : i < (remL l a).length) : 0 ≤ par (remL l a) i := by
  have hE := rem_emb hv ha h0
  have hf : 0 < remF l a i := by unfold remF; split <;> omega
  have h1 := (hv.par _ hf (hE.range i hi)).1
  rcases hE.pr i hi with ⟨h2, h3⟩ | ⟨h2, h3⟩
  · omega
  · exact h2
theorem rem_valid {l : List Bx} (hv : Valid l) {a : Nat} (ha : a < l.length) (h0 : 0 < a) : Valid (remL l a) := by
  have hl := remL_length ha
  have hc := cntS_pos hv ha
  have hle := cntS_le l a
  refine emb_valid (rem_emb hv ha h0) hv (rem_down hv ha h0) (by omega) (by omega) ?_ (fun i hi0 hi => rem_parPos hv ha h0 hi0 hi) (fun i hi => rem_sty ha hi)
  have := remL_bx ha (i := 0) (by omega)
  rw [if_pos h0] at this
  unfold par
  rw [this]
  exact hv.root
theorem rem_arB {l : List Bx} (hv : Valid l) {a : Nat} (ha : a < l.length) (h0 : 0 < a) {i j : Nat} (hi : i < (remL l a).length) : arB (remL l a) j i = arB l (remF l a j) (remF l a i) := by
  unfold arB
  rw [decide_eq_decide]
  exact (emb_ancMem (rem_emb hv ha h0) (rem_down hv ha h0) (fun k hk => hv.down hk k (Nat.le_refl _)) hi).symm
/-- a box behind a removed one that is not in a box with it: its number and its boxes -/
theorem rem_cnt {l : List Bx} (hv : Valid l) {a b : Nat} (ha : a < l.length) (h0 : 0 < a) (hb : b < (remL l a).length) (hdis : a + cntS l a ≤ remF l a b ∨ remF l a b + cntS l (remF l a b) ≤ a) : cntS (remL l a) b = cntS l (remF l a b) := by
  have hl := remL_length ha
  have hle := cntS_le l a
  have hc := cntS_pos hv ha
  have hE := rem_emb hv ha h0
  have hr := hE.range b hb
  have hle2 := cntS_le l (remF l a b)
  apply cntS_unique (rem_valid hv ha h0) hb
  · unfold remF at hr hle2 hdis ⊢
    split <;> (rename_i h; (first | rw [if_pos h] at hr hle2 hdis | rw [if_neg h] at hr hle2 hdis); omega)
  · intro i hi
    rw [rem_arB hv ha h0 hi, arB_iff hv (hE.range i hi)]
    have hri := hE.range i hi
    unfold remF at hr hle2 hdis hri ⊢
    split <;> split <;> simp only [*, if_true, if_false] at hr hle2 hdis hri <;> omega
/-- of two boxes side by side, the order of removing does not matter -/
theorem rem_rem {l : List Bx} (hv : Valid l) {a b : Nat} (h0 : 0 < a) (hab : a + cntS l a ≤ b) (hb : b < l.length) :
    remL (remL l a) (b - cntS l a) = remL (remL l b) a := by
  have ha : a < l.length := by omega
  have hla := remL_length ha
  have hlb := remL_length hb
  have hca := cntS_pos hv ha
  have hcb := cntS_pos hv hb
  have hlea := cntS_le l a
  have hleb := cntS_le l b
  have f1 : remF l a (b - cntS l a) = b := by unfold remF; rw [if_neg (by omega)]; omega
  have c1 : cntS (remL l a) (b - cntS l a) = cntS l b := by
    have := rem_cnt hv (a := a) (b := b - cntS l a) ha h0 (by omega) (by rw [f1]; exact .inl hab)
    rw [this, f1]
  have f2 : remF l b a = a := by unfold remF; rw [if_pos (by omega)]
  have c2 : cntS (remL l b) a = cntS l a := by
    have := rem_cnt hv (a := b) (b := a) hb (by omega) (by omega) (by rw [f2]; exact .inr hab)
    rw [this, f2]
  have hl1 := remL_length (l := remL l a) (a := b - cntS l a) (by omega)
  have hl2 := remL_length (l := remL l b) (a := a) (by omega)
  rw [c1] at hl1
  rw [c2] at hl2
  apply List.ext_getElem?
  intro i
  rcases Nat.lt_or_ge i (remL (remL l a) (b - cntS l a)).length with h | h
  · have h' : i < (remL (remL l b) a).length := by omega
    rw [bx_get h, bx_get h', remL_bx (by omega) h, remL_bx (by omega) h', c1, c2]
    congr 1
    by_cases i1 : i < a
    · rw [if_pos (by omega), if_pos i1, remL_bx ha (by omega), remL_bx hb (by omega), if_pos i1, if_pos (by omega)]
    · by_cases i2 : i < b - cntS l a
      · rw [if_pos i2, if_neg i1, remL_bx ha (by omega), remL_bx hb (by omega), if_neg i1, if_pos (by omega)]
      · rw [if_neg i2, if_neg i1, remL_bx ha (by omega), remL_bx hb (by omega), if_neg (by omega), if_neg (by omega),
          show i + cntS l b + cntS l a = i + cntS l a + cntS l b from by omega]
        -- the parent is in no removed box
        have hin : i + cntS l a + cntS l b < l.length := by omega
        have hp := hv.par _ (by omega) hin
        have hno : ∀ c, c < l.length → c + cntS l c ≤ i + cntS l a + cntS l b → ¬ (c ≤ (par l (i + cntS l a + cntS l b)).toNat ∧ (par l (i + cntS l a + cntS l b)).toNat < c + cntS l c) := fun c hc hcl hh => by
          have h1 := (arB_iff hv (a := c) (i := (par l (i + cntS l a + cntS l b)).toNat) (by omega)).2 hh
          have h2 : c ∈ anc l (i + cntS l a + cntS l b) := anc_step (hv.down hin) hp.1 (by simpa [arB] using h1)
          have h3 := (arB_iff hv (a := c) hin).1 (by simpa [arB] using h2)
          omega
        have n1 := hno a ha (by omega)
        have n2 := hno b hb (by omega)
        have hpp : (bx l (i + cntS l a + cntS l b)).parent = par l (i + cntS l a + cntS l b) := rfl
        unfold drp Bx.at
        dsimp only
        congr 1
        rw [hpp]
        generalize par l (i + cntS l a + cntS l b) = p at *
        by_cases q1 : (a : Int) ≤ p
        · by_cases q2 : (b : Int) ≤ p
          · rw [if_pos q1, if_pos q2, if_pos (by omega), if_pos (by omega)]
            omega
          · rw [if_pos q1, if_neg q2, if_neg (by omega), if_pos (by omega)]
            omega
        · rw [if_neg q1, if_neg (by omega), if_neg (by omega), if_neg (by omega)]
  · rw [List.getElem?_eq_none h, List.getElem?_eq_none (by omega)]
/-! ### a box more -/
def addF (e i : Nat) : Nat := if i < e then i else i + 1
theorem addL_length {l : List Bx} {a : Nat} (_ha : a < l.length) (x : Bx) : (addL l a x).length = l.length + 1 := by
  have := cntS_le l a
  unfold addL
  simp only [List.length_append, List.length_take, List.length_singleton, List.length_map, List.length_drop]
  omega
theorem addL_lo {l : List Bx} {a i : Nat} {x : Bx} (ha : a < l.length) (hi : i < a + cntS l a) : bx (addL l a x) i = bx l i := by
  have hle := cntS_le l a
  apply bx_of
  unfold addL
  rw [List.append_assoc, List.getElem?_append_left (by rw [List.length_take]; omega), List.getElem?_take, if_pos hi, bx_get (by omega)]
theorem addL_new {l : List Bx} {a : Nat} {x : Bx} (ha : a < l.length) : bx (addL l a x) (a + cntS l a) = x.at a := by
  have hle := cntS_le l a
  apply bx_of
  unfold addL
  rw [List.append_assoc, List.getElem?_append_right (by rw [List.length_take]; omega), List.length_take, Nat.min_eq_left (by omega)]
  simp
theorem addL_hi {l : List Bx} {a i : Nat} {x : Bx} (_ha : a < l.length) (h1 : a + cntS l a ≤ i) (hi : i < l.length) : bx (addL l a x) (i + 1) = bump (a + cntS l a) (bx l i) := by
  have hle := cntS_le l a
  apply bx_of
  unfold addL
  rw [List.getElem?_append_right (by simp only [List.length_append, List.length_take, List.length_singleton]; omega)]
  simp only [List.length_append, List.length_take, List.length_singleton]
  rw [Nat.min_eq_left (by omega), List.getElem?_map, List.getElem?_drop, show a + cntS l a + (i + 1 - (a + cntS l a + 1)) = i from by omega, bx_get hi]
  rfl
theorem add_sty {l : List Bx} {a i : Nat} {x : Bx} (ha : a < l.length) (hi : i < l.length) : bx (addL l a x) (addF (a + cntS l a) i) = (bx l i).at (par (addL l a x) (addF (a + cntS l a) i)) := by
  unfold addF par
  by_cases h : i < a + cntS l a
  · rw [if_pos h, addL_lo ha h]
    rfl
  · rw [if_neg h, addL_hi ha (by omega) hi]
    rfl
theorem add_par {l : List Bx} (hv : Valid l) {a i : Nat} {x : Bx} (ha : a < l.length) (hi : i < l.length) :
    (par l i < 0 ∧ par (addL l a x) (addF (a + cntS l a) i) < 0) ∨ (0 ≤ par l i ∧ par (addL l a x) (addF (a + cntS l a) i) = (addF (a + cntS l a) (par l i).toNat : Nat)) := by
  have hd := hv.down hi i (Nat.le_refl _)
  by_cases h : i < a + cntS l a
  · have e : par (addL l a x) i = par l i := by unfold par; rw [addL_lo ha h]
    unfold addF
    rw [if_pos h, e]
    by_cases hp : 0 ≤ par l i
    · right
      rw [if_pos (by omega)]
      exact ⟨hp, by omega⟩
    · left; omega
  · have e : par (addL l a x) (i + 1) = par l i + (if ((a + cntS l a : Nat) : Int) ≤ par l i then 1 else 0) := by
      show (bx (addL l a x) (i + 1)).parent = _
      rw [addL_hi ha (by omega) hi]
      rfl
    have hp := (hv.par i (by have := cntS_pos hv ha; omega) hi).1
    unfold addF
    rw [if_neg h, e]
    right
    refine ⟨hp, ?_⟩
    by_cases h2 : ((a + cntS l a : Nat) : Int) ≤ par l i
    · rw [if_pos h2, if_neg (by omega)]; omega
    · rw [if_neg h2, if_pos (by omega)]; omega
theorem add_emb {l : List Bx} (hv : Valid l) {a : Nat} (ha : a < l.length) (x : Bx) : Emb l (addL l a x) (addF (a + cntS l a)) := by
  refine ⟨fun i j h => ?_, fun i hi => ?_, fun i hi => add_par hv ha hi⟩
  · unfold addF
    split <;> split <;> omega
  · rw [addL_length ha]
    unfold addF
    split <;> omega
theorem add_newPar {l : List Bx} {a : Nat} {x : Bx} (ha : a < l.length) : par (addL l a x) (a + cntS l a) = a := by
  unfold par
  rw [addL_new ha]
  rfl
/-- every box of the larger tree is the new one or one of the old ones -/
theorem add_cases {l : List Bx} {a i : Nat} {x : Bx} (ha : a < l.length) (hi : i < (addL l a x).length) : i = a + cntS l a ∨ ∃ j, j < l.length ∧ i = addF (a + cntS l a) j := by
  have hle := cntS_le l a
  rw [addL_length ha] at hi
  unfold addF
  rcases Nat.lt_trichotomy i (a + cntS l a) with h | h | h
  · exact .inr ⟨i, by omega, by rw [if_pos h]⟩
  · exact .inl h
  · exact .inr ⟨i - 1, by omega, by rw [if_neg (by omega)]; omega⟩
theorem addF_lo {e i : Nat} (h : i < e) : addF e i = i := if_pos h
theorem add_lt {l : List Bx} (hv : Valid l) {a : Nat} {x : Bx} (ha : a < l.length) : ∀ k, k < (addL l a x).length → par (addL l a x) k < k := fun k hk => by
  have hc := cntS_pos hv ha
  rcases add_cases ha hk with rfl | ⟨j, hj, rfl⟩
  · rw [add_newPar ha]; omega
  · have hE := add_emb hv ha x
    rcases hE.pr j hj with ⟨h1, h2⟩ | ⟨h1, h2⟩
    · omega
    · have h3 := hv.down hj j (Nat.le_refl _)
      have h4 := hE.mono (par l j).toNat j (by omega)
      omega
/-- nothing is in the new box -/
theorem add_kidNew {l : List Bx} (hv : Valid l) {a k : Nat} {x : Bx} (ha : a < l.length) (hk : k < (addL l a x).length) : par (addL l a x) k ≠ ((a + cntS l a : Nat) : Int) := by
  have hc := cntS_pos hv ha
  rcases add_cases ha hk with rfl | ⟨j, hj, rfl⟩
  · rw [add_newPar ha]; omega
  · rcases add_par hv (x := x) ha hj with ⟨h1, h2⟩ | ⟨h1, h2⟩
    · omega
    · rw [h2]
      unfold addF
      split <;> omega
theorem add_kid {l : List Bx} (hv : Valid l) {a j : Nat} {x : Bx} (ha : a < l.length) (hj : j < l.length) :
    kid (addL l a x) (addF (a + cntS l a) j : Nat) = (kid l (j : Int)).map (addF (a + cntS l a)) ++ (if j = a then [a + cntS l a] else []) := by
  have hE := add_emb hv ha x
  have hc := cntS_pos hv ha
  apply sorted_ext
  · exact kid_pairwise _ _
  · rw [List.pairwise_append]
    refine ⟨?_, ?_, ?_⟩
    · rw [List.pairwise_map]
      exact (kid_pairwise l j).imp fun hx => hE.mono _ _ hx
    · split
      · exact List.pairwise_singleton _ _
      · exact List.Pairwise.nil
    · intro u hu y hy
      split at hy
      · rename_i hja
        subst hja
        rw [List.mem_singleton] at hy
        subst hy
        obtain ⟨k, hk, rfl⟩ := List.mem_map.1 hu
        have hm := mem_kid.1 hk
        have := kid_in hv (a := j) (j := 0) (k := k) (by omega) hm.1 (by simpa using hm.2)
        rw [addF_lo this.2]
        exact this.2
      · cases hy
  · intro u
    rw [List.mem_append, List.mem_map]
    constructor
    · intro hu
      have hm := mem_kid.1 hu
      rcases add_cases ha hm.1 with rfl | ⟨i, hi, rfl⟩
      · right
        have h2 := hm.2
        rw [add_newPar ha] at h2
        have : j = a := by
          unfold addF at h2
          split at h2 <;> omega
        rw [if_pos this]
        exact List.mem_singleton.2 rfl
      · left
        exact ⟨i, (emb_kid hE).2 ⟨hi, hu⟩, rfl⟩
    · rintro (⟨k, hk, rfl⟩ | hu)
      · exact ((emb_kid hE).1 hk).2
      · split at hu
        · rename_i hja
          subst hja
          rw [List.mem_singleton] at hu
          subst hu
          rw [mem_kid, addL_length ha, add_newPar ha]
          have hle := cntS_le l j
          refine ⟨by omega, ?_⟩
          rw [addF_lo (by omega)]
        · cases hu
theorem add_kidA {l : List Bx} (hv : Valid l) {a : Nat} {x : Bx} (ha : a < l.length) : kid (addL l a x) (a : Int) = kid l (a : Int) ++ [a + cntS l a] := by
  have hc := cntS_pos hv ha
  have h := add_kid hv (x := x) ha ha
  rw [addF_lo (by omega), if_pos rfl] at h
  rw [h]
  congr 1
  conv => rhs; rw [← List.map_id (kid l (a : Int))]
  apply List.map_congr_left
  intro k hk
  have hm := mem_kid.1 hk
  have := kid_in hv (a := a) (j := 0) (k := k) (by omega) hm.1 (by simpa using hm.2)
  exact addF_lo this.2
theorem add_cntNew {l : List Bx} (hv : Valid l) {a : Nat} {x : Bx} (ha : a < l.length) (hm : Valid (addL l a x)) : cntS (addL l a x) (a + cntS l a) = 1 := by
  have hle := cntS_le l a
  have hlen := addL_length ha x
  apply cntS_unique hm (by omega) (by omega)
  intro i hi
  constructor
  · intro h
    have hmem : a + cntS l a ∈ anc (addL l a x) i := by simpa [arB] using h
    by_cases he : a + cntS l a = i
    · omega
    · exfalso
      -- then some box is directly in the new one
      have key : ∀ (i : Nat), i < (addL l a x).length → a + cntS l a ∈ anc (addL l a x) i → a + cntS l a = i := by
        intro i
        induction i using Nat.strongRecOn with
        | _ i ih =>
          intro hi hmem
          by_cases he : a + cntS l a = i
          · exact he
          · have h1 := anc_par (hm.down hi) hmem he
            have h2 := hm.down hi i (Nat.le_refl _)
            have h3 := ih (par (addL l a x) i).toNat (by omega) (by omega) h1.2
            exact absurd (show par (addL l a x) i = ((a + cntS l a : Nat) : Int) by omega) (add_kidNew hv ha hi)
      exact he (key i hi hmem)
  · rintro ⟨h1, h2⟩
    obtain rfl : i = a + cntS l a := by omega
    exact arB_self (hm.down hi)
theorem add_rem {l : List Bx} (hv : Valid l) {a : Nat} {x : Bx} (ha : a < l.length) (hm : Valid (addL l a x)) : remL (addL l a x) (a + cntS l a) = l := by
  have hle := cntS_le l a
  have hc := cntS_pos hv ha
  have hlen := addL_length ha x
  have h1 := remL_length (l := addL l a x) (a := a + cntS l a) (by omega)
  rw [add_cntNew hv ha hm] at h1
  apply List.ext_getElem?
  intro i
  rcases Nat.lt_or_ge i l.length with h | h
  · rw [bx_get h, bx_get (by omega), remL_bx (by omega) (by omega), add_cntNew hv ha hm]
    congr 1
    by_cases h2 : i < a + cntS l a
    · rw [if_pos h2, addL_lo ha h2]
    · rw [if_neg h2, addL_hi ha (by omega) h]
      have h3 : (bx l i).at ((bx l i).parent) = bx l i := rfl
      refine Eq.trans ?_ h3
      unfold drp bump Bx.at
      dsimp only
      congr 1
      split <;> split <;> omega
  · rw [List.getElem?_eq_none h, List.getElem?_eq_none (by omega)]
/-- a box that the new one is in has one more -/
theorem add_cnt {l : List Bx} (hv : Valid l) {a p : Nat} {x : Bx} (ha : a < l.length) (hm : Valid (addL l a x)) (hp : p ∈ anc l a) : cntS (addL l a x) p = cntS l p + 1 := by
  have hle := cntS_le l a
  have hc := cntS_pos hv ha
  have hlen := addL_length ha x
  have hpa := anc_le _ (hv.down ha) _ hp
  have hlep := cntS_le l p
  have hE := add_emb hv ha x
  have hpi := (arB_iff hv (a := p) ha).1 (by simpa [arB] using hp)
  -- the end of a lies within p
  have hin : a + cntS l a ≤ p + cntS l p := by
    have h1 := cntS_in (l := l) (a := a) (i := a + cntS l a - 1) (by omega) (by omega)
    have h2 := anc_trans (a := p) (b := a) (a + cntS l a - 1) (hv.down (by omega)) (by simpa [arB] using h1) hp
    have h3 := (arB_iff hv (a := p) (i := a + cntS l a - 1) (by omega)).1 (by simpa [arB] using h2)
    omega
  apply cntS_unique hm (by omega) (by omega)
  intro i hi
  have hfp : addF (a + cntS l a) p = p := addF_lo (by omega)
  rcases add_cases ha hi with rfl | ⟨j, hj, rfl⟩
  · constructor
    · intro _; omega
    · intro _
      have h1 : a ∈ anc (addL l a x) (a + cntS l a) := anc_step (hm.down hi) (by rw [add_newPar ha]; omega) (by
        rw [add_newPar ha, Int.toNat_natCast]
        exact anc_self (hm.down (by omega)))
      have h2 : p ∈ anc (addL l a x) a := by
        have := (emb_ancMem hE (fun k hk => hv.down hk k (Nat.le_refl _)) (add_lt hv ha) (i := a) (j := p) ha).2 hp
        rw [hfp, addF_lo (by omega)] at this
        exact this
      have := anc_trans _ (hm.down hi) h1 h2
      simpa [arB] using this
  · have h1 : arB (addL l a x) p (addF (a + cntS l a) j) = arB l p j := by
      unfold arB
      rw [decide_eq_decide]
      have := emb_ancMem hE (fun k hk => hv.down hk k (Nat.le_refl _)) (add_lt hv ha) (i := j) (j := p) hj
      rw [hfp] at this
      exact this
    rw [h1, arB_iff hv hj]
    unfold addF
    split <;> omega
theorem add_path {l : List Bx} (hv : Valid l) {a : Nat} {x : Bx} (ha : a < l.length) : anc (addL l a x) a = anc l a := by
  have hc := cntS_pos hv ha
  have h := emb_anc (add_emb hv ha x) (fun k hk => hv.down hk k (Nat.le_refl _)) (add_lt hv ha) a ha
  rw [addF_lo (by omega)] at h
  rw [h]
  conv => rhs; rw [← List.map_id (anc l a)]
  apply List.map_congr_left
  intro k hk
  have := anc_le _ (hv.down ha) _ hk
  exact addF_lo (by omega)
/-- leaves have no boxes -/
theorem add_room {l : List Bx} (hv : Valid l) {a : Nat} {x : Bx} (ha : a < l.length) (hm : Valid (addL l a x)) : ¬ (bx l a).kind = 0 ∧ (kid l (a : Int)).length < 8 ∧ (anc l a).length - 1 < 5 := by
  have hle := cntS_le l a
  have hc := cntS_pos hv ha
  have hlen := addL_length ha x
  have h1 := hm.kids a (by omega)
  rw [add_kidA hv ha, addL_lo ha (by omega)] at h1
  refine ⟨fun h => ?_, ?_, ?_⟩
  · have := h1.2 h
    simp at this
  · have := h1.1
    simp at this
    omega
  · have h2 := hm.depth (a + cntS l a) (by omega)
    rw [anc_up (hm.down (by omega)) (add_newPar ha), add_path hv ha, List.length_cons] at h2
    omega
/-! ### sizes do not get smaller -/
def le2 (s t : Int × Int) : Prop := s.1 ≤ t.1 ∧ s.2 ≤ t.2
theorem addK_le (b : Bx) (k : Nat) {p q s t : Int × Int} (h : le2 p q) (h2 : le2 s t) : le2 (addK b k p s) (addK b k q t) := by
  unfold le2 at *
  unfold addK
  split <;> (dsimp only; split <;> omega)
theorem foldK_le (b : Bx) (hb : 0 ≤ b.gap) : ∀ (r r' e : List (Int × Int)) (k : Nat) (p q : Int × Int), le2 p q → r.length = r'.length → (∀ (i : Nat) s t, r[i]? = some s → r'[i]? = some t → le2 s t) → (∀ s, s ∈ e → 0 ≤ s.1 ∧ 0 ≤ s.2) → le2 (foldK b k p r) (foldK b k q (r' ++ e))
  | [], [], e, k, p, q, h, _, _, he => by
    have := foldK_mono b hb e k q he
    unfold le2 at *
    simp only [foldK, List.nil_append]
    omega
  | s :: r, t :: r', e, k, p, q, h, hl, hs, he => by
    rw [List.cons_append, foldK, foldK]
    refine foldK_le b hb r r' e (k + 1) _ _ (addK_le b k h (hs 0 s t rfl rfl)) (by simpa using hl) (fun i s' t' h1 h2 => hs (i + 1) s' t' (by simpa using h1) (by simpa using h2)) he
  | [], t :: r', _, _, _, _, _, hl, _, _ => by simp at hl
  | s :: r, [], _, _, _, _, _, hl, _, _ => by simp at hl
theorem add_nat {l : List Bx} (hv : Valid l) {a : Nat} {x : Bx} (ha : a < l.length) (hm : Valid (addL l a x)) : ∀ (d j : Nat), l.length - j ≤ d → j < l.length → le2 (natS l j) (natS (addL l a x) (addF (a + cntS l a) j))
  | 0, j, h, hj => by omega
  | d + 1, j, h, hj => by
    have hE := add_emb hv ha x
    have hb := okB_bounds (hv.ok j hj)
    rw [natS_eq (fun k hk => hv.down hk k (Nat.le_refl _)) hj, natS_eq (fun k hk => hm.down hk k (Nat.le_refl _)) (hE.range j hj)]
    have hk : kidS (addL l a x) (addF (a + cntS l a) j) = (kid l (j : Int)).map (fun k => natS (addL l a x) (addF (a + cntS l a) k)) ++ (if j = a then [a + cntS l a] else []).map (natS (addL l a x)) := by
      unfold kidS
      rw [add_kid hv ha hj, List.map_append, List.map_map]
      rfl
    have hst := add_sty (x := x) ha hj
    rw [hk, hst]
    have hf : ∀ (r : List (Int × Int)) (k : Nat) (p : Int) (acc : Int × Int), foldK ((bx l j).at p) k acc r = foldK (bx l j) k acc r := by
      intro r
      induction r with
      | nil => intro k p acc; rfl
      | cons s r ih => intro k p acc; rw [foldK, foldK, ih]; rfl
    rw [hf]
    have := foldK_le (bx l j) (by omega) (kidS l j) ((kid l (j : Int)).map (fun k => natS (addL l a x) (addF (a + cntS l a) k))) ((if j = a then [a + cntS l a] else []).map (natS (addL l a x))) 0 ((bx l j).w, (bx l j).h) ((bx l j).w, (bx l j).h) ⟨Int.le_refl _, Int.le_refl _⟩ (by simp [kidS]) (fun i s t h1 h2 => by
      unfold kidS at h1
      rw [List.getElem?_map] at h1 h2
      cases hg : (kid l (j : Int))[i]? with
      | none => rw [hg] at h1; cases h1
      | some k =>
        rw [hg] at h1 h2
        simp at h1 h2
        subst h1 h2
        have hmk := mem_kid.1 (List.mem_of_getElem? hg)
        have := hv.down hmk.1 k (Nat.le_refl _)
        exact add_nat hv ha hm d k (by omega) hmk.1) (fun s hs => by
      obtain ⟨k, hk, rfl⟩ := List.mem_map.1 hs
      split at hk
      · rw [List.mem_singleton] at hk
        subst hk
        have hle := cntS_le l a
        exact natS_pos hm (by rw [addL_length ha]; omega)
      · cases hk)
    unfold le2 at this ⊢
    show _ ∧ _
    dsimp only at this ⊢
    simp only [Bx.at]
    omega
theorem add_nat0 {l : List Bx} (hv : Valid l) {a : Nat} {x : Bx} (ha : a < l.length) (hm : Valid (addL l a x)) : (natS l 0).1 ≤ (natS (addL l a x) 0).1 ∧ (natS l 0).2 ≤ (natS (addL l a x) 0).2 := by
  have hc := cntS_pos hv ha
  have := add_nat hv (x := x) ha hm l.length 0 (by omega) (by omega)
  rw [addF_lo (by omega)] at this
  exact this
end Go.Proofs.Ytbkhbmcoococmaa
namespace Go.Proofs.Ytbkhbmcoococmaa
open Go Go.RowKit
theorem kid_end {l : List Bx} (hv : Valid l) {i k : Nat} (hi : i < l.length) (hk : k ∈ kid l (i : Int)) : i < k ∧ k + cntS l k ≤ i + cntS l i := by
  obtain ⟨h1, h2⟩ := mem_kid_iff.1 hk
  have hin := kid_in hv (a := i) (j := 0) (k := k) (cntS_pos hv hi) h1 (by simpa using h2)
  have hc := cntS_pos hv h1
  have hle := cntS_le l k
  have h3 : k + cntS l k - 1 < l.length := by omega
  have h4 := cntS_in (l := l) (a := k) (i := k + cntS l k - 1) (by omega) (by omega)
  have h5 : i ∈ anc l k := anc_step (hv.down h1) (by omega) (by rw [h2, Int.toNat_natCast]; exact anc_self (hv.down hi))
  have h6 := anc_trans (a := i) (b := k) _ (hv.down h3) (by simpa [arB] using h4) h5
  have h7 := (arB_iff (a := i) hv h3).1 (by simpa [arB] using h6)
  omega
theorem kid_next {l : List Bx} (hv : Valid l) {i j a b : Nat} (ha : (kid l (i : Int))[j]? = some a) (hb : (kid l (i : Int))[j + 1]? = some b) : a + cntS l a ≤ b := by
  have hab := (kid_sorted ha hb).1 (by omega)
  obtain ⟨h1, h2⟩ := mem_kid_iff.1 (List.mem_of_getElem? ha)
  obtain ⟨h3, h4⟩ := mem_kid_iff.1 (List.mem_of_getElem? hb)
  rcases Nat.lt_or_ge b (a + cntS l a) with h | h
  · exfalso
    have h5 := cntS_in (l := l) (a := a) (i := b) (by omega) h
    have h6 := anc_par (hv.down h3) (show a ∈ anc l b by simpa [arB] using h5) (by omega)
    rw [h4, Int.toNat_natCast] at h6
    have hd := hv.down h1 a (Nat.le_refl _)
    have h7 := anc_le i (hv.down (by omega)) a h6.2
    omega
  · exact h
def cw (l : List Bx) (k : Nat) : Int := 250 * (cntS l k : Int)
theorem kids_cw {l : List Bx} (hv : Valid l) {i : Nat} (hi : i < l.length) : ∀ (j k : Nat), (kid l (i : Int))[j]? = some k → isum (((kid l (i : Int)).take j).map (cw l)) + 250 * ((i : Int) + 1) ≤ 250 * (k : Int)
  | 0, k, hk => by
    have := (kid_end hv hi (List.mem_of_getElem? hk)).1
    simp only [List.take_zero, List.map_nil, isum]
    omega
  | j + 1, b, hb => by
    obtain ⟨a, ha⟩ : ∃ a, (kid l (i : Int))[j]? = some a := ⟨_, List.getElem?_eq_getElem (by have := (List.getElem?_eq_some_iff.1 hb).1; omega)⟩
    have ih := kids_cw hv hi j a ha
    have hn := kid_next hv ha hb
    have e : (((kid l (i : Int)).map (cw l)))[j]? = some (cw l a) := by rw [List.getElem?_map, ha]; rfl
    have e2 := isum_take e
    rw [← List.map_take, ← List.map_take] at e2
    rw [e2]
    unfold cw at ih ⊢
    omega
theorem cw_total {l : List Bx} (hv : Valid l) {i : Nat} (hi : i < l.length) : isum ((kid l (i : Int)).map (cw l)) + 250 ≤ 250 * (cntS l i : Int) := by
  have hp := cntS_pos hv hi
  by_cases h0 : (kid l (i : Int)).length = 0
  · rw [List.eq_nil_of_length_eq_zero h0]
    simp only [List.map_nil, isum]
    omega
  · obtain ⟨j, hj⟩ : ∃ j, (kid l (i : Int)).length = j + 1 := ⟨(kid l (i : Int)).length - 1, by omega⟩
    obtain ⟨k, hk⟩ : ∃ k, (kid l (i : Int))[j]? = some k := ⟨_, List.getElem?_eq_getElem (by omega)⟩
    have h1 := kids_cw hv hi j k hk
    have h2 := kid_end hv hi (List.mem_of_getElem? hk)
    have e : (((kid l (i : Int)).map (cw l)))[j]? = some (cw l k) := by rw [List.getElem?_map, hk]; rfl
    have e2 := isum_take e
    rw [← List.map_take, ← List.map_take, ← hj, List.take_length] at e2
    rw [e2]
    unfold cw at *
    omega
theorem foldK_cw {b : Bx} (hg : 0 ≤ b.gap ∧ b.gap ≤ 50) (l : List Bx) : ∀ (ks : List Nat) (k : Nat) (acc : Int × Int), 0 ≤ acc.1 → 0 ≤ acc.2 →
    (∀ q, q ∈ ks → 0 ≤ (natS l q).1 ∧ 0 ≤ (natS l q).2 ∧ (natS l q).1 + 50 ≤ cw l q ∧ (natS l q).2 + 50 ≤ cw l q) →
    (foldK b k acc (ks.map (natS l))).1 ≤ acc.1 + isum (ks.map (cw l)) ∧ (foldK b k acc (ks.map (natS l))).2 ≤ acc.2 + isum (ks.map (cw l))
  | [], k, acc, h1, h2, _ => by simp [foldK, isum]
  | q :: ks, k, acc, h1, h2, h => by
    obtain ⟨q1, q2, q3, q4⟩ := h q List.mem_cons_self
    have hA : 0 ≤ (addK b k acc (natS l q)).1 ∧ 0 ≤ (addK b k acc (natS l q)).2 ∧ (addK b k acc (natS l q)).1 ≤ acc.1 + cw l q ∧ (addK b k acc (natS l q)).2 ≤ acc.2 + cw l q := by
      unfold addK
      split <;> dsimp only <;> split <;> omega
    have ih := foldK_cw hg l ks (k + 1) (addK b k acc (natS l q)) hA.1 hA.2.1 fun p hp => h p (List.mem_cons_of_mem _ hp)
    simp only [List.map_cons, foldK, isum]
    omega
theorem nat_small {l : List Bx} (hv : Valid l) : ∀ (d i : Nat), l.length - i ≤ d → i < l.length → (natS l i).1 + 50 ≤ cw l i ∧ (natS l i).2 + 50 ≤ cw l i
  | 0, i, h, hi => by omega
  | d + 1, i, h, hi => by
    have hb := okB_bounds (hv.ok i hi)
    have hf := foldK_cw (b := bx l i) (by omega) l (kid l (i : Int)) 0 ((bx l i).w, (bx l i).h) (by dsimp only; omega) (by dsimp only; omega) (fun q hq => by
      obtain ⟨h1, h2⟩ := kid_end hv hi hq
      have hql := (mem_kid_iff.1 hq).1
      have := nat_small hv d q (by omega) hql
      have hp := natS_pos hv hql
      omega)
    have ht := cw_total hv hi
    rw [natS_eq (fun k hk => hv.down hk k (Nat.le_refl _)) hi]
    dsimp only at hf ⊢
    unfold kidS
    unfold cw at *
    omega
theorem cw_4000 {l : List Bx} (hv : Valid l) (i : Nat) : cw l i ≤ 4000 := by
  have := cntS_le l i
  have := hv.hi
  unfold cw
  omega
theorem nat_4000 {l : List Bx} (hv : Valid l) {i : Nat} (hi : i < l.length) : 0 ≤ (natS l i).1 ∧ (natS l i).1 ≤ 4000 ∧ 0 ≤ (natS l i).2 ∧ (natS l i).2 ≤ 4000 := by
  have h1 := nat_small hv _ i (Nat.le_refl _) hi
  have h2 := natS_pos hv hi
  have := cw_4000 hv i
  omega
/-! ### where boxes are put -/
def insetR (r : Rc) (e : Int) : Rc := ⟨r.x + min e (r.w / 2), r.y + min e (r.h / 2), max 0 (r.w - 2 * e), max 0 (r.h - 2 * e)⟩
def along (row : Bool) (l : List Bx) (k : Nat) : Int := if row then (natS l k).1 else (natS l k).2
def flxOf (row : Bool) (l : List Bx) (k : Nat) : Flx := ⟨along row l k, 0, 10000, (bx l k).grow, (bx l k).shrink⟩
def flxsOf (row : Bool) (l : List Bx) (p : Nat) : List Flx := (kid l (p : Int)).map (flxOf row l)
def spc (l : List Bx) (p : Nat) (space : Int) : Int := max 0 (space - (bx l p).gap * (((kid l (p : Int)).length : Int) - 1))
def szs (row : Bool) (l : List Bx) (p : Nat) (space : Int) : List Int := flexL (flxsOf row l p) (spc l p space)
def offK (row : Bool) (l : List Bx) (p : Nat) (space : Int) (j : Nat) : Int := offI (szs row l p space) space (bx l p).gap (bx l p).justify j
def blkO (l : List Bx) (p j : Nat) : Int := isum (((kid l (p : Int)).take j).map fun k => (natS l k).2) + (bx l p).gap * j
/-- box k, number j in box p, which has the rectangle r -/
def placeR (l : List Bx) (p j : Nat) (r : Rc) (k : Nat) : Rc :=
  if (bx l p).kind = 2 then ⟨(insetR r (bx l p).pad).x + offK true l p (insetR r (bx l p).pad).w j, (insetR r (bx l p).pad).y, (szs true l p (insetR r (bx l p).pad).w).getD j 0, (insetR r (bx l p).pad).h⟩
  else if (bx l p).kind = 3 then ⟨(insetR r (bx l p).pad).x, (insetR r (bx l p).pad).y + offK false l p (insetR r (bx l p).pad).h j, (insetR r (bx l p).pad).w, (szs false l p (insetR r (bx l p).pad).h).getD j 0⟩
  else ⟨(insetR r (bx l p).pad).x, (insetR r (bx l p).pad).y + blkO l p j, (insetR r (bx l p).pad).w, (natS l k).2⟩
def posK (l : List Bx) (k : Nat) : Nat := (kidTo l (par l k) k).length
def rectF (l : List Bx) (w h : Int) : Nat → Nat → Rc
  | 0, _ => zr
  | f + 1, i => if par l i < 0 then ⟨0, 0, w, h⟩ else placeR l (par l i).toNat (posK l i) (rectF l w h f (par l i).toNat) i
def rect (l : List Bx) (w h : Int) (i : Nat) : Rc := rectF l w h (i + 1) i
theorem rectF_enough {l : List Bx} {w h : Int} : ∀ (f g i : Nat), Down l i → i < f → i < g → rectF l w h f i = rectF l w h g i
  | 0, _, _, _, h, _ => by omega
  | _ + 1, 0, _, _, _, h => by omega
  | f + 1, g + 1, i, hd, hf, hg => by
    simp only [rectF]
    split
    · rfl
    · have := hd i (Nat.le_refl _)
      rw [rectF_enough f g _ (hd.mono (by omega)) (by omega) (by omega)]
theorem rect_root {l : List Bx} (hv : Valid l) (w h : Int) : rect l w h 0 = ⟨0, 0, w, h⟩ := by
  unfold rect rectF
  rw [if_pos (by have := hv.root; omega)]
theorem kidTo_at {l : List Bx} {i : Int} {k : Nat} (hp : par l k = i) : ∀ (n : Nat), k < n → (kidTo l i n)[(kidTo l i k).length]? = some k
  | 0, h => by omega
  | n + 1, h => by
    rw [kidTo_succ]
    by_cases hk : k = n
    · subst hk
      rw [if_pos hp, List.getElem?_append_right (Nat.le_refl _), Nat.sub_self]
      rfl
    · have ih := kidTo_at hp n (by omega)
      rw [List.getElem?_append_left (List.getElem?_eq_some_iff.1 ih).1]
      exact ih
theorem posK_get {l : List Bx} {k : Nat} (hk : k < l.length) : (kid l (par l k))[posK l k]? = some k := kidTo_at rfl l.length hk
theorem posK_eq {l : List Bx} {i : Int} {j k : Nat} (h : (kid l i)[j]? = some k) : posK l k = j := by
  obtain ⟨h1, h2⟩ := mem_kid_iff.1 (List.mem_of_getElem? h)
  have h3 := posK_get h1
  rw [h2] at h3
  have a := kid_sorted h h3
  have b := kid_sorted h3 h
  omega
theorem rect_kid {l : List Bx} (hv : Valid l) {w h : Int} {p j k : Nat} (hk : (kid l (p : Int))[j]? = some k) : rect l w h k = placeR l p j (rect l w h p) k := by
  obtain ⟨h1, h2⟩ := mem_kid_iff.1 (List.mem_of_getElem? hk)
  have hd := hv.down h1
  have hd2 := hd k (Nat.le_refl _)
  rw [h2] at hd2
  unfold rect
  conv => lhs; unfold rectF
  rw [if_neg (by omega), posK_eq hk, h2, Int.toNat_natCast, rectF_enough k (p + 1) p (hd.mono (by omega)) (by omega) (by omega)]
theorem flx_ok {l : List Bx} (hv : Valid l) (row : Bool) {k : Nat} (hk : k < l.length) : flOk (flxOf row l k) := by
  have h1 := nat_4000 hv hk
  have h2 := okB_bounds (hv.ok k hk)
  unfold flOk flxOf along
  dsimp only
  split <;> omega
theorem flxs_ok {l : List Bx} (hv : Valid l) (row : Bool) (p : Nat) : ∀ f, f ∈ flxsOf row l p → flOk f := by
  intro f hf
  unfold flxsOf at hf
  obtain ⟨k, hk, rfl⟩ := List.mem_map.1 hf
  exact flx_ok hv row (mem_kid_iff.1 hk).1
theorem flxs_length (row : Bool) (l : List Bx) (p : Nat) : (flxsOf row l p).length = (kid l (p : Int)).length := by simp [flxsOf]
theorem isum_map_le {α : Type} {f g : α → Int} : ∀ (ks : List α), (∀ q, q ∈ ks → f q ≤ g q) → isum (ks.map f) ≤ isum (ks.map g)
  | [], _ => by simp
  | q :: ks, h => by
    have h1 := isum_map_le ks fun p hp => h p (List.mem_cons_of_mem _ hp)
    have h2 := h q List.mem_cons_self
    simp only [List.map_cons, isum]
    omega
theorem basL_flxs (row : Bool) (l : List Bx) (p : Nat) : basL (flxsOf row l p) = (kid l (p : Int)).map (along row l) := by
  unfold basL flxsOf
  rw [List.map_map]
  rfl
theorem along_le {l : List Bx} (hv : Valid l) (row : Bool) {k : Nat} (hk : k < l.length) : 0 ≤ along row l k ∧ along row l k ≤ cw l k := by
  have h1 := nat_small hv _ k (Nat.le_refl _) hk
  have h2 := natS_pos hv hk
  unfold along
  split <;> omega
theorem bas_4000 {l : List Bx} (hv : Valid l) (row : Bool) {p : Nat} (hp : p < l.length) : isum ((kid l (p : Int)).map (along row l)) ≤ 4000 := by
  have h1 := isum_map_le (f := along row l) (g := cw l) (kid l (p : Int)) fun q hq => (along_le hv row (mem_kid_iff.1 hq).1).2
  have h2 := cw_total hv hp
  have h3 := cw_4000 hv p
  unfold cw at h3
  omega
theorem szs_length {l : List Bx} (hv : Valid l) (row : Bool) (p : Nat) (space : Int) : (szs row l p space).length = (kid l (p : Int)).length := by
  unfold szs
  rw [flex_len (flxs_ok hv row p), flxs_length]
theorem szs_mem {l : List Bx} (hv : Valid l) (row : Bool) (p : Nat) (space : Int) : ∀ x, x ∈ szs row l p space → 0 ≤ x ∧ x ≤ 10000 := flex_mem (flxs_ok hv row p) _
theorem szs_sum {l : List Bx} (hv : Valid l) (row : Bool) (p : Nat) (space : Int) : isum (szs row l p space) ≤ max (spc l p space) (isum ((kid l (p : Int)).map (along row l))) := by
  have := flex_sum (flxs_ok hv row p) (spc l p space)
  rw [basL_flxs] at this
  exact this
theorem gap_le {l : List Bx} (hv : Valid l) {p : Nat} (hp : p < l.length) {n : Int} (h0 : 0 ≤ n) (h8 : n ≤ 8) : 0 ≤ (bx l p).gap * n ∧ (bx l p).gap * n ≤ 400 := by
  have hb := okB_bounds (hv.ok p hp)
  refine ⟨Int.mul_nonneg (by omega) h0, ?_⟩
  have h1 : (bx l p).gap * n ≤ 50 * n := Int.mul_le_mul_of_nonneg_right (by omega) h0
  omega
theorem spc_le {l : List Bx} (hv : Valid l) {p : Nat} (hp : p < l.length) (hn : 0 < (kid l (p : Int)).length) {space : Int} (h0 : 0 ≤ space) : 0 ≤ spc l p space ∧ spc l p space ≤ space := by
  have hk := (hv.kids p hp).1
  have := gap_le hv hp (n := ((kid l (p : Int)).length : Int) - 1) (by omega) (by omega)
  unfold spc
  omega
theorem offK_le {l : List Bx} (hv : Valid l) (row : Bool) {p j : Nat} {space x : Int} (hp : p < l.length) (hs : 0 ≤ space ∧ space ≤ 10000) (hj : (szs row l p space)[j]? = some x) :
    0 ≤ offK row l p space j ∧ offK row l p space j + x ≤ 10400 := by
  have hjl := (List.getElem?_eq_some_iff.1 hj).1
  have hb := okB_bounds (hv.ok p hp)
  rw [szs_length hv] at hjl
  have h1 := off_bounds (space := space) (gap := (bx l p).gap) (bx l p).justify (fun y hy => (szs_mem hv row p space y hy).1) (by omega) hj
  have hk := (hv.kids p hp).1
  have h2 := gap_le hv hp (n := ((kid l (p : Int)).length : Int) - 1) (by omega) (by omega)
  have h3 := szs_sum hv row p space
  have h4 := spc_le hv hp (by omega) hs.1
  have h5 := bas_4000 hv row hp
  rw [szs_length hv] at h1
  unfold offK
  omega
theorem blkO_succ {l : List Bx} {p j k : Nat} (hk : (kid l (p : Int))[j]? = some k) : blkO l p (j + 1) = blkO l p j + (natS l k).2 + (bx l p).gap := by
  have e : (((kid l (p : Int)).map fun k => (natS l k).2))[j]? = some (natS l k).2 := by rw [List.getElem?_map, hk]; rfl
  have e2 := isum_take e
  rw [← List.map_take, ← List.map_take] at e2
  unfold blkO
  rw [e2]
  push_cast
  rw [Int.mul_add]
  omega
theorem blkO_le {l : List Bx} (hv : Valid l) {p j : Nat} (hp : p < l.length) (hj : j ≤ (kid l (p : Int)).length) : 0 ≤ blkO l p j ∧ blkO l p j ≤ 4400 := by
  have hk := (hv.kids p hp).1
  have h1 := gap_le hv hp (n := (j : Int)) (by omega) (by omega)
  have h2 := bas_4000 hv false hp
  have h3 := isum_take_le (l := (kid l (p : Int)).map (along false l)) (fun x hx => by
    obtain ⟨k, hk, rfl⟩ := List.mem_map.1 hx
    exact (along_le hv false (mem_kid_iff.1 hk).1).1) j
  rw [← List.map_take] at h3
  have e : (fun k => (natS l k).2) = along false l := rfl
  unfold blkO
  rw [e]
  omega
theorem inset_ok {r : Rc} {e : Int} (he : 0 ≤ e ∧ e ≤ 50) (hw : 0 ≤ r.w ∧ r.w ≤ 10000) (hh : 0 ≤ r.h ∧ r.h ≤ 10000) :
    r.x ≤ (insetR r e).x ∧ (insetR r e).x ≤ r.x + 50 ∧ r.y ≤ (insetR r e).y ∧ (insetR r e).y ≤ r.y + 50 ∧ 0 ≤ (insetR r e).w ∧ (insetR r e).w ≤ 10000 ∧ 0 ≤ (insetR r e).h ∧ (insetR r e).h ≤ 10000 := by
  unfold insetR
  dsimp only
  omega
/-- a rectangle of a box that is not far -/
def RB (d : Int) (r : Rc) : Prop := 0 ≤ r.x ∧ r.x ≤ d ∧ 0 ≤ r.y ∧ r.y ≤ d ∧ 0 ≤ r.w ∧ r.w ≤ 10000 ∧ 0 ≤ r.h ∧ r.h ≤ 10000
theorem szs_get {l : List Bx} (hv : Valid l) (row : Bool) {p j k : Nat} (space : Int) (hk : (kid l (p : Int))[j]? = some k) : (szs row l p space)[j]? = some ((szs row l p space).getD j 0) := by
  have h := (List.getElem?_eq_some_iff.1 hk).1
  rw [← szs_length hv row p space] at h
  rw [List.getD_eq_getElem?_getD, List.getElem?_eq_getElem h]
  rfl
theorem place_RB {l : List Bx} (hv : Valid l) {p j k : Nat} {d : Int} {r : Rc} (hp : p < l.length) (hr : RB d r) (hk : (kid l (p : Int))[j]? = some k) : RB (d + 20000) (placeR l p j r k) := by
  obtain ⟨r1, r2, r3, r4, r5, r6, r7, r8⟩ := hr
  have hb := okB_bounds (hv.ok p hp)
  obtain ⟨i1, i2, i3, i4, i5, i6, i7, i8⟩ := inset_ok (r := r) (e := (bx l p).pad) (by omega) (by omega) (by omega)
  unfold placeR
  generalize insetR r (bx l p).pad = q at *
  split
  · have hs := szs_get hv true q.w hk
    have h1 := offK_le hv true hp ⟨i5, i6⟩ hs
    have h2 := szs_mem hv true p q.w _ (List.mem_of_getElem? hs)
    unfold RB
    dsimp only
    omega
  · split
    · have hs := szs_get hv false q.h hk
      have h1 := offK_le hv false hp ⟨i7, i8⟩ hs
      have h2 := szs_mem hv false p q.h _ (List.mem_of_getElem? hs)
      unfold RB
      dsimp only
      omega
    · have h1 := blkO_le hv hp (j := j) (Nat.le_of_lt (List.getElem?_eq_some_iff.1 hk).1)
      have h2 := nat_4000 hv (mem_kid_iff.1 (List.mem_of_getElem? hk)).1
      unfold RB
      dsimp only
      omega
theorem rect_RB {l : List Bx} (hv : Valid l) {w h : Int} (hw : 0 ≤ w ∧ w ≤ 10000) (hh : 0 ≤ h ∧ h ≤ 10000) : ∀ (d k : Nat), k ≤ d → k < l.length → RB (20000 * (((anc l k).length : Int) - 1)) (rect l w h k)
  | 0, k, hk, hl => by
    obtain rfl : k = 0 := by omega
    rw [rect_root hv, anc_root (hv.down hl) (by have := hv.root; omega)]
    unfold RB
    simp only [List.length_singleton]
    omega
  | d + 1, k, hk, hl => by
    by_cases h0 : k = 0
    · exact rect_RB hv hw hh d k (by omega) hl
    · have hp := hv.par k (by omega) hl
      obtain ⟨p, hpp⟩ : ∃ p : Nat, par l k = p := ⟨(par l k).toNat, by omega⟩
      have hk2 := posK_get hl
      rw [hpp] at hk2
      have ih := rect_RB hv hw hh d p (by omega) (by omega)
      have := place_RB hv (by omega) ih hk2
      rw [rect_kid hv hk2, anc_up (hv.down hl) hpp, List.length_cons]
      have e : 20000 * ((((anc l p).length + 1 : Nat) : Int) - 1) = 20000 * (((anc l p).length : Int) - 1) + 20000 := by push_cast; omega
      rw [e]
      exact this
theorem RB.mono {d e : Int} {r : Rc} (h : RB d r) (hd : d ≤ e) : RB e r := by
  unfold RB at *
  omega
theorem rect_ok {l : List Bx} (hv : Valid l) {w h : Int} (hw : 0 ≤ w ∧ w ≤ 10000) (hh : 0 ≤ h ∧ h ≤ 10000) {k : Nat} (hk : k < l.length) : RB 100000 (rect l w h k) :=
  (rect_RB hv hw hh k k (Nat.le_refl _) hk).mono (by have := hv.depth k hk; omega)
/-- the rectangles of all boxes -/
def rectL (l : List Bx) (w h : Int) : List Rc := (List.range l.length).map (rect l w h)
theorem rectL_length (l : List Bx) (w h : Int) : (rectL l w h).length = l.length := by simp [rectL]
theorem rectL_get {l : List Bx} {w h : Int} {i : Nat} (hi : i < l.length) : (rectL l w h)[i]? = some (rect l w h i) := by simp [rectL, hi]
theorem rectL_of {l : List Bx} {w h : Int} {R : List Rc} (hl : R.length = l.length) (hR : ∀ i, i < l.length → R[i]? = some (rect l w h i)) : R = rectL l w h := by
  apply List.ext_getElem?
  intro i
  by_cases hi : i < l.length
  · rw [hR i hi, rectL_get hi]
  · rw [List.getElem?_eq_none (by omega), List.getElem?_eq_none (by rw [rectL_length]; omega)]
end Go.Proofs.Ytbkhbmcoococmaa
namespace Go.Proofs.Ytbkhbmcoococmaa
open Go Go.RowKit
/-- a valid tree and a screen -/
def scrB (l : List Bx) (sw sh : Int) : Bool := vldB l && (inR sw 0 10000 && inR sh 0 10000)
theorem scrB_iff {l : List Bx} {sw sh : Int} : scrB l sw sh = true ↔ Valid l ∧ (0 ≤ sw ∧ sw ≤ 10000) ∧ (0 ≤ sh ∧ sh ≤ 10000) := by
  unfold scrB
  rw [Bool.and_eq_true, Bool.and_eq_true, vldB_iff, inR_iff, inR_iff]
def rectsOr (l : List Bx) (sw sh : Int) : List Rc := if scrB l sw sh then rectL l sw sh else []
theorem rectsOr_t {l : List Bx} {sw sh : Int} (h : scrB l sw sh = true) : rectsOr l sw sh = rectL l sw sh := by
  unfold rectsOr
  rw [if_pos h]
theorem rectsOr_f {l : List Bx} {sw sh : Int} (h : scrB l sw sh = false) : rectsOr l sw sh = [] := by
  unfold rectsOr
  rw [h]
  rfl
def roB (l : List Bx) (sw sh i : Int) : Bool := scrB l sw sh && inR i 0 ((l.length : Int) - 1)
def roR (l : List Bx) (sw sh i : Int) : Rc := if roB l sw sh i then rect l sw sh i.toNat else zr
set_option maxHeartbeats 1000000 in
theorem screenOk_any {v : Value} {l : List Bx} (sw sh : Int) (w : World) (hv : Rd w 9 v (Bs l)) :
    Calls Try.prog 47 #[v, .int .i64 sw, .int .i64 sh] w fun e w' => e = .returned (.bool (scrB l sw sh)) ∧ Ext w w' := by
  have hrd := hv
  obtain ⟨a, c, rfl, hn, hc, _⟩ := hv.boxes
  unfold maxLen at hc
  go_enter Try.func47, Try.ntmps47
  cases h : vldB l with
  | true =>
    go_wp2_with (fail)
    refine (ValidTree_any (l := l) _ hrd).mono ?_
    rintro e w1 ⟨he, hx⟩
    rw [h] at he
    subst he
    go_wp2_with (fail)
    refine (within_any _ _ _ _).mono ?_
    rintro e w2 ⟨he, rfl⟩
    cases h1 : inR sw 0 10000 with
    | true =>
      rw [h1] at he
      subst he
      go_wp2_with (fail)
      refine (within_any _ _ _ _).mono ?_
      rintro e w3 ⟨rfl, rfl⟩
      go_wp2
      go_ret
      exact ⟨by unfold scrB; rw [h, h1]; rfl, hx⟩
    | false =>
      rw [h1] at he
      subst he
      go_wp2
      go_ret
      exact ⟨by unfold scrB; rw [h, h1]; rfl, hx⟩
  | false =>
    go_wp2_with (fail)
    refine (ValidTree_any (l := l) _ hrd).mono ?_
    rintro e w1 ⟨he, hx⟩
    rw [h] at he
    subst he
    go_wp2
    go_ret
    exact ⟨by unfold scrB; rw [h]; rfl, hx⟩
end Go.Proofs.Ytbkhbmcoococmaa
namespace Go.Proofs.Ytbkhbmcoococmaa
open Go Go.RowKit
/-! ### heights do not depend on the width -/
theorem rect_wide {l : List Bx} (hv : Valid l) (w w' h : Int) : ∀ (d i : Nat), i ≤ d → i < l.length → (rect l w h i).h = (rect l w' h i).h
  | 0, i, hi, hl => by
    obtain rfl : i = 0 := by omega
    rw [rect_root hv, rect_root hv]
  | d + 1, i, hi, hl => by
    by_cases h0 : i = 0
    · exact rect_wide hv w w' h d i (by omega) hl
    · have hp := hv.par i (by omega) hl
      obtain ⟨p, hpp⟩ : ∃ p : Nat, par l i = p := ⟨(par l i).toNat, by omega⟩
      have hk2 := posK_get hl
      rw [hpp] at hk2
      have ih := rect_wide hv w w' h d p (by omega) (by omega)
      rw [rect_kid hv hk2, rect_kid hv hk2]
      have e : ∀ e, (insetR (rect l w h p) e).h = (insetR (rect l w' h p) e).h := fun e => by
        unfold insetR
        dsimp only
        rw [ih]
      unfold placeR
      split
      · dsimp only
        exact e _
      · split
        · dsimp only
          rw [e]
        · rfl
/-! ### boxes side by side -/
theorem rect_order {l : List Bx} (hv : Valid l) {w h : Int} {p j a b : Nat} (ha : (kid l (p : Int))[j]? = some a) (hb : (kid l (p : Int))[j + 1]? = some b) :
    ((bx l p).kind = 2 → (rect l w h a).x + (rect l w h a).w + (bx l p).gap ≤ (rect l w h b).x) ∧ ((bx l p).kind ≠ 2 → (rect l w h a).y + (rect l w h a).h + (bx l p).gap ≤ (rect l w h b).y) := by
  rw [rect_kid hv ha, rect_kid hv hb]
  unfold placeR
  constructor
  · intro h2
    rw [if_pos h2, if_pos h2]
    dsimp only
    have := off_step (space := (insetR (rect l w h p) (bx l p).pad).w) (gap := (bx l p).gap) (bx l p).justify (szs_get hv true (insetR (rect l w h p) (bx l p).pad).w ha)
    unfold offK
    omega
  · intro h2
    rw [if_neg h2, if_neg h2]
    by_cases h3 : (bx l p).kind = 3
    · rw [if_pos h3, if_pos h3]
      dsimp only
      have := off_step (space := (insetR (rect l w h p) (bx l p).pad).h) (gap := (bx l p).gap) (bx l p).justify (szs_get hv false (insetR (rect l w h p) (bx l p).pad).h ha)
      unfold offK
      omega
    · rw [if_neg h3, if_neg h3]
      dsimp only
      have := blkO_succ ha
      omega
theorem rect_block {l : List Bx} (hv : Valid l) {w h : Int} {p j a : Nat} (ha : (kid l (p : Int))[j]? = some a) (h1 : (bx l p).kind = 1) :
    (rect l w h a).h = (natS l a).2 ∧ ∀ b, (kid l (p : Int))[j + 1]? = some b → (rect l w h b).y = (rect l w h a).y + (rect l w h a).h + (bx l p).gap := by
  rw [rect_kid hv ha]
  unfold placeR
  rw [if_neg (by omega), if_neg (by omega)]
  refine ⟨rfl, fun b hb => ?_⟩
  rw [rect_kid hv hb]
  unfold placeR
  rw [if_neg (by omega), if_neg (by omega)]
  dsimp only
  rw [blkO_succ ha]
  omega
theorem rect_cross {l : List Bx} (hv : Valid l) {w h : Int} {p i : Nat} (hi : i < l.length) (hp : par l i = (p : Int)) :
    ((bx l p).kind = 2 → (rect l w h i).y = (insetR (rect l w h p) (bx l p).pad).y ∧ (rect l w h i).h = (insetR (rect l w h p) (bx l p).pad).h) ∧
    ((bx l p).kind ≠ 2 → (rect l w h i).x = (insetR (rect l w h p) (bx l p).pad).x ∧ (rect l w h i).w = (insetR (rect l w h p) (bx l p).pad).w) := by
  have hk := posK_get hi
  rw [hp] at hk
  rw [rect_kid hv hk]
  unfold placeR
  constructor
  · intro h2
    rw [if_pos h2]
    exact ⟨rfl, rfl⟩
  · intro h2
    rw [if_neg h2]
    split <;> exact ⟨rfl, rfl⟩
theorem rect_pos {l : List Bx} (hv : Valid l) {w h : Int} (hw : 0 ≤ w ∧ w ≤ 10000) (hh : 0 ≤ h ∧ h ≤ 10000) {k : Nat} (hk : k < l.length) : 0 ≤ (rect l w h k).w ∧ 0 ≤ (rect l w h k).h := by
  obtain ⟨_, _, _, _, h1, _, h2, _⟩ := rect_ok hv hw hh hk
  exact ⟨h1, h2⟩
theorem rect_far {l : List Bx} (hv : Valid l) {w h : Int} (hw : 0 ≤ w ∧ w ≤ 10000) (hh : 0 ≤ h ∧ h ≤ 10000) {p s a : Nat} (hp : p < l.length) (ha : (kid l (p : Int))[s]? = some a) : ∀ (d b : Nat), (kid l (p : Int))[s + 1 + d]? = some b →
    ((bx l p).kind = 2 → (rect l w h a).x + (rect l w h a).w ≤ (rect l w h b).x) ∧ ((bx l p).kind ≠ 2 → (rect l w h a).y + (rect l w h a).h ≤ (rect l w h b).y)
  | 0, b, hb => by
    have h1 := rect_order (w := w) (h := h) hv ha hb
    have h2 := okB_bounds (hv.ok p hp)
    exact ⟨fun h => by have := h1.1 h; omega, fun h => by have := h1.2 h; omega⟩
  | d + 1, b, hb => by
    obtain ⟨c, hc⟩ : ∃ c, (kid l (p : Int))[s + 1 + d]? = some c := ⟨_, List.getElem?_eq_getElem (by have := (List.getElem?_eq_some_iff.1 hb).1; omega)⟩
    have ih := rect_far hv hw hh hp ha d c hc
    have h1 := rect_order (w := w) (h := h) hv hc hb
    have h2 := okB_bounds (hv.ok p hp)
    have h3 := rect_pos hv hw hh (mem_kid_iff.1 (List.mem_of_getElem? hc)).1
    exact ⟨fun h => by have := h1.1 h; have := ih.1 h; omega, fun h => by have := h1.2 h; have := ih.2 h; omega⟩
/-- have two rectangles common points? -/
def meetB (r s : Rc) : Bool := decide (0 < min (r.x + r.w) (s.x + s.w) - max r.x s.x) && decide (0 < min (r.y + r.h) (s.y + s.h) - max r.y s.y)
theorem rect_apart {l : List Bx} (hv : Valid l) {w h : Int} (hw : 0 ≤ w ∧ w ≤ 10000) (hh : 0 ≤ h ∧ h ≤ 10000) {i k : Nat} (hi : i < l.length) (h0 : 0 < k) (hk : k < i) (he : par l i = par l k) : meetB (rect l w h i) (rect l w h k) = false := by
  have hp := hv.par k h0 (by omega)
  obtain ⟨p, hpp⟩ : ∃ p : Nat, par l k = p := ⟨(par l k).toNat, by omega⟩
  have h1 := posK_get (show k < l.length by omega)
  have h2 := posK_get hi
  rw [hpp] at h1
  rw [he, hpp] at h2
  have hlt := (kid_sorted h1 h2).2 hk
  obtain ⟨d, hd⟩ : ∃ d, posK l i = posK l k + 1 + d := ⟨posK l i - (posK l k + 1), by omega⟩
  rw [hd] at h2
  have hf := rect_far hv hw hh (by omega) h1 d i h2
  unfold meetB
  rw [Bool.and_eq_false_iff, decide_eq_false_iff_not, decide_eq_false_iff_not]
  by_cases hkd : (bx l p).kind = 2
  · left
    have := hf.1 hkd
    omega
  · right
    have := hf.2 hkd
    omega
/-! ### rows -/
theorem rect_row {l : List Bx} (hv : Valid l) {w h : Int} {p : Nat} (h2 : (bx l p).kind = 2) : (kid l (p : Int)).map (fun k => (rect l w h k).w) = szs true l p (insetR (rect l w h p) (bx l p).pad).w := by
  apply List.ext_getElem?
  intro j
  rw [List.getElem?_map]
  by_cases hj : j < (kid l (p : Int)).length
  · have hk := List.getElem?_eq_getElem hj
    rw [szs_get hv true _ hk, hk, Option.map_some, rect_kid hv hk]
    unfold placeR
    rw [if_pos h2]
  · rw [List.getElem?_eq_none (by omega), List.getElem?_eq_none (by rw [szs_length hv]; omega)]
    rfl
/-! ### boxes beyond the boxes around them -/
def bynd (r s : Rc) : Bool := decide (r.x < s.x) || (decide (r.y < s.y) || (decide (s.x + s.w < r.x + r.w) || decide (s.y + s.h < r.y + r.h)))
def spillB (l : List Bx) (w h : Int) (i : Nat) : Bool := bynd (rect l w h i) (insetR (rect l w h (par l i).toNat) (bx l (par l i).toNat).pad)
def spillTo (l : List Bx) (w h : Int) (n : Nat) : List Nat := (List.range n).filter fun i => decide (0 < i) && spillB l w h i
theorem spillTo_succ (l : List Bx) (w h : Int) (n : Nat) : spillTo l w h (n + 1) = if 0 < n ∧ spillB l w h n = true then spillTo l w h n ++ [n] else spillTo l w h n := by
  unfold spillTo
  rw [List.range_succ, List.filter_append]
  by_cases hc : 0 < n ∧ spillB l w h n = true
  · rw [if_pos hc]
    simp [hc.1, hc.2]
  · rw [if_neg hc]
    have : (decide (0 < n) && spillB l w h n) = false := by
      cases hs : spillB l w h n
      · simp
      · have : ¬ 0 < n := fun h0 => hc ⟨h0, hs⟩
        simp [this]
    simp [this]
theorem spillTo_mem {l : List Bx} {w h : Int} {n i : Nat} : i ∈ spillTo l w h n ↔ i < n ∧ 0 < i ∧ spillB l w h i = true := by
  unfold spillTo
  simp
theorem spillTo_length (l : List Bx) (w h : Int) (n : Nat) : (spillTo l w h n).length ≤ n := by
  unfold spillTo
  have := List.length_filter_le (fun i => decide (0 < i) && spillB l w h i) (List.range n)
  rwa [List.length_range] at this
theorem alongL_sum (b : Bx) : ∀ (r : List (Int × Int)) (c : Int), alongL b c r = c + isum (r.map (mainOf b))
  | [], c => by simp [alongL, isum]
  | s :: r, c => by
    have := alongL_sum b r (c + mainOf b s)
    simp only [alongL, List.foldl_cons, List.map_cons, isum] at this ⊢
    rw [this]
    omega
/-- the sizes along the box and all gaps are in what the box needs -/
theorem nat_full {l : List Bx} (hv : Valid l) {p : Nat} (hp : p < l.length) (hk : 0 < (kid l (p : Int)).length) :
    ((bx l p).kind = 2 → isum ((kid l (p : Int)).map (along true l)) + (bx l p).gap * (((kid l (p : Int)).length : Int) - 1) + 2 * (bx l p).pad = (natS l p).1) ∧
    ((bx l p).kind ≠ 2 → isum ((kid l (p : Int)).map (along false l)) + (bx l p).gap * (((kid l (p : Int)).length : Int) - 1) + 2 * (bx l p).pad = (natS l p).2) := by
  have h0 : ¬ (bx l p).kind = 0 := fun h => by
    have := (hv.kids p hp).2 h
    rw [this] at hk
    simp at hk
  have hg : gapsOf (kid l (p : Int)).length = ((kid l (p : Int)).length : Int) - 1 := by unfold gapsOf; omega
  rw [natS_box hv hp h0, hg, Int.mul_comm (bx l p).gap]
  constructor
  · intro h2
    rw [if_pos h2]
    dsimp only
    rw [alongL_sum]
    have : (kidS l p).map (mainOf (bx l p)) = (kid l (p : Int)).map (along true l) := by
      unfold kidS
      rw [List.map_map]
      apply List.map_congr_left
      intro k _
      simp [mainOf, along, h2]
    rw [this]
    omega
  · intro h2
    rw [if_neg h2]
    dsimp only
    rw [alongL_sum]
    have : (kidS l p).map (mainOf (bx l p)) = (kid l (p : Int)).map (along false l) := by
      unfold kidS
      rw [List.map_map]
      apply List.map_congr_left
      intro k _
      simp [mainOf, along, h2]
    rw [this]
    omega
theorem fit_line {l : List Bx} (hv : Valid l) (row : Bool) {p j k : Nat} {space : Int} (hp : p < l.length) (hk : (kid l (p : Int))[j]? = some k)
    (hf : isum ((kid l (p : Int)).map (along row l)) + (bx l p).gap * (((kid l (p : Int)).length : Int) - 1) ≤ space) :
    0 ≤ offK row l p space j ∧ offK row l p space j + (szs row l p space).getD j 0 ≤ space := by
  have hb := okB_bounds (hv.ok p hp)
  have hs := szs_get hv row space hk
  have h1 := off_bounds (space := space) (gap := (bx l p).gap) (bx l p).justify (fun y hy => (szs_mem hv row p space y hy).1) (by omega) hs
  have h3 := szs_sum hv row p space
  have hpos := isum_pos ((kid l (p : Int)).map (along row l)) (fun x hx => by
    obtain ⟨q, hq, rfl⟩ := List.mem_map.1 hx
    exact (along_le hv row (mem_kid_iff.1 hq).1).1)
  rw [szs_length hv] at h1
  unfold offK
  unfold spc at h3
  omega
theorem fit_inside {l : List Bx} (hv : Valid l) {w h : Int} (hw : 0 ≤ w ∧ w ≤ 10000) (hh : 0 ≤ h ∧ h ≤ 10000) (h1 : (natS l 0).1 ≤ w) (h2 : (natS l 0).2 ≤ h) {k : Nat} (hk : k ∈ kid l 0) : spillB l w h k = false := by
  obtain ⟨hkl, hpk⟩ := mem_kid_iff.1 hk
  have hj := posK_get hkl
  rw [hpk] at hj
  change (kid l ((0 : Nat) : Int))[posK l k]? = some k at hj
  have hl := hv.lo
  have hkp : 0 < (kid l ((0 : Nat) : Int)).length := List.length_pos_of_mem hk
  have hb := okB_bounds (hv.ok 0 (by omega))
  have hn := nat_full hv (p := 0) (by omega) hkp
  have hs := natS_pos hv hkl
  have he : rect l w h k = placeR l 0 (posK l k) (rect l w h 0) k := rect_kid hv hj
  unfold spillB
  rw [hpk, he]
  have ht : (0 : Int).toNat = 0 := rfl
  rw [ht]
  have hi := inset_ok (r := rect l w h 0) (e := (bx l 0).pad) (by omega) (by rw [rect_root hv]; exact hw) (by rw [rect_root hv]; exact hh)
  have hiw : (insetR (rect l w h 0) (bx l 0).pad).w = max 0 (w - 2 * (bx l 0).pad) := by rw [rect_root hv]; rfl
  have hih : (insetR (rect l w h 0) (bx l 0).pad).h = max 0 (h - 2 * (bx l 0).pad) := by rw [rect_root hv]; rfl
  unfold bynd placeR
  generalize insetR (rect l w h 0) (bx l 0).pad = q at *
  rw [Bool.or_eq_false_iff, Bool.or_eq_false_iff, Bool.or_eq_false_iff]
  simp only [decide_eq_false_iff_not]
  by_cases hk2 : (bx l 0).kind = 2
  · rw [if_pos hk2]
    dsimp only
    have h5 := hn.1 hk2
    have h6 := fit_line hv true (space := q.w) (show 0 < l.length by omega) hj (by omega)
    omega
  · rw [if_neg hk2]
    have h5 := hn.2 hk2
    by_cases hk3 : (bx l 0).kind = 3
    · rw [if_pos hk3]
      dsimp only
      have h6 := fit_line hv false (space := q.h) (show 0 < l.length by omega) hj (by omega)
      omega
    · rw [if_neg hk3]
      dsimp only
      have hjl := (List.getElem?_eq_some_iff.1 hj).1
      have h6 := blkO_le hv (p := 0) (j := posK l k) (by omega) (by omega)
      have h7 := blkO_succ (p := 0) hj
      have h8 := isum_take_le (l := (kid l ((0 : Nat) : Int)).map (along false l)) (fun x hx => by
        obtain ⟨k, hk, rfl⟩ := List.mem_map.1 hx
        exact (along_le hv false (mem_kid_iff.1 hk).1).1) (posK l k + 1)
      rw [← List.map_take] at h8
      have e : (fun k => (natS l k).2) = along false l := rfl
      have h9 : blkO l 0 (posK l k + 1) = isum (((kid l ((0 : Nat) : Int)).take (posK l k + 1)).map (along false l)) + (bx l 0).gap * ((posK l k + 1 : Nat) : Int) := by unfold blkO; rw [e]
      have h10 : (bx l 0).gap * ((posK l k : Nat) : Int) ≤ (bx l 0).gap * (((kid l ((0 : Nat) : Int)).length : Int) - 1) := Int.mul_le_mul_of_nonneg_left (by omega) (by omega)
      have h11 : (bx l 0).gap * ((posK l k + 1 : Nat) : Int) = (bx l 0).gap * ((posK l k : Nat) : Int) + (bx l 0).gap := by push_cast; rw [Int.mul_add]; omega
      omega
/-! ### one box's style -/
/-- boxes in boxes that keep their rectangles, and that are not around the box that is changed, keep theirs -/
theorem style_rect {l m : List Bx} (hv : Valid l) (hm : Valid m) {a : Nat} (ha : a < l.length) (hlen : m.length = l.length) (hpar : ∀ i, par m i = par l i) (hbx : ∀ i, i ≠ a → bx m i = bx l i) {w h : Int} {i p : Nat} (hi : i < l.length) (hp : par l i = (p : Int)) (hne : p ∉ anc l a) (he : rect m w h p = rect l w h p) :
    rect m w h i = rect l w h i := by
  have hk : ∀ j : Int, kid m j = kid l j := fun j => by
    unfold kid
    rw [hlen]
    apply List.filter_congr
    intro x _
    rw [hpar]
  have hup : ∀ k, k ∈ kid l (p : Int) → k ∉ anc l a := fun k hkm hka => by
    obtain ⟨h1, h2⟩ := mem_kid_iff.1 hkm
    have h3 : p ∈ anc l k := anc_step (hv.down h1) (by omega) (by rw [h2, Int.toNat_natCast]; exact anc_self (hv.down (by
      have := (hv.down h1) k (Nat.le_refl _)
      omega)))
    exact hne (anc_trans a (hv.down ha) hka h3)
  have hnat : ∀ k, k ∈ kid l (p : Int) → natS m k = natS l k := fun k hkm =>
    natS_map (l := l) (m := m) (f := id) (ok := fun j => j < l.length ∧ j ∉ anc l a) (fun k hk => hv.down hk k (Nat.le_refl _)) (fun k hk => hm.down hk k (Nat.le_refl _))
      (fun j hj => ⟨by omega, hj.1⟩) (fun j hj => ⟨(bx l j).parent, by
        rw [hbx j (fun e => hj.2 (by rw [e]; exact anc_self (hv.down ha)))]
        rfl⟩) (fun j _ => by
        rw [hk]
        exact (List.map_id _).symm)
      (fun j k hj hkm => by
        rw [hk] at hkm
        obtain ⟨h1, h2⟩ := mem_kid_iff.1 hkm
        refine ⟨h1, fun hka => hj.2 ?_⟩
        exact anc_trans a (hv.down ha) hka (anc_step (hv.down h1) (by omega) (by rw [h2, Int.toNat_natCast]; exact anc_self (hv.down hj.1))))
      _ k (Nat.le_refl _) ⟨(mem_kid_iff.1 hkm).1, hup k hkm⟩
  have hpa : p ≠ a := fun e => hne (by rw [e]; exact anc_self (hv.down ha))
  have hj := posK_get hi
  rw [hp] at hj
  have hj2 : (kid m (p : Int))[posK l i]? = some i := by rw [hk]; exact hj
  rw [rect_kid hv hj, rect_kid hm hj2, he]
  have hbp : bx m p = bx l p := hbx p hpa
  have hfl : ∀ row, flxsOf row m p = flxsOf row l p := fun row => by
    unfold flxsOf
    rw [hk]
    apply List.map_congr_left
    intro k hkm
    unfold flxOf along
    rw [hnat k hkm, hbx k (fun e => hup k hkm (by rw [e]; exact anc_self (hv.down ha)))]
  have hsz : ∀ row space, szs row m p space = szs row l p space := fun row space => by
    unfold szs spc
    rw [hfl, hbp, hk]
  have hof : ∀ row space j, offK row m p space j = offK row l p space j := fun row space j => by
    unfold offK
    rw [hsz, hbp]
  have hbl : ∀ j, blkO m p j = blkO l p j := fun j => by
    unfold blkO
    rw [hk, hbp]
    congr 2
    apply List.map_congr_left
    intro k hkm
    rw [hnat k (List.mem_of_mem_take hkm)]
  unfold placeR
  rw [hbp]
  simp only [hsz, hof, hbl, hnat i (List.mem_of_getElem? hj)]
end Go.Proofs.Ytbkhbmcoococmaa
namespace Go.Proofs.Ytbkhbmcoococmaa
open Go Go.RowKit
/-! ### a box placed with all in it -/
theorem anc_kid {l : List Bx} (hv : Valid l) {p : Nat} : ∀ (d i : Nat), i ≤ d → i < l.length → p ∈ anc l i → i ≠ p → ∃ k, k ∈ kid l (p : Int) ∧ k ∈ anc l i
  | 0, i, hd, hi, hm, hne => by
    obtain rfl : i = 0 := by omega
    have := anc_le 0 (hv.down hi) p hm
    omega
  | d + 1, i, hd, hi, hm, hne => by
    obtain ⟨h0, hm2⟩ := anc_par (hv.down hi) hm (fun e => hne e.symm)
    have hlt := (hv.down hi) i (Nat.le_refl _)
    by_cases hq : (par l i).toNat = p
    · exact ⟨i, mem_kid_iff.2 ⟨hi, by omega⟩, anc_self (hv.down hi)⟩
    · obtain ⟨k, hk, hk2⟩ := anc_kid hv d (par l i).toNat (by omega) (by omega) hm2 hq
      exact ⟨k, hk, anc_step (hv.down hi) h0 hk2⟩
def PlA (l : List Bx) (sw sh : Int) (p : Nat) (R R' : List Rc) : Prop :=
  R'.length = l.length ∧ (∀ i, i < l.length → p ∉ anc l i → R'[i]? = R[i]?) ∧ ∀ i, i < l.length → p ∈ anc l i → R'[i]? = some (rect l sw sh i)
def PlT (l : List Bx) (sw sh : Int) (p j : Nat) (R R' : List Rc) : Prop :=
  R'.length = l.length ∧ (∀ i, i < l.length → p ∉ anc l i → R'[i]? = R[i]?) ∧ R'[p]? = some (rect l sw sh p) ∧ ∀ t k, t < j → (kid l (p : Int))[t]? = some k → ∀ i, i < l.length → k ∈ anc l i → R'[i]? = some (rect l sw sh i)
theorem plT_zero {l : List Bx} (hv : Valid l) {sw sh : Int} {p : Nat} {R : List Rc} (hp : p < l.length) (hR : R.length = l.length) : PlT l sw sh p 0 R (R.set p (rect l sw sh p)) := by
  refine ⟨by simpa using hR, fun i hi hm => ?_, ?_, fun t k ht => by omega⟩
  · rw [List.getElem?_set_ne]
    intro e
    subst e
    exact hm (anc_self (hv.down hp))
  · rw [List.getElem?_set_self (by omega)]
theorem kid_up {l : List Bx} (hv : Valid l) {p k : Nat} (hk : k ∈ kid l (p : Int)) : p ∈ anc l k := by
  obtain ⟨h1, h2⟩ := mem_kid_iff.1 hk
  have := (hv.down h1) k (Nat.le_refl _)
  exact anc_step (hv.down h1) (by omega) (by rw [h2, Int.toNat_natCast]; exact anc_self (hv.down (by omega)))
theorem plT_step {l : List Bx} (hv : Valid l) {sw sh : Int} {p j k : Nat} {R R' R'' : List Rc} (hT : PlT l sw sh p j R R') (hk : (kid l (p : Int))[j]? = some k) (hA : PlA l sw sh k R' R'') : PlT l sw sh p (j + 1) R R'' := by
  obtain ⟨t1, t2, t3, t4⟩ := hT
  obtain ⟨a1, a2, a3⟩ := hA
  have hkm := List.mem_of_getElem? hk
  obtain ⟨h1, h2⟩ := mem_kid_iff.1 hkm
  have hup := kid_up hv hkm
  have hlt := (hv.down h1) k (Nat.le_refl _)
  refine ⟨a1, fun i hi hm => ?_, ?_, fun t q ht hq i hi hm => ?_⟩
  · rw [a2 i hi (fun h => hm (anc_trans i (hv.down hi) h hup)), t2 i hi hm]
  · rw [a2 p (by omega) (fun h => by
      have := anc_le p (hv.down (by omega)) k h
      omega), t3]
  · by_cases hki : k ∈ anc l i
    · exact a3 i hi hki
    · have htj : t ≠ j := fun e => by
        subst e
        rw [hk] at hq
        cases hq
        exact hki hm
      rw [a2 i hi hki]
      exact t4 t q (by omega) hq i hi hm
theorem plT_end {l : List Bx} (hv : Valid l) {sw sh : Int} {p : Nat} {R R' : List Rc} (hT : PlT l sw sh p (kid l (p : Int)).length R R') : PlA l sw sh p R R' := by
  obtain ⟨t1, t2, t3, t4⟩ := hT
  refine ⟨t1, t2, fun i hi hm => ?_⟩
  by_cases h : i = p
  · subst h
    exact t3
  · obtain ⟨k, hk, hk2⟩ := anc_kid hv i i (Nat.le_refl _) hi hm h
    obtain ⟨t, ht⟩ := List.getElem?_of_mem hk
    exact t4 t k (List.getElem?_eq_some_iff.1 ht).1 ht i hi hk2
theorem plA_all {l : List Bx} (hv : Valid l) {sw sh : Int} {R R' : List Rc} (hA : PlA l sw sh 0 R R') : R' = rectL l sw sh :=
  rectL_of hA.1 fun i hi => hA.2.2 i hi (anc_zero hv i hi)
end Go.Proofs.Ytbkhbmcoococmaa
namespace Go.Proofs.Ytbkhbmcoococmaa
open Go Go.RowKit
/-- the cells of a tree's rectangles -/
structure RC (l : List Bx) (sw sh : Int) (b o : Nat) (w : World) : Prop where
  lt : b < w.heap.size
  cs : ∀ k, k < l.length → Cells4 w b (o + k * 4) (rect l sw sh k)
theorem RC.below {l : List Bx} {sw sh : Int} {b o B : Nat} {w w' : World} (h : RC l sw sh b o w) (hx : Below B w w') (hB : w.heap.size ≤ B) : RC l sw sh b o w' :=
  ⟨Nat.lt_of_lt_of_le h.lt hx.size, fun k hk => (h.cs k hk).below hx (Nat.lt_of_lt_of_le h.lt hB)⟩
theorem RC.alloc {l : List Bx} {sw sh : Int} {b o : Nat} {w : World} (h : RC l sw sh b o w) (x : Obj) : RC l sw sh b o (w.alloc x) := h.below (Below.of_alloc w x) (Nat.le_refl _)
theorem rectC {l : List Bx} {sw sh : Int} {w : World} {a : Option Addr} {n c : Nat} (h : Rd w 4 (.slice a n c) (Rs (rectL l sw sh))) (hl : 0 < l.length) : ∃ b o, a = some ⟨b, o, none⟩ ∧ RC l sw sh b o w := by
  obtain ⟨a', c', e, _, _, hk⟩ := h.rects
  cases e
  obtain ⟨b, o, rfl, hb, hc⟩ := hk 0 _ (rectL_get hl)
  exact ⟨b, o, rfl, hb, fun k hk => hc k _ (rectL_get hk)⟩
theorem rectS {l : List Bx} {sw sh : Int} {w : World} {v : Value} (h : Rd w 4 v (Rs (rectL l sw sh))) (hl : 0 < l.length) : ∃ b o c, v = .slice (some ⟨b, o, none⟩) l.length c ∧ l.length ≤ c ∧ c ≤ 9223372036854775807 ∧ RC l sw sh b o w := by
  obtain ⟨a, c, rfl, hn, hc, _⟩ := h.rects
  unfold maxLen at hc
  rw [rectL_length] at hn h ⊢
  obtain ⟨b, o, rfl, hr⟩ := rectC h hl
  exact ⟨b, o, c, rfl, hn, hc, hr⟩
/-- the boxes beyond the boxes around them -/
def splL (l : List Bx) (sw sh : Int) : List Int := if scrB l sw sh then ni (spillTo l sw sh l.length) else []
end Go.Proofs.Ytbkhbmcoococmaa
