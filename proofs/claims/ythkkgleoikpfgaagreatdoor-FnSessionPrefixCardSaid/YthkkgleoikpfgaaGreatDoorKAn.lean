/-
  Parts of the proof: Pl Pr Scr Lw Lp RC Hit Pd Tr Any Arnd Part Draw Inset Inner Block Rect Plm SFls Fit Meet Meet2 Has SSty.
-/
import Derived.Test.YthkkgleoikpfgaaGreatDoorKAk
import Derived.Test.YthkkgleoikpfgaaGreatDoorKAl
import Derived.Test.YthkkgleoikpfgaaGreatDoorKAa
import Derived.Test.YthkkgleoikpfgaaGreatDoorKAd
import Derived.Test.YthkkgleoikpfgaaGreatDoorKAm
import Derived.Test.YthkkgleoikpfgaaGreatDoorKAj
import Derived.IntWalk
import Derived.StillTailTactics
import Derived.Test.YthkkgleoikpfgaaGreatDoorKAe
namespace Go.Proofs.YthkkgleoikpfgaaGreatDoor
open Go Go.RowKit
theorem takeWhile_mem (p : Nat → Bool) : ∀ (r : List Nat) {x : Nat}, x ∈ r.takeWhile p → p x = true
 | [], x, h => by simp at h
 | y :: r, x, h => by
  by_cases hy : p y = true
  ·rw [List.takeWhile_cons, if_pos hy] at h
   rcases List.mem_cons.1 h with h | h
   ·rw [h]; exact hy
   ·exact takeWhile_mem p r h
  ·rw [List.takeWhile_cons, if_neg hy] at h
   cases h
theorem takeWhile_stop (p : Nat → Bool) : ∀ (r : List Nat), (r.takeWhile p).length < r.length → ∀ {x : Nat}, r[(r.takeWhile p).length]? = some x → p x = false
 | [], h, _, _ => by simp at h
 | y :: r, h, x, hx => by
  by_cases hy : p y = true
  ·rw [List.takeWhile_cons, if_pos hy] at h hx
   simp only [List.length_cons, List.getElem?_cons_succ] at h hx
   exact takeWhile_stop p r (by omega) hx
  ·rw [List.takeWhile_cons, if_neg hy] at hx
   simp at hx
   subst hx
   simpa using hy
theorem anc_trans {l : List Bx} {a b : Nat} : ∀ (i : Nat), Down l i → b ∈ anc l i → a ∈ anc l b → a ∈ anc l i := by
 intro i
 induction i using Nat.strongRecOn with
 | _ i ih =>
  intro hd hb ha
  rw [anc_eq hd] at hb ⊢
  rcases List.mem_cons.1 hb with h | h
  ·subst h
   rw [anc_eq hd] at ha
   exact ha
  ·split at h
   ·rename_i h0
    have hp := hd i (Nat.le_refl _)
    rw [if_pos h0]
    exact List.mem_cons_of_mem _ (ih (par l i).toNat (by omega) (hd.mono (by omega)) h ha)
   ·cases h
theorem anc_self {l : List Bx} {i : Nat} (hd : Down l i) : i ∈ anc l i := by rw [anc_eq hd]; exact List.mem_cons_self
theorem anc_par {l : List Bx} {a i : Nat} (hd : Down l i) (h : a ∈ anc l i) (hne : a ≠ i) : 0 ≤ par l i ∧ a ∈ anc l (par l i).toNat := by
 rw [anc_eq hd] at h
 rcases List.mem_cons.1 h with h | h
 ·exact absurd h hne
 ·split at h
  ·exact ⟨by assumption, h⟩
  ·cases h
theorem anc_step {l : List Bx} {a i : Nat} (hd : Down l i) (h0 : 0 ≤ par l i) (h : a ∈ anc l (par l i).toNat) : a ∈ anc l i := by
 rw [anc_eq hd, if_pos h0]
 exact List.mem_cons_of_mem _ h
/-- in a valid tree what lies in a box follows it directly -/
theorem between {l : List Bx} (hv : Valid l) {a : Nat} : ∀ (d j : Nat), j + d < l.length → a ≤ j → a ∈ anc l (j + d) → a ∈ anc l j
 | 0, _, _, _, h => h
 | d + 1, j, hi, hj, h => by
  have hdn := hv.down hi
  have h1 := anc_par hdn h (by omega)
  have h2 := (hv.par (j + (d + 1)) (by omega) hi).2.2
  exact between hv d j (by omega) hj (anc_trans (j + d) (hv.down (by omega)) (show (par l (j + (d + 1))).toNat ∈ anc l (j + d) from h2) h1.2)
theorem cntS_pos {l : List Bx} (hv : Valid l) {a : Nat} (ha : a < l.length) : 1 ≤ cntS l a := by
 unfold cntS
 obtain ⟨n, hn⟩ : ∃ n, l.length - a = n + 1 := ⟨l.length - a - 1, by omega⟩
 rw [hn, List.range'_succ, List.takeWhile_cons, arB_self (hv.down ha)]
 simp
theorem cntS_in {l : List Bx} {a i : Nat} (h1 : a ≤ i) (h2 : i < a + cntS l a) : arB l a i = true := by
 unfold cntS at h2
 have hp := List.takeWhile_prefix (fun i => arB l a i) (l := List.range' a (l.length - a))
 obtain ⟨t, ht⟩ := hp
 have hm : (List.takeWhile (fun i => arB l a i) (List.range' a (l.length - a)))[i - a]? = some i := by
  have h3 : (List.range' a (l.length - a))[i - a]? = some i := by
   have h4 := (List.takeWhile_sublist (fun i => arB l a i) (l := List.range' a (l.length - a))).length_le
   rw [List.length_range'] at h4
   rw [List.getElem?_range' (by omega)]
   congr 1
   omega
  rw [← ht, List.getElem?_append_left (by omega)] at h3
  exact h3
 have := List.mem_of_getElem? hm
 exact (takeWhile_mem _ _ this)
theorem cntS_out {l : List Bx} (hv : Valid l) {a i : Nat} (h1 : a + cntS l a ≤ i) (h2 : i < l.length) : arB l a i = false := by
 by_cases h : arB l a i = true
 ·exfalso
  have hm : a ∈ anc l i := by simpa [arB] using h
  have key : ∀ t, t < l.length - a → arB l a (a + t) = true ∨ cntS l a ≤ t := by
   intro t ht
   by_cases hb : a + t ≤ i
   ·left
    obtain ⟨d, hd⟩ : ∃ d, i = a + t + d := ⟨i - (a + t), by omega⟩
    have := between hv (a := a) d (a + t) (by omega) (by omega) (by rw [← hd]; exact hm)
    simpa [arB] using this
   ·right
    have := anc_le i (hv.down h2) a hm
    omega
  have hc : (List.takeWhile (fun i => arB l a i) (List.range' a (l.length - a))).length = cntS l a := rfl
  rcases Nat.lt_or_ge (cntS l a) (l.length - a) with h3 | h3
  ·have hs := takeWhile_stop (fun i => arB l a i) (List.range' a (l.length - a)) (by rw [List.length_range']; exact h3) (x := a + cntS l a) (by
    rw [hc, List.getElem?_range' (by omega)]; simp)
   obtain ⟨d, hd⟩ : ∃ d, i = a + cntS l a + d := ⟨i - (a + cntS l a), by omega⟩
   have := between hv (a := a) d (a + cntS l a) (by omega) (by omega) (by rw [← hd]; exact hm)
   have h5 : arB l a (a + cntS l a) = true := by simpa [arB] using this
   rw [h5] at hs
   cases hs
  ·omega
 ·simpa using h
theorem arB_iff {l : List Bx} (hv : Valid l) {a i : Nat} (hi : i < l.length) : arB l a i = true ↔ a ≤ i ∧ i < a + cntS l a := by
 constructor
 ·intro h
  have hm : a ∈ anc l i := by simpa [arB] using h
  refine ⟨anc_le i (hv.down hi) a hm, ?_⟩
  rcases Nat.lt_or_ge i (a + cntS l a) with h1 | h1
  ·exact h1
  ·rw [cntS_out hv h1 hi] at h
   cases h
 ·exact fun h => cntS_in h.1 h.2
theorem filter_interval : ∀ (n a e : Nat), a ≤ e → e ≤ n → ((List.range n).filter fun i => decide (a ≤ i) && decide (i < e)).length = e - a
 | 0, a, e, h1, h2 => by simp; omega
 | n + 1, a, e, h1, h2 => by
  rw [List.range_succ, List.filter_append, List.length_append]
  rcases Nat.lt_or_ge n e with h | h
  ·obtain rfl : e = n + 1 := by omega
   rcases Nat.lt_or_ge n a with h3 | h3
   ·have e1 : (List.range n).filter (fun i => decide (a ≤ i) && decide (i < n + 1)) = [] := by
     rw [List.filter_eq_nil_iff]
     intro i hi
     rw [List.mem_range] at hi
     simp
     omega
    rw [e1]
    have : ¬ a ≤ n := by omega
    simp [this]
    omega
   ·have e1 : (List.range n).filter (fun i => decide (a ≤ i) && decide (i < n + 1)) = (List.range n).filter (fun i => decide (a ≤ i) && decide (i < n)) := by
     apply List.filter_congr
     intro i hi
     rw [List.mem_range] at hi
     have h4 : i < n + 1 := by omega
     simp [hi, h4]
    rw [e1, filter_interval n a n h3 (Nat.le_refl _)]
    simp [h3]
    omega
  ·rw [filter_interval n a e h1 h]
   have : ¬ n < e := by omega
   simp [this]
theorem cnt_eq {l : List Bx} (hv : Valid l) {a : Nat} (ha : a < l.length) : cnt l a = cntS l a := by
 unfold cnt
 have hle := cntS_le l a
 have e : (List.range l.length).filter (fun i => arB l a i) = (List.range l.length).filter (fun i => decide (a ≤ i) && decide (i < a + cntS l a)) := by
  apply List.filter_congr
  intro i hi
  rw [List.mem_range] at hi
  rw [Bool.eq_iff_iff, arB_iff hv hi]
  simp
 rw [e, filter_interval l.length a (a + cntS l a) (by omega) (by omega)]
 omega
theorem mem_kid_iff {l : List Bx} {i : Int} {k : Nat} : k ∈ kid l i ↔ k < l.length ∧ par l k = i := by
 simp [kid]
theorem kid_in {l : List Bx} (hv : Valid l) {a j k : Nat} (hj : j < cntS l a) (hk : k < l.length) (h : par l k = ((a + j : Nat) : Int)) : a + j < k ∧ k < a + cntS l a := by
 have hd := hv.down hk k (Nat.le_refl _)
 have hm : a ∈ anc l k := anc_step (hv.down hk) (by omega) (by
  rw [h, Int.toNat_natCast]
  have := cntS_in (l := l) (a := a) (i := a + j) (by omega) (by omega)
  simpa [arB] using this)
 have := (arB_iff (a := a) hv hk).1 (by simpa [arB] using hm)
 omega
/-- the root is around all boxes -/
theorem anc_zero {l : List Bx} (hv : Valid l) : ∀ (i : Nat), i < l.length → 0 ∈ anc l i := by
 intro i
 induction i using Nat.strongRecOn with
 | _ i ih =>
  intro hi
  rcases Nat.eq_zero_or_pos i with h0 | h0
  ·subst h0
   exact anc_self (hv.down hi)
  ·have := hv.par i h0 hi
   exact anc_step (hv.down hi) this.1 (ih _ (by omega) (by omega))
theorem natS_pos {l : List Bx} (hv : Valid l) {i : Nat} (hi : i < l.length) : 0 ≤ (natS l i).1 ∧ 0 ≤ (natS l i).2 := by
 have := natS_sz hv hi
 exact ⟨this.1, this.2.2.1⟩
theorem kid_sorted {l : List Bx} {i : Int} {s t a b : Nat} (hs : (kid l i)[s]? = some a) (ht : (kid l i)[t]? = some b) : s < t ↔ a < b := by
 have hp : (kid l i).Pairwise (· < ·) := List.Pairwise.filter _ List.pairwise_lt_range
 obtain ⟨h1, e1⟩ := List.getElem?_eq_some_iff.1 hs
 obtain ⟨h2, e2⟩ := List.getElem?_eq_some_iff.1 ht
 have hp' := List.pairwise_iff_getElem.1 hp
 constructor
 ·intro h
  have := hp' s t h1 h2 h
  omega
 ·intro h
  rcases Nat.lt_trichotomy s t with h3 | h3 | h3
  ·exact h3
  ·subst h3
   rw [e1] at e2
   omega
  ·have := hp' t s h2 h1 h3
   omega
structure Emb (s b : List Bx) (f : Nat → Nat) : Prop where
 mono : ∀ i j, i < j → f i < f j
 range : ∀ i, i < s.length → f i < b.length
 pr : ∀ i, i < s.length → (par s i < 0 ∧ par b (f i) < 0) ∨ (0 ≤ par s i ∧ par b (f i) = (f (par s i).toNat : Nat))
theorem emb_inj {s b : List Bx} {f : Nat → Nat} (h : Emb s b f) {i j : Nat} (e : f i = f j) : i = j := by
 rcases Nat.lt_trichotomy i j with h1 | h1 | h1
 ·have := h.mono i j h1; omega
 ·exact h1
 ·have := h.mono j i h1; omega
theorem emb_le {s b : List Bx} {f : Nat → Nat} (h : Emb s b f) {i j : Nat} : f i ≤ f j ↔ i ≤ j := by
 rcases Nat.lt_trichotomy i j with h1 | h1 | h1
 ·have := h.mono i j h1; omega
 ·subst h1; omega
 ·have := h.mono j i h1; omega
theorem emb_anc {s b : List Bx} {f : Nat → Nat} (h : Emb s b f) (hs : ∀ k, k < s.length → par s k < k) (hb : ∀ k, k < b.length → par b k < k) : ∀ (i : Nat), i < s.length → anc b (f i) = (anc s i).map f := by
 intro i
 induction i using Nat.strongRecOn with
 | _ i ih =>
  intro hi
  have hr := h.range i hi
  have hds : Down s i := fun k hk => hs k (by omega)
  have hdb : Down b (f i) := fun k hk => hb k (by omega)
  rcases h.pr i hi with ⟨h1, h2⟩ | ⟨h1, h2⟩
  ·rw [anc_root hds h1, anc_root hdb h2]; rfl
  ·have h3 := hs i hi
   obtain ⟨p, hp⟩ := Int.eq_ofNat_of_zero_le h1
   rw [hp, Int.toNat_natCast] at h2
   rw [anc_up hds hp, anc_up hdb h2, ih p (by omega) (by omega)]
   rfl
theorem emb_ancMem {s b : List Bx} {f : Nat → Nat} (h : Emb s b f) (hs : ∀ k, k < s.length → par s k < k) (hb : ∀ k, k < b.length → par b k < k) {i j : Nat} (hi : i < s.length) : f j ∈ anc b (f i) ↔ j ∈ anc s i := by
 rw [emb_anc h hs hb i hi, List.mem_map]
 constructor
 ·rintro ⟨x, hx, e⟩
  rw [← emb_inj h e]
  exact hx
 ·exact fun hj => ⟨j, hj, rfl⟩
theorem emb_kid {s b : List Bx} {f : Nat → Nat} (h : Emb s b f) {j k : Nat} : k ∈ kid s (j : Int) ↔ k < s.length ∧ f k ∈ kid b (f j : Int) := by
 rw [mem_kid, mem_kid]
 constructor
 ·rintro ⟨h1, h2⟩
  refine ⟨h1, h.range k h1, ?_⟩
  rcases h.pr k h1 with ⟨h3, h4⟩ | ⟨h3, h4⟩
  ·omega
  ·rw [h4, h2, Int.toNat_natCast]
 ·rintro ⟨h1, h2, h3⟩
  refine ⟨h1, ?_⟩
  rcases h.pr k h1 with ⟨h4, h5⟩ | ⟨h4, h5⟩
  ·omega
  ·rw [h5] at h3
   have := emb_inj h (i := (par s k).toNat) (j := j) (by omega)
   omega
theorem kid_pairwise (l : List Bx) (i : Int) : (kid l i).Pairwise (· < ·) := List.Pairwise.filter _ List.pairwise_lt_range
/-- two ascending lists with the same members are the same -/
theorem sorted_ext : ∀ (a b : List Nat), a.Pairwise (· < ·) → b.Pairwise (· < ·) → (∀ x, x ∈ a ↔ x ∈ b) → a = b
 | [], [], _, _, _ => rfl
 | [], y :: b, _, _, h => by have := (h y).2 List.mem_cons_self; cases this
 | x :: a, [], _, _, h => by have := (h x).1 List.mem_cons_self; cases this
 | x :: a, y :: b, ha, hb, h => by
  have ha' := List.pairwise_cons.1 ha
  have hb' := List.pairwise_cons.1 hb
  have e : x = y := by
   rcases List.mem_cons.1 ((h x).1 List.mem_cons_self) with h1 | h1
   ·exact h1
   ·rcases List.mem_cons.1 ((h y).2 List.mem_cons_self) with h2 | h2
    ·exact h2.symm
    ·have := hb'.1 x h1
     have := ha'.1 y h2
     omega
  subst e
  rw [sorted_ext a b ha'.2 hb'.2 fun z => ?_]
  constructor
  ·intro hz
   rcases List.mem_cons.1 ((h z).1 (List.mem_cons_of_mem _ hz)) with h1 | h1
   ·have := ha'.1 z hz
    omega
   ·exact h1
  ·intro hz
   rcases List.mem_cons.1 ((h z).2 (List.mem_cons_of_mem _ hz)) with h1 | h1
   ·have := hb'.1 z hz
    omega
   ·exact h1
theorem emb_kidMap {s b : List Bx} {f : Nat → Nat} (h : Emb s b f) (j : Nat) : ((kid s (j : Int)).map f).Sublist (kid b (f j : Int)) := by
 have e : (kid s (j : Int)).map f = (kid b (f j : Int)).filter fun k => decide (∃ i, i < s.length ∧ f i = k) := by
  apply sorted_ext
  ·rw [List.pairwise_map]
   exact (kid_pairwise s j).imp fun hx => h.mono _ _ hx
  ·exact (kid_pairwise b _).filter _
  ·intro x
   rw [List.mem_map, List.mem_filter]
   constructor
   ·rintro ⟨k, hk, rfl⟩
    have := (emb_kid h).1 hk
    exact ⟨this.2, by simpa using ⟨k, this.1, rfl⟩⟩
   ·rintro ⟨hx, hi⟩
    simp only [decide_eq_true_eq] at hi
    obtain ⟨i, hi, rfl⟩ := hi
    exact ⟨i, (emb_kid h).2 ⟨hi, hx⟩, rfl⟩
 rw [e]
 exact List.filter_sublist
/-- a part of a valid tree that is numbered anew is valid -/
theorem emb_valid {s b : List Bx} {f : Nat → Nat} (h : Emb s b f) (hv : Valid b) (hs : ∀ k, k < s.length → par s k < k) (h1 : 1 ≤ s.length) (h2 : s.length ≤ b.length) (hr : par s 0 = -1)
 (hp : ∀ i, 0 < i → i < s.length → 0 ≤ par s i) (hsty : ∀ i, i < s.length → ∃ p, bx s i = (bx b (f i)).at p) : Valid s := by
 have hb : ∀ k, k < b.length → par b k < k := fun k hk => hv.down hk k (Nat.le_refl _)
 have hhi := hv.hi
 refine ⟨h1, by omega, hr, ?_, ?_, ?_, ?_⟩
 ·intro i hi
  obtain ⟨p, e⟩ := hsty i hi
  rw [e]
  exact hv.ok (f i) (h.range i hi)
 ·intro i h0 hi
  have e1 := hp i h0 hi
  have e2 := hs i hi
  refine ⟨e1, e2, ?_⟩
  rcases h.pr i hi with ⟨h3, h4⟩ | ⟨h3, h4⟩
  ·omega
  ·have hm := h.mono (i - 1) i (by omega)
   have hfi := h.range i hi
   have h5 := (hv.par (f i) (by omega) hfi).2.2
   rw [h4, Int.toNat_natCast] at h5
   have h6 := emb_le h (i := (par s i).toNat) (j := i - 1)
   obtain ⟨d, hd⟩ : ∃ d, f i - 1 = f (i - 1) + d := ⟨f i - 1 - f (i - 1), by omega⟩
   rw [hd] at h5
   have h7 := between hv d (f (i - 1)) (by omega) (by omega) h5
   exact (emb_ancMem h hs hb (by omega)).1 h7
 ·intro i hi
  have := hv.depth (f i) (h.range i hi)
  rw [emb_anc h hs hb i hi, List.length_map] at this
  exact this
 ·intro i hi
  have h3 := hv.kids (f i) (h.range i hi)
  have h4 := emb_kidMap h i
  refine ⟨?_, fun hk => ?_⟩
  ·have := h4.length_le
   rw [List.length_map] at this
   omega
  ·obtain ⟨p, e⟩ := hsty i hi
   rw [e] at hk
   rw [h3.2 hk] at h4
   exact List.map_eq_nil_iff.1 (List.sublist_nil.1 h4)
/-! ### a box that is removed -/
def drp (a n : Nat) (y : Bx) : Bx := y.at (y.parent - (if (a : Int) ≤ y.parent then (n : Int) else 0))
def remL (l : List Bx) (a : Nat) : List Bx := l.take a ++ (l.drop (a + cntS l a)).map (drp a (cntS l a))
def remF (l : List Bx) (a i : Nat) : Nat := if i < a then i else i + cntS l a
theorem remL_length {l : List Bx} {a : Nat} (ha : a < l.length) : (remL l a).length + cntS l a = l.length := by
 have := cntS_le l a
 unfold remL
 simp only [List.length_append, List.length_take, List.length_map, List.length_drop]
 omega
theorem remL_bx {l : List Bx} {a i : Nat} (ha : a < l.length) (hi : i < (remL l a).length) : bx (remL l a) i = if i < a then bx l i else drp a (cntS l a) (bx l (i + cntS l a)) := by
 have hl := remL_length ha
 have hle := cntS_le l a
 apply bx_of
 unfold remL
 by_cases h : i < a
 ·rw [if_pos h, List.getElem?_append_left (by rw [List.length_take]; omega), List.getElem?_take, if_pos h, bx_get (by omega)]
 ·rw [if_neg h, List.getElem?_append_right (by rw [List.length_take]; omega), List.length_take, Nat.min_eq_left (by omega), List.getElem?_map, List.getElem?_drop,
   show a + cntS l a + (i - a) = i + cntS l a from by omega, bx_get (by omega)]
  rfl
theorem rem_sty {l : List Bx} {a i : Nat} (ha : a < l.length) (hi : i < (remL l a).length) : ∃ p, bx (remL l a) i = (bx l (remF l a i)).at p := by
 rw [remL_bx ha hi]
 unfold remF
 split
 ·exact ⟨(bx l i).parent, rfl⟩
 ·exact ⟨_, rfl⟩
theorem rem_par {l : List Bx} (hv : Valid l) {a i : Nat} (ha : a < l.length) (h0 : 0 < a) (hi : i < (remL l a).length) :
 (par (remL l a) i < 0 ∧ par l (remF l a i) < 0) ∨ (0 ≤ par (remL l a) i ∧ par l (remF l a i) = (remF l a (par (remL l a) i).toNat : Nat)) := by
 have hl := remL_length ha
 have hle := cntS_le l a
 have e := remL_bx ha hi
 unfold remF
 by_cases h : i < a
 ·rw [if_pos h] at e
  have e2 : par (remL l a) i = par l i := by unfold par; rw [e]
  rw [if_pos h, e2]
  have := hv.down (i := i) (by omega) i (Nat.le_refl _)
  by_cases hp : 0 ≤ par l i
  ·right
   refine ⟨hp, ?_⟩
   rw [if_pos (by omega)]
   omega
  ·left; omega
 ·rw [if_neg h] at e
  have e2 : par (remL l a) i = par l (i + cntS l a) - (if (a : Int) ≤ par l (i + cntS l a) then (cntS l a : Int) else 0) := by
   unfold par; rw [e]; rfl
  rw [if_neg h, e2]
  have hin : i + cntS l a < l.length := by omega
  have hp := hv.par (i + cntS l a) (by omega) hin
  have hno : ¬ (a ≤ (par l (i + cntS l a)).toNat ∧ (par l (i + cntS l a)).toNat < a + cntS l a) := fun hh => by
   have h1 := (arB_iff hv (a := a) (i := (par l (i + cntS l a)).toNat) (by omega)).2 hh
   have h2 : a ∈ anc l (i + cntS l a) := anc_step (hv.down hin) hp.1 (by simpa [arB] using h1)
   have h3 := (arB_iff hv (a := a) hin).1 (by simpa [arB] using h2)
   omega
  right
  by_cases hap : (a : Int) ≤ par l (i + cntS l a)
  ·rw [if_pos hap]
   refine ⟨by omega, ?_⟩
   rw [if_neg (by omega)]
   omega
  ·rw [if_neg hap]
   refine ⟨by omega, ?_⟩
   rw [if_pos (by omega)]
   omega
theorem rem_emb {l : List Bx} (hv : Valid l) {a : Nat} (ha : a < l.length) (h0 : 0 < a) : Emb (remL l a) l (remF l a) := by
 have hl := remL_length ha
 refine ⟨fun i j h => ?_, fun i hi => ?_, fun i hi => rem_par hv ha h0 hi⟩
 ·unfold remF
  split <;> split <;> omega
 ·unfold remF
  split <;> omega
theorem rem_down {l : List Bx} (hv : Valid l) {a : Nat} (ha : a < l.length) (h0 : 0 < a) : ∀ k, k < (remL l a).length → par (remL l a) k < k := fun k hk => by
 have hE := rem_emb hv ha h0
 have h1 := hv.down (hE.range k hk) _ (Nat.le_refl _)
 rcases hE.pr k hk with ⟨h2, h3⟩ | ⟨h2, h3⟩
 ·omega
 ·have h4 := emb_le hE (i := k) (j := (par (remL l a) k).toNat)
  omega
theorem rem_parPos {l : List Bx} (hv : Valid l) {a : Nat} (ha : a < l.length) (h0 : 0 < a) {i : Nat} (hi0 : 0 < i) (hi : i < (remL l a).length) : 0 ≤ par (remL l a) i := by
 have hE := rem_emb hv ha h0
 have hf : 0 < remF l a i := by unfold remF; split <;> omega
 have h1 := (hv.par _ hf (hE.range i hi)).1
 rcases hE.pr i hi with ⟨h2, h3⟩ | ⟨h2, h3⟩
 ·omega
 ·exact h2
theorem rem_valid {l : List Bx} (hv : Valid l) {a : Nat} (ha : a < l.length) (h0 : 0 < a) : Valid (remL l a) := by
 have hl := remL_length ha
 have hc := cntS_pos hv ha
 have hle := cntS_le l a
 refine emb_valid (rem_emb hv ha h0) hv (rem_down hv ha h0) (by omega) (by omega) ?_ (fun i hi0 hi => rem_parPos hv ha h0 hi0 hi) (fun i hi => rem_sty ha hi)
 have := remL_bx ha (i := 0) (by omega)
 rw [if_pos h0] at this
 unfold par
 rw [this]
 exact hv.root
theorem kid_end {l : List Bx} (hv : Valid l) {i k : Nat} (hi : i < l.length) (hk : k ∈ kid l (i : Int)) : i < k ∧ k + cntS l k ≤ i + cntS l i := by
 obtain ⟨h1, h2⟩ := mem_kid_iff.1 hk
 have hin := kid_in hv (a := i) (j := 0) (k := k) (cntS_pos hv hi) h1 (by simpa using h2)
 have hc := cntS_pos hv h1
 have hle := cntS_le l k
 have h3 : k + cntS l k - 1 < l.length := by omega
 have h4 := cntS_in (l := l) (a := k) (i := k + cntS l k - 1) (by omega) (by omega)
 have h5 : i ∈ anc l k := anc_step (hv.down h1) (by omega) (by rw [h2, Int.toNat_natCast]; exact anc_self (hv.down hi))
 have h6 := anc_trans (a := i) (b := k) _ (hv.down h3) (by simpa [arB] using h4) h5
 have h7 := (arB_iff (a := i) hv h3).1 (by simpa [arB] using h6)
 omega
theorem kid_next {l : List Bx} (hv : Valid l) {i j a b : Nat} (ha : (kid l (i : Int))[j]? = some a) (hb : (kid l (i : Int))[j + 1]? = some b) : a + cntS l a ≤ b := by
 have hab := (kid_sorted ha hb).1 (by omega)
 obtain ⟨h1, h2⟩ := mem_kid_iff.1 (List.mem_of_getElem? ha)
 obtain ⟨h3, h4⟩ := mem_kid_iff.1 (List.mem_of_getElem? hb)
 rcases Nat.lt_or_ge b (a + cntS l a) with h | h
 ·exfalso
  have h5 := cntS_in (l := l) (a := a) (i := b) (by omega) h
  have h6 := anc_par (hv.down h3) (show a ∈ anc l b by simpa [arB] using h5) (by omega)
  rw [h4, Int.toNat_natCast] at h6
  have hd := hv.down h1 a (Nat.le_refl _)
  have h7 := anc_le i (hv.down (by omega)) a h6.2
  omega
 ·exact h
def cw (l : List Bx) (k : Nat) : Int := 250 * (cntS l k : Int)
theorem kids_cw {l : List Bx} (hv : Valid l) {i : Nat} (hi : i < l.length) : ∀ (j k : Nat), (kid l (i : Int))[j]? = some k → isum (((kid l (i : Int)).take j).map (cw l)) + 250 * ((i : Int) + 1) ≤ 250 * (k : Int)
 | 0, k, hk => by
  have := (kid_end hv hi (List.mem_of_getElem? hk)).1
  simp only [List.take_zero, List.map_nil, isum]
  omega
 | j + 1, b, hb => by
  obtain ⟨a, ha⟩ : ∃ a, (kid l (i : Int))[j]? = some a := ⟨_, List.getElem?_eq_getElem (by have := (List.getElem?_eq_some_iff.1 hb).1; omega)⟩
  have ih := kids_cw hv hi j a ha
  have hn := kid_next hv ha hb
  have e : (((kid l (i : Int)).map (cw l)))[j]? = some (cw l a) := by rw [List.getElem?_map, ha]; rfl
  have e2 := isum_take e
  rw [← List.map_take, ← List.map_take] at e2
  rw [e2]
  unfold cw at ih ⊢
  omega
theorem cw_total {l : List Bx} (hv : Valid l) {i : Nat} (hi : i < l.length) : isum ((kid l (i : Int)).map (cw l)) + 250 ≤ 250 * (cntS l i : Int) := by
 have hp := cntS_pos hv hi
 by_cases h0 : (kid l (i : Int)).length = 0
 ·rw [List.eq_nil_of_length_eq_zero h0]
  simp only [List.map_nil, isum]
  omega
 ·obtain ⟨j, hj⟩ : ∃ j, (kid l (i : Int)).length = j + 1 := ⟨(kid l (i : Int)).length - 1, by omega⟩
  obtain ⟨k, hk⟩ : ∃ k, (kid l (i : Int))[j]? = some k := ⟨_, List.getElem?_eq_getElem (by omega)⟩
  have h1 := kids_cw hv hi j k hk
  have h2 := kid_end hv hi (List.mem_of_getElem? hk)
  have e : (((kid l (i : Int)).map (cw l)))[j]? = some (cw l k) := by rw [List.getElem?_map, hk]; rfl
  have e2 := isum_take e
  rw [← List.map_take, ← List.map_take, ← hj, List.take_length] at e2
  rw [e2]
  unfold cw at *
  omega
theorem foldK_cw {b : Bx} (hg : 0 ≤ b.gap ∧ b.gap ≤ 50) (l : List Bx) : ∀ (ks : List Nat) (k : Nat) (acc : Int × Int), 0 ≤ acc.1 → 0 ≤ acc.2 →
 (∀ q, q ∈ ks → 0 ≤ (natS l q).1 ∧ 0 ≤ (natS l q).2 ∧ (natS l q).1 + 50 ≤ cw l q ∧ (natS l q).2 + 50 ≤ cw l q) →
 (foldK b k acc (ks.map (natS l))).1 ≤ acc.1 + isum (ks.map (cw l)) ∧ (foldK b k acc (ks.map (natS l))).2 ≤ acc.2 + isum (ks.map (cw l))
 | [], k, acc, h1, h2, _ => by simp [foldK, isum]
 | q :: ks, k, acc, h1, h2, h => by
  obtain ⟨q1, q2, q3, q4⟩ := h q List.mem_cons_self
  have hA : 0 ≤ (addK b k acc (natS l q)).1 ∧ 0 ≤ (addK b k acc (natS l q)).2 ∧ (addK b k acc (natS l q)).1 ≤ acc.1 + cw l q ∧ (addK b k acc (natS l q)).2 ≤ acc.2 + cw l q := by
   unfold addK
   split <;> dsimp only <;> split <;> omega
  have ih := foldK_cw hg l ks (k + 1) (addK b k acc (natS l q)) hA.1 hA.2.1 fun p hp => h p (List.mem_cons_of_mem _ hp)
  simp only [List.map_cons, foldK, isum]
  omega
theorem nat_small {l : List Bx} (hv : Valid l) : ∀ (d i : Nat), l.length - i ≤ d → i < l.length → (natS l i).1 + 50 ≤ cw l i ∧ (natS l i).2 + 50 ≤ cw l i
 | 0, i, h, hi => by omega
 | d + 1, i, h, hi => by
  have hb := okB_bounds (hv.ok i hi)
  have hf := foldK_cw (b := bx l i) (by omega) l (kid l (i : Int)) 0 ((bx l i).w, (bx l i).h) (by dsimp only; omega) (by dsimp only; omega) (fun q hq => by
   obtain ⟨h1, h2⟩ := kid_end hv hi hq
   have hql := (mem_kid_iff.1 hq).1
   have := nat_small hv d q (by omega) hql
   have hp := natS_pos hv hql
   omega)
  have ht := cw_total hv hi
  rw [natS_eq (fun k hk => hv.down hk k (Nat.le_refl _)) hi]
  dsimp only at hf ⊢
  unfold kidS
  unfold cw at *
  omega
theorem cw_4000 {l : List Bx} (hv : Valid l) (i : Nat) : cw l i ≤ 4000 := by
 have := cntS_le l i
 have := hv.hi
 unfold cw
 omega
theorem nat_4000 {l : List Bx} (hv : Valid l) {i : Nat} (hi : i < l.length) : 0 ≤ (natS l i).1 ∧ (natS l i).1 ≤ 4000 ∧ 0 ≤ (natS l i).2 ∧ (natS l i).2 ≤ 4000 := by
 have h1 := nat_small hv _ i (Nat.le_refl _) hi
 have h2 := natS_pos hv hi
 have := cw_4000 hv i
 omega
/-! ### where boxes are put -/
def insetR (r : Rc) (e : Int) : Rc := ⟨r.x + min e (r.w / 2), r.y + min e (r.h / 2), max 0 (r.w - 2 * e), max 0 (r.h - 2 * e)⟩
def along (row : Bool) (l : List Bx) (k : Nat) : Int := if row then (natS l k).1 else (natS l k).2
def flxOf (row : Bool) (l : List Bx) (k : Nat) : Flx := ⟨along row l k, 0, 10000, (bx l k).grow, (bx l k).shrink⟩
def flxsOf (row : Bool) (l : List Bx) (p : Nat) : List Flx := (kid l (p : Int)).map (flxOf row l)
def spc (l : List Bx) (p : Nat) (space : Int) : Int := max 0 (space - (bx l p).gap * (((kid l (p : Int)).length : Int) - 1))
def szs (row : Bool) (l : List Bx) (p : Nat) (space : Int) : List Int := flexL (flxsOf row l p) (spc l p space)
def offK (row : Bool) (l : List Bx) (p : Nat) (space : Int) (j : Nat) : Int := offI (szs row l p space) space (bx l p).gap (bx l p).justify j
def blkO (l : List Bx) (p j : Nat) : Int := isum (((kid l (p : Int)).take j).map fun k => (natS l k).2) + (bx l p).gap * j
/-- box k, number j in box p, which has the rectangle r -/
def placeR (l : List Bx) (p j : Nat) (r : Rc) (k : Nat) : Rc :=
 if (bx l p).kind = 2 then ⟨(insetR r (bx l p).pad).x + offK true l p (insetR r (bx l p).pad).w j, (insetR r (bx l p).pad).y, (szs true l p (insetR r (bx l p).pad).w).getD j 0, (insetR r (bx l p).pad).h⟩
 else if (bx l p).kind = 3 then ⟨(insetR r (bx l p).pad).x, (insetR r (bx l p).pad).y + offK false l p (insetR r (bx l p).pad).h j, (insetR r (bx l p).pad).w, (szs false l p (insetR r (bx l p).pad).h).getD j 0⟩
 else ⟨(insetR r (bx l p).pad).x, (insetR r (bx l p).pad).y + blkO l p j, (insetR r (bx l p).pad).w, (natS l k).2⟩
def posK (l : List Bx) (k : Nat) : Nat := (kidTo l (par l k) k).length
def rectF (l : List Bx) (w h : Int) : Nat → Nat → Rc
 | 0, _ => zr
 | f + 1, i => if par l i < 0 then ⟨0, 0, w, h⟩ else placeR l (par l i).toNat (posK l i) (rectF l w h f (par l i).toNat) i
def rect (l : List Bx) (w h : Int) (i : Nat) : Rc := rectF l w h (i + 1) i
theorem rectF_enough {l : List Bx} {w h : Int} : ∀ (f g i : Nat), Down l i → i < f → i < g → rectF l w h f i = rectF l w h g i
 | 0, _, _, _, h, _ => by omega
 | _ + 1, 0, _, _, _, h => by omega
 | f + 1, g + 1, i, hd, hf, hg => by
  simp only [rectF]
  split
  ·rfl
  ·have := hd i (Nat.le_refl _)
   rw [rectF_enough f g _ (hd.mono (by omega)) (by omega) (by omega)]
theorem rect_root {l : List Bx} (hv : Valid l) (w h : Int) : rect l w h 0 = ⟨0, 0, w, h⟩ := by
 unfold rect rectF
 rw [if_pos (by have := hv.root; omega)]
theorem kidTo_at {l : List Bx} {i : Int} {k : Nat} (hp : par l k = i) : ∀ (n : Nat), k < n → (kidTo l i n)[(kidTo l i k).length]? = some k
 | 0, h => by omega
 | n + 1, h => by
  rw [kidTo_succ]
  by_cases hk : k = n
  ·subst hk
   rw [if_pos hp, List.getElem?_append_right (Nat.le_refl _), Nat.sub_self]
   rfl
  ·have ih := kidTo_at hp n (by omega)
   rw [List.getElem?_append_left (List.getElem?_eq_some_iff.1 ih).1]
   exact ih
theorem posK_get {l : List Bx} {k : Nat} (hk : k < l.length) : (kid l (par l k))[posK l k]? = some k := kidTo_at rfl l.length hk
theorem posK_eq {l : List Bx} {i : Int} {j k : Nat} (h : (kid l i)[j]? = some k) : posK l k = j := by
 obtain ⟨h1, h2⟩ := mem_kid_iff.1 (List.mem_of_getElem? h)
 have h3 := posK_get h1
 rw [h2] at h3
 have a := kid_sorted h h3
 have b := kid_sorted h3 h
 omega
theorem rect_kid {l : List Bx} (hv : Valid l) {w h : Int} {p j k : Nat} (hk : (kid l (p : Int))[j]? = some k) : rect l w h k = placeR l p j (rect l w h p) k := by
 obtain ⟨h1, h2⟩ := mem_kid_iff.1 (List.mem_of_getElem? hk)
 have hd := hv.down h1
 have hd2 := hd k (Nat.le_refl _)
 rw [h2] at hd2
 unfold rect
 conv => lhs; unfold rectF
 rw [if_neg (by omega), posK_eq hk, h2, Int.toNat_natCast, rectF_enough k (p + 1) p (hd.mono (by omega)) (by omega) (by omega)]
theorem flx_ok {l : List Bx} (hv : Valid l) (row : Bool) {k : Nat} (hk : k < l.length) : flOk (flxOf row l k) := by
 have h1 := nat_4000 hv hk
 have h2 := okB_bounds (hv.ok k hk)
 unfold flOk flxOf along
 dsimp only
 split <;> omega
theorem flxs_ok {l : List Bx} (hv : Valid l) (row : Bool) (p : Nat) : ∀ f, f ∈ flxsOf row l p → flOk f := by
 intro f hf
 unfold flxsOf at hf
 obtain ⟨k, hk, rfl⟩ := List.mem_map.1 hf
 exact flx_ok hv row (mem_kid_iff.1 hk).1
theorem flxs_length (row : Bool) (l : List Bx) (p : Nat) : (flxsOf row l p).length = (kid l (p : Int)).length := by simp [flxsOf]
theorem isum_map_le {α : Type} {f g : α → Int} : ∀ (ks : List α), (∀ q, q ∈ ks → f q ≤ g q) → isum (ks.map f) ≤ isum (ks.map g)
 | [], _ => by simp
 | q :: ks, h => by
  have h1 := isum_map_le ks fun p hp => h p (List.mem_cons_of_mem _ hp)
  have h2 := h q List.mem_cons_self
  simp only [List.map_cons, isum]
  omega
theorem basL_flxs (row : Bool) (l : List Bx) (p : Nat) : basL (flxsOf row l p) = (kid l (p : Int)).map (along row l) := by
 unfold basL flxsOf
 rw [List.map_map]
 rfl
theorem along_le {l : List Bx} (hv : Valid l) (row : Bool) {k : Nat} (hk : k < l.length) : 0 ≤ along row l k ∧ along row l k ≤ cw l k := by
 have h1 := nat_small hv _ k (Nat.le_refl _) hk
 have h2 := natS_pos hv hk
 unfold along
 split <;> omega
theorem bas_4000 {l : List Bx} (hv : Valid l) (row : Bool) {p : Nat} (hp : p < l.length) : isum ((kid l (p : Int)).map (along row l)) ≤ 4000 := by
 have h1 := isum_map_le (f := along row l) (g := cw l) (kid l (p : Int)) fun q hq => (along_le hv row (mem_kid_iff.1 hq).1).2
 have h2 := cw_total hv hp
 have h3 := cw_4000 hv p
 unfold cw at h3
 omega
theorem szs_length {l : List Bx} (hv : Valid l) (row : Bool) (p : Nat) (space : Int) : (szs row l p space).length = (kid l (p : Int)).length := by
 unfold szs
 rw [flex_len (flxs_ok hv row p), flxs_length]
theorem szs_mem {l : List Bx} (hv : Valid l) (row : Bool) (p : Nat) (space : Int) : ∀ x, x ∈ szs row l p space → 0 ≤ x ∧ x ≤ 10000 := flex_mem (flxs_ok hv row p) _
theorem szs_sum {l : List Bx} (hv : Valid l) (row : Bool) (p : Nat) (space : Int) : isum (szs row l p space) ≤ max (spc l p space) (isum ((kid l (p : Int)).map (along row l))) := by
 have := flex_sum (flxs_ok hv row p) (spc l p space)
 rw [basL_flxs] at this
 exact this
theorem gap_le {l : List Bx} (hv : Valid l) {p : Nat} (hp : p < l.length) {n : Int} (h0 : 0 ≤ n) (h8 : n ≤ 8) : 0 ≤ (bx l p).gap * n ∧ (bx l p).gap * n ≤ 400 := by
 have hb := okB_bounds (hv.ok p hp)
 refine ⟨Int.mul_nonneg (by omega) h0, ?_⟩
 have h1 : (bx l p).gap * n ≤ 50 * n := Int.mul_le_mul_of_nonneg_right (by omega) h0
 omega
theorem spc_le {l : List Bx} (hv : Valid l) {p : Nat} (hp : p < l.length) (hn : 0 < (kid l (p : Int)).length) {space : Int} (h0 : 0 ≤ space) : 0 ≤ spc l p space ∧ spc l p space ≤ space := by
 have hk := (hv.kids p hp).1
 have := gap_le hv hp (n := ((kid l (p : Int)).length : Int) - 1) (by omega) (by omega)
 unfold spc
 omega
theorem offK_le {l : List Bx} (hv : Valid l) (row : Bool) {p j : Nat} {space x : Int} (hp : p < l.length) (hs : 0 ≤ space ∧ space ≤ 10000) (hj : (szs row l p space)[j]? = some x) :
 0 ≤ offK row l p space j ∧ offK row l p space j + x ≤ 10400 := by
 have hjl := (List.getElem?_eq_some_iff.1 hj).1
 have hb := okB_bounds (hv.ok p hp)
 rw [szs_length hv] at hjl
 have h1 := off_bounds (space := space) (gap := (bx l p).gap) (bx l p).justify (fun y hy => (szs_mem hv row p space y hy).1) (by omega) hj
 have hk := (hv.kids p hp).1
 have h2 := gap_le hv hp (n := ((kid l (p : Int)).length : Int) - 1) (by omega) (by omega)
 have h3 := szs_sum hv row p space
 have h4 := spc_le hv hp (by omega) hs.1
 have h5 := bas_4000 hv row hp
 rw [szs_length hv] at h1
 unfold offK
 omega
theorem blkO_succ {l : List Bx} {p j k : Nat} (hk : (kid l (p : Int))[j]? = some k) : blkO l p (j + 1) = blkO l p j + (natS l k).2 + (bx l p).gap := by
 have e : (((kid l (p : Int)).map fun k => (natS l k).2))[j]? = some (natS l k).2 := by rw [List.getElem?_map, hk]; rfl
 have e2 := isum_take e
 rw [← List.map_take, ← List.map_take] at e2
 unfold blkO
 rw [e2]
 push_cast
 rw [Int.mul_add]
 omega
theorem blkO_le {l : List Bx} (hv : Valid l) {p j : Nat} (hp : p < l.length) (hj : j ≤ (kid l (p : Int)).length) : 0 ≤ blkO l p j ∧ blkO l p j ≤ 4400 := by
 have hk := (hv.kids p hp).1
 have h1 := gap_le hv hp (n := (j : Int)) (by omega) (by omega)
 have h2 := bas_4000 hv false hp
 have h3 := isum_take_le (l := (kid l (p : Int)).map (along false l)) (fun x hx => by
  obtain ⟨k, hk, rfl⟩ := List.mem_map.1 hx
  exact (along_le hv false (mem_kid_iff.1 hk).1).1) j
 rw [← List.map_take] at h3
 have e : (fun k => (natS l k).2) = along false l := rfl
 unfold blkO
 rw [e]
 omega
theorem inset_ok {r : Rc} {e : Int} (he : 0 ≤ e ∧ e ≤ 50) (hw : 0 ≤ r.w ∧ r.w ≤ 10000) (hh : 0 ≤ r.h ∧ r.h ≤ 10000) :
 r.x ≤ (insetR r e).x ∧ (insetR r e).x ≤ r.x + 50 ∧ r.y ≤ (insetR r e).y ∧ (insetR r e).y ≤ r.y + 50 ∧ 0 ≤ (insetR r e).w ∧ (insetR r e).w ≤ 10000 ∧ 0 ≤ (insetR r e).h ∧ (insetR r e).h ≤ 10000 := by
 unfold insetR
 dsimp only
 omega
/-- a rectangle of a box that is not far -/
def RB (d : Int) (r : Rc) : Prop := 0 ≤ r.x ∧ r.x ≤ d ∧ 0 ≤ r.y ∧ r.y ≤ d ∧ 0 ≤ r.w ∧ r.w ≤ 10000 ∧ 0 ≤ r.h ∧ r.h ≤ 10000
theorem szs_get {l : List Bx} (hv : Valid l) (row : Bool) {p j k : Nat} (space : Int) (hk : (kid l (p : Int))[j]? = some k) : (szs row l p space)[j]? = some ((szs row l p space).getD j 0) := by
 have h := (List.getElem?_eq_some_iff.1 hk).1
 rw [← szs_length hv row p space] at h
 rw [List.getD_eq_getElem?_getD, List.getElem?_eq_getElem h]
 rfl
theorem place_RB {l : List Bx} (hv : Valid l) {p j k : Nat} {d : Int} {r : Rc} (hp : p < l.length) (hr : RB d r) (hk : (kid l (p : Int))[j]? = some k) : RB (d + 20000) (placeR l p j r k) := by
 obtain ⟨r1, r2, r3, r4, r5, r6, r7, r8⟩ := hr
 have hb := okB_bounds (hv.ok p hp)
 obtain ⟨i1, i2, i3, i4, i5, i6, i7, i8⟩ := inset_ok (r := r) (e := (bx l p).pad) (by omega) (by omega) (by omega)
 unfold placeR
 generalize insetR r (bx l p).pad = q at *
 split
 ·have hs := szs_get hv true q.w hk
  have h1 := offK_le hv true hp ⟨i5, i6⟩ hs
  have h2 := szs_mem hv true p q.w _ (List.mem_of_getElem? hs)
  unfold RB
  dsimp only
  omega
 ·split
  ·have hs := szs_get hv false q.h hk
   have h1 := offK_le hv false hp ⟨i7, i8⟩ hs
   have h2 := szs_mem hv false p q.h _ (List.mem_of_getElem? hs)
   unfold RB
   dsimp only
   omega
  ·have h1 := blkO_le hv hp (j := j) (Nat.le_of_lt (List.getElem?_eq_some_iff.1 hk).1)
   have h2 := nat_4000 hv (mem_kid_iff.1 (List.mem_of_getElem? hk)).1
   unfold RB
   dsimp only
   omega
theorem rect_RB {l : List Bx} (hv : Valid l) {w h : Int} (hw : 0 ≤ w ∧ w ≤ 10000) (hh : 0 ≤ h ∧ h ≤ 10000) : ∀ (d k : Nat), k ≤ d → k < l.length → RB (20000 * (((anc l k).length : Int) - 1)) (rect l w h k)
 | 0, k, hk, hl => by
  obtain rfl : k = 0 := by omega
  rw [rect_root hv, anc_root (hv.down hl) (by have := hv.root; omega)]
  unfold RB
  simp only [List.length_singleton]
  omega
 | d + 1, k, hk, hl => by
  by_cases h0 : k = 0
  ·exact rect_RB hv hw hh d k (by omega) hl
  ·have hp := hv.par k (by omega) hl
   obtain ⟨p, hpp⟩ : ∃ p : Nat, par l k = p := ⟨(par l k).toNat, by omega⟩
   have hk2 := posK_get hl
   rw [hpp] at hk2
   have ih := rect_RB hv hw hh d p (by omega) (by omega)
   have := place_RB hv (by omega) ih hk2
   rw [rect_kid hv hk2, anc_up (hv.down hl) hpp, List.length_cons]
   have e : 20000 * ((((anc l p).length + 1 : Nat) : Int) - 1) = 20000 * (((anc l p).length : Int) - 1) + 20000 := by push_cast; omega
   rw [e]
   exact this
theorem RB.mono {d e : Int} {r : Rc} (h : RB d r) (hd : d ≤ e) : RB e r := by
 unfold RB at *
 omega
theorem rect_ok {l : List Bx} (hv : Valid l) {w h : Int} (hw : 0 ≤ w ∧ w ≤ 10000) (hh : 0 ≤ h ∧ h ≤ 10000) {k : Nat} (hk : k < l.length) : RB 100000 (rect l w h k) :=
 (rect_RB hv hw hh k k (Nat.le_refl _) hk).mono (by have := hv.depth k hk; omega)
/-- the rectangles of all boxes -/
def rectL (l : List Bx) (w h : Int) : List Rc := (List.range l.length).map (rect l w h)
theorem rectL_length (l : List Bx) (w h : Int) : (rectL l w h).length = l.length := by simp [rectL]
theorem rectL_get {l : List Bx} {w h : Int} {i : Nat} (hi : i < l.length) : (rectL l w h)[i]? = some (rect l w h i) := by simp [rectL, hi]
theorem rectL_of {l : List Bx} {w h : Int} {R : List Rc} (hl : R.length = l.length) (hR : ∀ i, i < l.length → R[i]? = some (rect l w h i)) : R = rectL l w h := by
 apply List.ext_getElem?
 intro i
 by_cases hi : i < l.length
 ·rw [hR i hi, rectL_get hi]
 ·rw [List.getElem?_eq_none (by omega), List.getElem?_eq_none (by rw [rectL_length]; omega)]
/-- a valid tree and a screen -/
def scrB (l : List Bx) (sw sh : Int) : Bool := vldB l && (inR sw 0 10000 && inR sh 0 10000)
theorem scrB_iff {l : List Bx} {sw sh : Int} : scrB l sw sh = true ↔ Valid l ∧ (0 ≤ sw ∧ sw ≤ 10000) ∧ (0 ≤ sh ∧ sh ≤ 10000) := by
 unfold scrB
 rw [Bool.and_eq_true, Bool.and_eq_true, vldB_iff, inR_iff, inR_iff]
def rectsOr (l : List Bx) (sw sh : Int) : List Rc := if scrB l sw sh then rectL l sw sh else []
theorem rectsOr_t {l : List Bx} {sw sh : Int} (h : scrB l sw sh = true) : rectsOr l sw sh = rectL l sw sh := by
 unfold rectsOr
 rw [if_pos h]
theorem rectsOr_f {l : List Bx} {sw sh : Int} (h : scrB l sw sh = false) : rectsOr l sw sh = [] := by
 unfold rectsOr
 rw [h]
 rfl
def roB (l : List Bx) (sw sh i : Int) : Bool := scrB l sw sh && inR i 0 ((l.length : Int) - 1)
def roR (l : List Bx) (sw sh i : Int) : Rc := if roB l sw sh i then rect l sw sh i.toNat else zr
set_option maxHeartbeats 1000000 in
theorem screenOk_any {v : Value} {l : List Bx} (sw sh : Int) (w : World) (hv : Rd w 9 v (Bs l)) :
 Calls Tryz.prog 89 #[v, .int .i64 sw, .int .i64 sh] w fun e w' => e = .returned (.bool (scrB l sw sh)) ∧ Ext w w' := by
 have hrd := hv
 obtain ⟨a, c, rfl, hn, hc, _⟩ := hv.boxes
 unfold maxLen at hc
 go_enter Tryz.func89, Tryz.ntmps89
 cases h : vldB l with
 | true =>
  go_wp2_with (fail)
  refine (ValidTree_any (l := l) _ hrd).mono ?_
  rintro e w1 ⟨he, hx⟩
  rw [h] at he
  subst he
  go_wp2_with (fail)
  refine (within_any _ _ _ _).mono ?_
  rintro e w2 ⟨he, rfl⟩
  cases h1 : inR sw 0 10000 with
  | true =>
   rw [h1] at he
   subst he
   go_wp2_with (fail)
   refine (within_any _ _ _ _).mono ?_
   rintro e w3 ⟨rfl, rfl⟩
   go_wp2
   go_ret
   exact ⟨by unfold scrB; rw [h, h1]; rfl, hx⟩
  | false =>
   rw [h1] at he
   subst he
   go_wp2
   go_ret
   exact ⟨by unfold scrB; rw [h, h1]; rfl, hx⟩
 | false =>
  go_wp2_with (fail)
  refine (ValidTree_any (l := l) _ hrd).mono ?_
  rintro e w1 ⟨he, hx⟩
  rw [h] at he
  subst he
  go_wp2
  go_ret
  exact ⟨by unfold scrB; rw [h]; rfl, hx⟩
/-! ### heights do not depend on the width -/
/-! ### a box placed with all in it -/
theorem anc_kid {l : List Bx} (hv : Valid l) {p : Nat} : ∀ (d i : Nat), i ≤ d → i < l.length → p ∈ anc l i → i ≠ p → ∃ k, k ∈ kid l (p : Int) ∧ k ∈ anc l i
 | 0, i, hd, hi, hm, hne => by
  obtain rfl : i = 0 := by omega
  have := anc_le 0 (hv.down hi) p hm
  omega
 | d + 1, i, hd, hi, hm, hne => by
  obtain ⟨h0, hm2⟩ := anc_par (hv.down hi) hm (fun e => hne e.symm)
  have hlt := (hv.down hi) i (Nat.le_refl _)
  by_cases hq : (par l i).toNat = p
  ·exact ⟨i, mem_kid_iff.2 ⟨hi, by omega⟩, anc_self (hv.down hi)⟩
  ·obtain ⟨k, hk, hk2⟩ := anc_kid hv d (par l i).toNat (by omega) (by omega) hm2 hq
   exact ⟨k, hk, anc_step (hv.down hi) h0 hk2⟩
def PlA (l : List Bx) (sw sh : Int) (p : Nat) (R R' : List Rc) : Prop :=
 R'.length = l.length ∧ (∀ i, i < l.length → p ∉ anc l i → R'[i]? = R[i]?) ∧ ∀ i, i < l.length → p ∈ anc l i → R'[i]? = some (rect l sw sh i)
def PlT (l : List Bx) (sw sh : Int) (p j : Nat) (R R' : List Rc) : Prop :=
 R'.length = l.length ∧ (∀ i, i < l.length → p ∉ anc l i → R'[i]? = R[i]?) ∧ R'[p]? = some (rect l sw sh p) ∧ ∀ t k, t < j → (kid l (p : Int))[t]? = some k → ∀ i, i < l.length → k ∈ anc l i → R'[i]? = some (rect l sw sh i)
theorem plT_zero {l : List Bx} (hv : Valid l) {sw sh : Int} {p : Nat} {R : List Rc} (hp : p < l.length) (hR : R.length = l.length) : PlT l sw sh p 0 R (R.set p (rect l sw sh p)) := by
 refine ⟨by simpa using hR, fun i hi hm => ?_, ?_, fun t k ht => by omega⟩
 ·rw [List.getElem?_set_ne]
  intro e
  subst e
  exact hm (anc_self (hv.down hp))
 ·rw [List.getElem?_set_self (by omega)]
theorem kid_up {l : List Bx} (hv : Valid l) {p k : Nat} (hk : k ∈ kid l (p : Int)) : p ∈ anc l k := by
 obtain ⟨h1, h2⟩ := mem_kid_iff.1 hk
 have := (hv.down h1) k (Nat.le_refl _)
 exact anc_step (hv.down h1) (by omega) (by rw [h2, Int.toNat_natCast]; exact anc_self (hv.down (by omega)))
theorem plT_step {l : List Bx} (hv : Valid l) {sw sh : Int} {p j k : Nat} {R R' R'' : List Rc} (hT : PlT l sw sh p j R R') (hk : (kid l (p : Int))[j]? = some k) (hA : PlA l sw sh k R' R'') : PlT l sw sh p (j + 1) R R'' := by
 obtain ⟨t1, t2, t3, t4⟩ := hT
 obtain ⟨a1, a2, a3⟩ := hA
 have hkm := List.mem_of_getElem? hk
 obtain ⟨h1, h2⟩ := mem_kid_iff.1 hkm
 have hup := kid_up hv hkm
 have hlt := (hv.down h1) k (Nat.le_refl _)
 refine ⟨a1, fun i hi hm => ?_, ?_, fun t q ht hq i hi hm => ?_⟩
 ·rw [a2 i hi (fun h => hm (anc_trans i (hv.down hi) h hup)), t2 i hi hm]
 ·rw [a2 p (by omega) (fun h => by
   have := anc_le p (hv.down (by omega)) k h
   omega), t3]
 ·by_cases hki : k ∈ anc l i
  ·exact a3 i hi hki
  ·have htj : t ≠ j := fun e => by
    subst e
    rw [hk] at hq
    cases hq
    exact hki hm
   rw [a2 i hi hki]
   exact t4 t q (by omega) hq i hi hm
theorem plT_end {l : List Bx} (hv : Valid l) {sw sh : Int} {p : Nat} {R R' : List Rc} (hT : PlT l sw sh p (kid l (p : Int)).length R R') : PlA l sw sh p R R' := by
 obtain ⟨t1, t2, t3, t4⟩ := hT
 refine ⟨t1, t2, fun i hi hm => ?_⟩
 by_cases h : i = p
 ·subst h
  exact t3
 ·obtain ⟨k, hk, hk2⟩ := anc_kid hv i i (Nat.le_refl _) hi hm h
  obtain ⟨t, ht⟩ := List.getElem?_of_mem hk
  exact t4 t k (List.getElem?_eq_some_iff.1 ht).1 ht i hi hk2
theorem plA_all {l : List Bx} (hv : Valid l) {sw sh : Int} {R R' : List Rc} (hA : PlA l sw sh 0 R R') : R' = rectL l sw sh :=
 rectL_of hA.1 fun i hi => hA.2.2 i hi (anc_zero hv i hi)
/-- the cells of a tree's rectangles -/
structure RC (l : List Bx) (sw sh : Int) (b o : Nat) (w : World) : Prop where
 lt : b < w.heap.size
 cs : ∀ k, k < l.length → Cells4 w b (o + k * 4) (rect l sw sh k)
theorem RC.below {l : List Bx} {sw sh : Int} {b o B : Nat} {w w' : World} (h : RC l sw sh b o w) (hx : Below B w w') (hB : w.heap.size ≤ B) : RC l sw sh b o w' :=
 ⟨Nat.lt_of_lt_of_le h.lt hx.size, fun k hk => (h.cs k hk).below hx (Nat.lt_of_lt_of_le h.lt hB)⟩
theorem RC.alloc {l : List Bx} {sw sh : Int} {b o : Nat} {w : World} (h : RC l sw sh b o w) (x : Obj) : RC l sw sh b o (w.alloc x) := h.below (Below.of_alloc w x) (Nat.le_refl _)
theorem rectC {l : List Bx} {sw sh : Int} {w : World} {a : Option Addr} {n c : Nat} (h : Rd w 4 (.slice a n c) (Rs (rectL l sw sh))) (hl : 0 < l.length) : ∃ b o, a = some ⟨b, o, none⟩ ∧ RC l sw sh b o w := by
 obtain ⟨a', c', e, _, _, hk⟩ := h.rects
 cases e
 obtain ⟨b, o, rfl, hb, hc⟩ := hk 0 _ (rectL_get hl)
 exact ⟨b, o, rfl, hb, fun k hk => hc k _ (rectL_get hk)⟩
theorem rectS {l : List Bx} {sw sh : Int} {w : World} {v : Value} (h : Rd w 4 v (Rs (rectL l sw sh))) (hl : 0 < l.length) : ∃ b o c, v = .slice (some ⟨b, o, none⟩) l.length c ∧ l.length ≤ c ∧ c ≤ 9223372036854775807 ∧ RC l sw sh b o w := by
 obtain ⟨a, c, rfl, hn, hc, _⟩ := h.rects
 unfold maxLen at hc
 rw [rectL_length] at hn h ⊢
 obtain ⟨b, o, rfl, hr⟩ := rectC h hl
 exact ⟨b, o, c, rfl, hn, hc, hr⟩
/-! ### points -/
def hasB (r : Rc) (x y : Int) : Bool := decide (r.x ≤ x) && (decide (x < r.x + r.w) && (decide (r.y ≤ y) && decide (y < r.y + r.h)))
/-- a box is at a point -/
def hitB (l : List Bx) (sw sh x y : Int) (i : Nat) : Bool := (anc l i).all fun p => hasB (rect l sw sh p) x y
/-- the greatest of the first n boxes at a point, -1 for none -/
def hitTo (l : List Bx) (sw sh x y : Int) : Nat → Int
 | 0 => -1
 | n + 1 => if hitB l sw sh x y n then (n : Int) else hitTo l sw sh x y n
def hitI (l : List Bx) (sw sh x y : Int) : Int := if scrB l sw sh then hitTo l sw sh x y l.length else -1
theorem hitTo_ge (l : List Bx) (sw sh x y : Int) : ∀ n, -1 ≤ hitTo l sw sh x y n ∧ hitTo l sw sh x y n < n
 | 0 => by simp [hitTo]
 | n + 1 => by
  have := hitTo_ge l sw sh x y n
  unfold hitTo
  split <;> omega
theorem hitB_iff {l : List Bx} {sw sh x y : Int} {i : Nat} : hitB l sw sh x y i = true ↔ ∀ p, p ∈ anc l i → hasB (rect l sw sh p) x y = true := by
 unfold hitB
 rw [List.all_eq_true]
/-! ### dirty boxes -/
theorem Own.oneAt {w : World} {g base size : Nat} (cs : Array Value) (e : TypeId) (hg : g = w.heap.size) (hb : base ≤ w.heap.size) (hs : cs.size = size) : Own (w.alloc (.cells cs e)) base size (.slice (some ⟨g, 0, none⟩) 1 1) cs.toList := by
 subst hg
 have := Own.made w cs e base size 1 1 hb (Nat.le_refl _) (by decide) (by omega)
 rwa [List.take_of_length_le (by simp; omega)] at this
theorem Bs_set1 {l : List Bx} {i f : Nat} {u : Value} {y : Bx} (hi : i < l.length) (hf : f < 9) (hy : y.vals = (bx l i).vals.set f u) : Bs (l.set i y) = (Bs l).set (i * 9 + f) u := by
 apply List.ext_getElem?
 intro q
 have hl := Bs_length l
 by_cases hq : q < l.length * 9
 ·obtain ⟨k, hk⟩ : ∃ k, k = q / 9 := ⟨_, rfl⟩
  obtain ⟨j, hj⟩ : ∃ j, j = q % 9 := ⟨_, rfl⟩
  have hqe : q = k * 9 + j := by omega
  have hj9 : j < 9 := by omega
  have hkl : k < l.length := by omega
  clear hk hj
  subst hqe
  rw [List.getElem?_set]
  by_cases hki : k = i
  ·subst hki
   rw [Bs_get (b := y) (by simp [hkl]) hj9, hy, List.getElem?_set]
   by_cases hjf : f = j
   ·subst hjf
    rw [if_pos rfl, if_pos rfl, if_pos (by rw [Bx.vals_length]; omega), if_pos (by omega)]
   ·rw [if_neg hjf, if_neg (by omega), Bs_get (bx_get hkl) hj9]
  ·rw [if_neg (by omega), Bs_get (b := bx l k) (by rw [List.getElem?_set_ne (by omega)]; exact bx_get hkl) hj9, Bs_get (bx_get hkl) hj9]
 ·rw [List.getElem?_eq_none (by rw [Bs_length, List.length_set]; omega), List.getElem?_eq_none (by simp only [List.length_set, hl]; omega)]
theorem Own.set1 {w : World} {base : Nat} {v : Value} {l : List Bx} (h : Own w base 9 v (Bs l)) {b off n c : Nat} (hv : v = .slice (some ⟨b, off, none⟩) n c) {i f : Nat} (hi : i < l.length) (hf : f < 9) {u : Value} {y : Bx} (hy : y.vals = (bx l i).vals.set f u) :
 Own (w.setCell ⟨b, off + i * 9 + f, none⟩ u) base 9 v (Bs (l.set i y)) := by
 rw [Nat.add_assoc]
 have hl := Bs_length l
 obtain ⟨b', off', n', c', e, _, _, _, _, _, _, hset⟩ := h.cells (by intro e; rw [e] at hl; simp at hl; omega)
 rw [hv] at e
 cases e
 rw [Bs_set1 hi hf hy]
 exact hset _ u (by omega)
theorem Own.cellF {w : World} {base b off n c : Nat} {l : List Bx} (h : Own w base 9 (.slice (some ⟨b, off, none⟩) n c) (Bs l)) {i : Nat} (hi : i < l.length) :
 Cells9 w b (off + i * 9) (bx l i) ∧ (∀ j, w.frozen? ⟨b, off + i * 9 + j, none⟩ = false) := by
 have hl := Bs_length l
 obtain ⟨b', off', n', c', e, _, _, _, _, _, hfz, _⟩ := h.cells (by intro e; rw [e] at hl; simp at hl; omega)
 cases e
 obtain ⟨a2, c2, e, _, _, hC⟩ := h.rd.boxes
 cases e
 obtain ⟨b3, off3, e, _, hC⟩ := hC i _ (bx_get hi)
 cases e
 exact ⟨hC i _ (bx_get hi), fun j => by rw [Nat.add_assoc]; exact hfz _⟩
theorem Own.tail {w : World} {base b off n c : Nat} {x : Bx} {l : List Bx} (h : Own w base 9 (.slice (some ⟨b, off, none⟩) (n + 1) (c + 1)) (Bs (x :: l))) : Own w base 9 (.slice (some ⟨b, off + 9, none⟩) n c) (Bs l) := by
 obtain ⟨a', n', c', e, hl, hn, hc, h⟩ := h
 cases e
 refine ⟨_, n, c, rfl, ?_, by omega, by omega, ?_⟩
 ·rw [Bs_length] at hl ⊢
  simp at hl
  omega
 ·rcases h with h | ⟨g, off', cur, e, e', hg, hh, hs, ht⟩
  ·omega
  ·cases e'
   refine .inr ⟨_, _, cur, e, rfl, hg, hh, by omega, ?_⟩
   have := congrArg (List.drop 9) ht
   rw [Bs_cons, List.drop_left' (Bx.vals_length x), List.drop_take, List.drop_drop] at this
   rw [← this]
   congr 1
   omega
set_option maxHeartbeats 1000000 in
theorem around_any {v : Value} {l : List Bx} {a i : Int} (w : World) (ha : 0 ≤ a) (h0 : 0 ≤ i) (hi : i < l.length) (hv : Rd w 9 v (Bs l)) (hd : Down l i.toNat) (hl : l.length ≤ 1048577) :
 Calls Tryz.prog 75 #[v, .int .i64 a, .int .i64 i] w fun e w' => e = .returned (.bool (arB l a.toNat i.toNat)) ∧ Ext w w' := by
 have hf : Hid (decide (a ∈ ni (anc l i.toNat).reverse) = arB l a.toNat i.toNat) := by
  show _ = _
  unfold arB
  rw [decide_eq_decide]
  obtain ⟨k, rfl⟩ := Int.eq_ofNat_of_zero_le ha
  rw [mem_ni_nat, List.mem_reverse, Int.toNat_natCast]
 go_enter Tryz.func75, Tryz.ntmps75
 go_wp2_with (fail)
 refine (path_int (l := l) (i := i) _ h0 hi hv hd hl).mono ?_
 rintro e w1 ⟨v1, rfl, ho, hx⟩
 go_wp2_with (fail)
 refine (Contains_any (l := ni (anc l i.toNat).reverse) a _ ho.rd).mono ?_
 rintro e w2 ⟨rfl, rfl⟩
 rw [hf.out]
 go_wp2
 go_ret
 exact ⟨rfl, hx⟩
def cntTo (l : List Bx) (a n : Nat) : Nat := ((List.range n).filter fun i => arB l a i).length
theorem cntTo_succ (l : List Bx) (a n : Nat) : cntTo l a (n + 1) = cntTo l a n + (if arB l a n then 1 else 0) := by
 unfold cntTo
 rw [List.range_succ, List.filter_append, List.length_append]
 by_cases h : arB l a n = true <;> simp [h]
theorem cntTo_le (l : List Bx) (a n : Nat) : cntTo l a n ≤ n := by
 have := List.length_filter_le (fun i => arB l a i) (List.range n)
 rw [List.length_range] at this
 exact this
set_option maxHeartbeats 1000000 in
theorem count_any {v : Value} {l : List Bx} {a : Int} (hv : Valid l) (w : World) (ha : 0 ≤ a) (hal : a < l.length) (hr : Rd w 9 v (Bs l)) :
 Calls Tryz.prog 51 #[v, .int .i64 a] w fun e w' => e = .returned (.int .i64 (cntS l a.toNat : Nat)) ∧ Ext w w' := by
 have hrd := hr
 obtain ⟨ad, c, rfl, hn, hc, _⟩ := hr.boxes
 unfold maxLen at hc
 have Hv := Lib.hid hv
 have Hl := Lib.hid hv.hi
 have hfin : Hid (cntTo l a.toNat l.length = cntS l a.toNat) := cnt_eq hv (by omega)
 clear hr hv
 go_enter Tryz.func51, Tryz.ntmps51
 go_wp2
 go_loopw [5, 9] (fun n i wr => ∃ k : Nat, i = .int .i64 k ∧ k ≤ l.length ∧ n = .int .i64 (cntTo l a.toNat k : Nat) ∧ Below w.heap.size w wr) (fun _ i _ => l.length - (intOf i).toNat)
 case atStart => exact ⟨0, rfl, Nat.zero_le _, rfl, Below.refl _ _⟩
 case round =>
  obtain ⟨k, rfl, hk, rfl, hb⟩ := hrel
  have hle := cntTo_le l a.toNat k
  have Hs := Lib.hid (cntTo_succ l a.toNat k)
  by_cases hlt : k < l.length
  ·have hlti : (k : Int) < l.length := by omega
   have hll := Hl.out
   by_cases har : arB l a.toNat k = true
   ·go_wp2_with (fail)
    refine (around_any (l := l) (a := a) (i := (k : Int)) _ ha (by omega) (by omega) (hrd.below hb (Nat.le_refl _)) (by rw [Int.toNat_natCast]; exact Hv.out.down hlt) (by omega)).mono ?_
    rintro e w2 ⟨he, hx⟩
    rw [Int.toNat_natCast, har] at he
    subst he
    have H2 := Lib.hid har
    clear har
    go_wp2
    go_roundw
    case rel => exact ⟨k + 1, by go_num, by omega, by rw [Hs.out, H2.out]; go_num, after hb hx (Nat.le_refl _)⟩
    case measure => simp [intOf]; omega
   ·have har' : arB l a.toNat k = false := by simpa using har
    clear har
    go_wp2_with (fail)
    refine (around_any (l := l) (a := a) (i := (k : Int)) _ ha (by omega) (by omega) (hrd.below hb (Nat.le_refl _)) (by rw [Int.toNat_natCast]; exact Hv.out.down hlt) (by omega)).mono ?_
    rintro e w2 ⟨he, hx⟩
    rw [Int.toNat_natCast, har'] at he
    subst he
    have H2 := Lib.hid har'
    clear har'
    go_wp2
    go_roundw
    case rel => exact ⟨k + 1, by go_num, by omega, by rw [Hs.out, H2.out]; rfl, after hb hx (Nat.le_refl _)⟩
    case measure => simp [intOf]; omega
  ·obtain rfl : k = l.length := by omega
   go_wp2
   go_ret
   exact ⟨by rw [hfin.out]; rfl, hb⟩
theorem Rd.sub {w : World} {b off n c : Nat} {l : List Bx} (h : Rd w 9 (.slice (some ⟨b, off, none⟩) n c) (Bs l)) {i m : Nat} (hm : i + m ≤ l.length) :
 Rd w 9 (.slice (some ⟨b, off + i * 9, none⟩) m (c - i)) (Bs ((l.drop i).take m)) := by
 obtain ⟨a', n', c', e, hl, hn, hc, hx⟩ := h
 cases e
 rw [Bs_length] at hl
 refine ⟨_, m, c - i, rfl, by rw [Bs_length, List.length_take, List.length_drop, Nat.min_eq_left (by omega)], by omega, by omega, ?_⟩
 rcases hx with hx | ⟨b', off', e', hx⟩
 ·left
  have := congrArg List.length hx
  rw [Bs_length, List.length_nil] at this
  have h2 : m = 0 := by omega
  subst h2
  simp [Bs]
 ·cases e'
  right
  refine ⟨b, off + i * 9, rfl, fun j y hj => ?_⟩
  have e1 : Bs l = Bs (l.take i) ++ Bs (l.drop i) := by rw [← Bs_append, List.take_append_drop]
  have e2 : Bs (l.drop i) = Bs ((l.drop i).take m) ++ Bs ((l.drop i).drop m) := by rw [← Bs_append, List.take_append_drop]
  have hl1 : (Bs (l.take i)).length = i * 9 := by rw [Bs_length, List.length_take, Nat.min_eq_left (by omega)]
  have := hx (i * 9 + j) y (by
   rw [e1, List.getElem?_append_right (by omega), hl1, Nat.add_sub_cancel_left, e2, List.getElem?_append_left (List.getElem?_eq_some_iff.1 hj).1]
   exact hj)
  rw [← Nat.add_assoc] at this
  exact this
theorem orNo_t (l : List Bx) : orNo true l = l := rfl
theorem Keep.c9 {k : Nat} {x : Bx} {e : TypeId} {w : World} (h : Keep k (.cells x.arr e) w) : w.cell? ⟨k, 0, none⟩ = some (.int .i64 x.parent) ∧ w.cell? ⟨k, 1, none⟩ = some (.int .i64 x.kind) ∧ w.cell? ⟨k, 2, none⟩ = some (.int .i64 x.w) ∧ w.cell? ⟨k, 3, none⟩ = some (.int .i64 x.h) ∧ w.cell? ⟨k, 4, none⟩ = some (.int .i64 x.pad) ∧ w.cell? ⟨k, 5, none⟩ = some (.int .i64 x.gap) ∧ w.cell? ⟨k, 6, none⟩ = some (.int .i64 x.grow) ∧ w.cell? ⟨k, 7, none⟩ = some (.int .i64 x.shrink) ∧ w.cell? ⟨k, 8, none⟩ = some (.int .i64 x.justify) :=
 ⟨h.cell 0, h.cell 1, h.cell 2, h.cell 3, h.cell 4, h.cell 5, h.cell 6, h.cell 7, h.cell 8⟩
/-- numbers that are not large -/
structure RS (r : Rc) : Prop where
 x : -1000000 ≤ r.x ∧ r.x ≤ 1000000
 y : -1000000 ≤ r.y ∧ r.y ≤ 1000000
 w : 0 ≤ r.w ∧ r.w ≤ 1000000
 h : 0 ≤ r.h ∧ r.h ≤ 1000000
theorem below_set4 {B : Nat} {w0 w : World} {g o1 o2 o3 o4 : Nat} (h : Below B w0 w) (hg : B ≤ g) (a b c d : Value) : Below B w0 ((((w.setCell ⟨g, o1, none⟩ a).setCell ⟨g, o2, none⟩ b).setCell ⟨g, o3, none⟩ c).setCell ⟨g, o4, none⟩ d) :=
 (((h.setCell (p := ⟨g, o1, none⟩) hg _).setCell (p := ⟨g, o2, none⟩) hg _).setCell (p := ⟨g, o3, none⟩) hg _).setCell (p := ⟨g, o4, none⟩) hg _
theorem ext_two (w : World) (o1 o2 : Obj) : Ext w ((w.alloc o1).alloc o2) := (Below.of_alloc w o1).alloc (by simp) o2
set_option maxRecDepth 100000 in
set_option maxHeartbeats 2000000 in
theorem inset_any {r : Rc} {e : Int} (w : World) (hr : RS r) (he : 0 ≤ e ∧ e ≤ 50) :
 Calls Tryz.prog 152 #[r.agg, .int .i64 e] w fun x w' => x = .returned (insetR r e).agg ∧ Ext w w' := by
 obtain ⟨x, y, rw_, rh⟩ := r
 obtain ⟨h1, h2, h3, h4⟩ := hr
 dsimp only at h1 h2 h3 h4
 unfold Rc.agg
 have hb0 := Below.of_alloc w (.cells #[.int .i64 x, .int .i64 y, .int .i64 rw_, .int .i64 rh] 96)
 have hb1 := hb0.alloc (by simp) (.cells #[.int .i64 0, .int .i64 0, .int .i64 0, .int .i64 0] 96)
 have k1 : Keep (w.heap.size + 1) (.cells #[.int .i64 0, .int .i64 0, .int .i64 0, .int .i64 0] 96) ((w.alloc (.cells #[.int .i64 x, .int .i64 y, .int .i64 rw_, .int .i64 rh] 96)).alloc (.cells #[.int .i64 0, .int .i64 0, .int .i64 0, .int .i64 0] 96)) := by
  have := Keep.new (w.alloc (.cells #[.int .i64 x, .int .i64 y, .int .i64 rw_, .int .i64 rh] 96)) (.cells #[.int .i64 0, .int .i64 0, .int .i64 0, .int .i64 0] 96)
  rw [World.size_alloc] at this
  exact this
 have k0 : Keep w.heap.size (.cells #[.int .i64 x, .int .i64 y, .int .i64 rw_, .int .i64 rh] 96) ((w.alloc (.cells #[.int .i64 x, .int .i64 y, .int .i64 rw_, .int .i64 rh] 96)).alloc (.cells #[.int .i64 0, .int .i64 0, .int .i64 0, .int .i64 0] 96)) := (Keep.new _ _).alloc _
 have hq1 : rw_.tdiv 2 = rw_ / 2 := Int.tdiv_eq_ediv_of_nonneg (by omega)
 have hq2 : rh.tdiv 2 = rh / 2 := Int.tdiv_eq_ediv_of_nonneg (by omega)
 go_enter Tryz.func152, Tryz.ntmps152
 go_wp2_with (fail)
 generalize ((w.alloc (.cells #[.int .i64 x, .int .i64 y, .int .i64 rw_, .int .i64 rh] 96)).alloc (.cells #[.int .i64 0, .int .i64 0, .int .i64 0, .int .i64 0] 96)) = W at *
 have p2 : W.cell? ⟨w.heap.size, 2, none⟩ = some (.int .i64 rw_) := k0.cell 2
 have p3 : W.cell? ⟨w.heap.size, 3, none⟩ = some (.int .i64 rh) := k0.cell 3
 have HB := Lib.hid hb1
 have HK0 := Lib.hid k0
 have HK1 := Lib.hid k1
 clear k0 k1 hb0 hb1
 by_cases c1 : rw_ / 2 < e
 ·have d1 : rw_ - 2 * e < 0 := by omega
  by_cases c2 : rh / 2 < e
  ·have d2 : rh - 2 * e < 0 := by omega
   have HE := Lib.hid (show insetR ⟨x, y, rw_, rh⟩ e = ⟨x + (rw_ / 2), y + (rh / 2), 0, 0⟩ by unfold insetR; simp only [Rc.mk.injEq]; omega)
   go_wp2
   go_quiet (fail)
   have k0 : Keep w.heap.size (.cells #[.int .i64 x, .int .i64 y, .int .i64 rw_, .int .i64 rh] 96) (W.drewN nq) := HK0.out
   have k1 : Keep (w.heap.size + 1) (.cells #[.int .i64 0, .int .i64 0, .int .i64 0, .int .i64 0] 96) (W.drewN nq) := HK1.out
   have hb := below_drewN HB.out nq
   clear HK0 HK1 HB p2 p3
   generalize W.drewN nq = W at *
   have p0 : W.cell? ⟨w.heap.size, 0, none⟩ = some (.int .i64 x) := k0.cell 0
   have p1 : W.cell? ⟨w.heap.size, 1, none⟩ = some (.int .i64 y) := k0.cell 1
   have p2 : W.cell? ⟨w.heap.size, 2, none⟩ = some (.int .i64 rw_) := k0.cell 2
   have p3 : W.cell? ⟨w.heap.size, 3, none⟩ = some (.int .i64 rh) := k0.cell 3
   have q0 : W.cell? ⟨w.heap.size + 1, 0, none⟩ = some (.int .i64 0) := k1.cell 0
   have q1 : W.cell? ⟨w.heap.size + 1, 1, none⟩ = some (.int .i64 0) := k1.cell 1
   have q2 : W.cell? ⟨w.heap.size + 1, 2, none⟩ = some (.int .i64 0) := k1.cell 2
   have q3 : W.cell? ⟨w.heap.size + 1, 3, none⟩ = some (.int .i64 0) := k1.cell 3
   have z0 : W.frozen? ⟨w.heap.size + 1, 0, none⟩ = false := k1.frozen 0
   have z1 : W.frozen? ⟨w.heap.size + 1, 1, none⟩ = false := k1.frozen 1
   have z2 : W.frozen? ⟨w.heap.size + 1, 2, none⟩ = false := k1.frozen 2
   have z3 : W.frozen? ⟨w.heap.size + 1, 3, none⟩ = false := k1.frozen 3
   have hs := k1.lt
   have HB := Lib.hid hb
   clear k0 k1 hb
   go_wp2
   refine bodyPost_ret (v := .agg #[.int .i64 (x + (rw_ / 2)), .int .i64 (y + (rh / 2)), .int .i64 (0), .int .i64 (0)]) ?_ rfl ⟨?_, ?_⟩
   ·simp [results, Tryz.results152, go_sem, q0, q1, q2, q3, hs]
   ·rw [HE.out]
   ·exact (below_set4 HB.out (Nat.le_succ _) _ _ _ _).alloc (by have := HB.out.size; simp [World.setCell]; omega) _
  ·have d2 : ¬ rh - 2 * e < 0 := by omega
   have HE := Lib.hid (show insetR ⟨x, y, rw_, rh⟩ e = ⟨x + (rw_ / 2), y + e, 0, rh - 2 * e⟩ by unfold insetR; simp only [Rc.mk.injEq]; omega)
   go_wp2
   go_quiet (fail)
   have k0 : Keep w.heap.size (.cells #[.int .i64 x, .int .i64 y, .int .i64 rw_, .int .i64 rh] 96) (W.drewN nq) := HK0.out
   have k1 : Keep (w.heap.size + 1) (.cells #[.int .i64 0, .int .i64 0, .int .i64 0, .int .i64 0] 96) (W.drewN nq) := HK1.out
   have hb := below_drewN HB.out nq
   clear HK0 HK1 HB p2 p3
   generalize W.drewN nq = W at *
   have p0 : W.cell? ⟨w.heap.size, 0, none⟩ = some (.int .i64 x) := k0.cell 0
   have p1 : W.cell? ⟨w.heap.size, 1, none⟩ = some (.int .i64 y) := k0.cell 1
   have p2 : W.cell? ⟨w.heap.size, 2, none⟩ = some (.int .i64 rw_) := k0.cell 2
   have p3 : W.cell? ⟨w.heap.size, 3, none⟩ = some (.int .i64 rh) := k0.cell 3
   have q0 : W.cell? ⟨w.heap.size + 1, 0, none⟩ = some (.int .i64 0) := k1.cell 0
   have q1 : W.cell? ⟨w.heap.size + 1, 1, none⟩ = some (.int .i64 0) := k1.cell 1
   have q2 : W.cell? ⟨w.heap.size + 1, 2, none⟩ = some (.int .i64 0) := k1.cell 2
   have q3 : W.cell? ⟨w.heap.size + 1, 3, none⟩ = some (.int .i64 0) := k1.cell 3
   have z0 : W.frozen? ⟨w.heap.size + 1, 0, none⟩ = false := k1.frozen 0
   have z1 : W.frozen? ⟨w.heap.size + 1, 1, none⟩ = false := k1.frozen 1
   have z2 : W.frozen? ⟨w.heap.size + 1, 2, none⟩ = false := k1.frozen 2
   have z3 : W.frozen? ⟨w.heap.size + 1, 3, none⟩ = false := k1.frozen 3
   have hs := k1.lt
   have HB := Lib.hid hb
   clear k0 k1 hb
   go_wp2
   refine bodyPost_ret (v := .agg #[.int .i64 (x + (rw_ / 2)), .int .i64 (y + e), .int .i64 (0), .int .i64 (rh - 2 * e)]) ?_ rfl ⟨?_, ?_⟩
   ·simp [results, Tryz.results152, go_sem, q0, q1, q2, q3, hs]
   ·rw [HE.out]
   ·exact (below_set4 HB.out (Nat.le_succ _) _ _ _ _).alloc (by have := HB.out.size; simp [World.setCell]; omega) _
 ·have d1 : ¬ rw_ - 2 * e < 0 := by omega
  by_cases c2 : rh / 2 < e
  ·have d2 : rh - 2 * e < 0 := by omega
   have HE := Lib.hid (show insetR ⟨x, y, rw_, rh⟩ e = ⟨x + e, y + (rh / 2), rw_ - 2 * e, 0⟩ by unfold insetR; simp only [Rc.mk.injEq]; omega)
   go_wp2
   go_quiet (fail)
   have k0 : Keep w.heap.size (.cells #[.int .i64 x, .int .i64 y, .int .i64 rw_, .int .i64 rh] 96) (W.drewN nq) := HK0.out
   have k1 : Keep (w.heap.size + 1) (.cells #[.int .i64 0, .int .i64 0, .int .i64 0, .int .i64 0] 96) (W.drewN nq) := HK1.out
   have hb := below_drewN HB.out nq
   clear HK0 HK1 HB p2 p3
   generalize W.drewN nq = W at *
   have p0 : W.cell? ⟨w.heap.size, 0, none⟩ = some (.int .i64 x) := k0.cell 0
   have p1 : W.cell? ⟨w.heap.size, 1, none⟩ = some (.int .i64 y) := k0.cell 1
   have p2 : W.cell? ⟨w.heap.size, 2, none⟩ = some (.int .i64 rw_) := k0.cell 2
   have p3 : W.cell? ⟨w.heap.size, 3, none⟩ = some (.int .i64 rh) := k0.cell 3
   have q0 : W.cell? ⟨w.heap.size + 1, 0, none⟩ = some (.int .i64 0) := k1.cell 0
   have q1 : W.cell? ⟨w.heap.size + 1, 1, none⟩ = some (.int .i64 0) := k1.cell 1
   have q2 : W.cell? ⟨w.heap.size + 1, 2, none⟩ = some (.int .i64 0) := k1.cell 2
   have q3 : W.cell? ⟨w.heap.size + 1, 3, none⟩ = some (.int .i64 0) := k1.cell 3
   have z0 : W.frozen? ⟨w.heap.size + 1, 0, none⟩ = false := k1.frozen 0
   have z1 : W.frozen? ⟨w.heap.size + 1, 1, none⟩ = false := k1.frozen 1
   have z2 : W.frozen? ⟨w.heap.size + 1, 2, none⟩ = false := k1.frozen 2
   have z3 : W.frozen? ⟨w.heap.size + 1, 3, none⟩ = false := k1.frozen 3
   have hs := k1.lt
   have HB := Lib.hid hb
   clear k0 k1 hb
   go_wp2
   refine bodyPost_ret (v := .agg #[.int .i64 (x + e), .int .i64 (y + (rh / 2)), .int .i64 (rw_ - 2 * e), .int .i64 (0)]) ?_ rfl ⟨?_, ?_⟩
   ·simp [results, Tryz.results152, go_sem, q0, q1, q2, q3, hs]
   ·rw [HE.out]
   ·exact (below_set4 HB.out (Nat.le_succ _) _ _ _ _).alloc (by have := HB.out.size; simp [World.setCell]; omega) _
  ·have d2 : ¬ rh - 2 * e < 0 := by omega
   have HE := Lib.hid (show insetR ⟨x, y, rw_, rh⟩ e = ⟨x + e, y + e, rw_ - 2 * e, rh - 2 * e⟩ by unfold insetR; simp only [Rc.mk.injEq]; omega)
   go_wp2
   go_quiet (fail)
   have k0 : Keep w.heap.size (.cells #[.int .i64 x, .int .i64 y, .int .i64 rw_, .int .i64 rh] 96) (W.drewN nq) := HK0.out
   have k1 : Keep (w.heap.size + 1) (.cells #[.int .i64 0, .int .i64 0, .int .i64 0, .int .i64 0] 96) (W.drewN nq) := HK1.out
   have hb := below_drewN HB.out nq
   clear HK0 HK1 HB p2 p3
   generalize W.drewN nq = W at *
   have p0 : W.cell? ⟨w.heap.size, 0, none⟩ = some (.int .i64 x) := k0.cell 0
   have p1 : W.cell? ⟨w.heap.size, 1, none⟩ = some (.int .i64 y) := k0.cell 1
   have p2 : W.cell? ⟨w.heap.size, 2, none⟩ = some (.int .i64 rw_) := k0.cell 2
   have p3 : W.cell? ⟨w.heap.size, 3, none⟩ = some (.int .i64 rh) := k0.cell 3
   have q0 : W.cell? ⟨w.heap.size + 1, 0, none⟩ = some (.int .i64 0) := k1.cell 0
   have q1 : W.cell? ⟨w.heap.size + 1, 1, none⟩ = some (.int .i64 0) := k1.cell 1
   have q2 : W.cell? ⟨w.heap.size + 1, 2, none⟩ = some (.int .i64 0) := k1.cell 2
   have q3 : W.cell? ⟨w.heap.size + 1, 3, none⟩ = some (.int .i64 0) := k1.cell 3
   have z0 : W.frozen? ⟨w.heap.size + 1, 0, none⟩ = false := k1.frozen 0
   have z1 : W.frozen? ⟨w.heap.size + 1, 1, none⟩ = false := k1.frozen 1
   have z2 : W.frozen? ⟨w.heap.size + 1, 2, none⟩ = false := k1.frozen 2
   have z3 : W.frozen? ⟨w.heap.size + 1, 3, none⟩ = false := k1.frozen 3
   have hs := k1.lt
   have HB := Lib.hid hb
   clear k0 k1 hb
   go_wp2
   refine bodyPost_ret (v := .agg #[.int .i64 (x + e), .int .i64 (y + e), .int .i64 (rw_ - 2 * e), .int .i64 (rh - 2 * e)]) ?_ rfl ⟨?_, ?_⟩
   ·simp [results, Tryz.results152, go_sem, q0, q1, q2, q3, hs]
   ·rw [HE.out]
   ·exact (below_set4 HB.out (Nat.le_succ _) _ _ _ _).alloc (by have := HB.out.size; simp [World.setCell]; omega) _
set_option maxRecDepth 100000 in
set_option maxHeartbeats 2000000 in
theorem sinset_any {r : Rc} {e : Int} (w : World) (hr : RS r) (he : 0 ≤ e ∧ e ≤ 50) :
 Calls Tryz.prog 140 #[r.agg, .int .i64 e] w fun x w' => x = .returned (insetR r e).agg ∧ Ext w w' := by
 obtain ⟨x, y, rw_, rh⟩ := r
 obtain ⟨h1, h2, h3, h4⟩ := hr
 dsimp only at h1 h2 h3 h4
 unfold Rc.agg
 have hq1 : rw_.tdiv 2 = rw_ / 2 := Int.tdiv_eq_ediv_of_nonneg (by omega)
 have hq2 : rh.tdiv 2 = rh / 2 := Int.tdiv_eq_ediv_of_nonneg (by omega)
 rcases Int.lt_trichotomy (rw_ - 2 * e) 0 with d1 | d1 | d1
 ·have c1 : rw_ / 2 < e := by omega
  have d1' : ¬ 0 < rw_ - 2 * e := by omega
  rcases Int.lt_trichotomy (rh - 2 * e) 0 with d2 | d2 | d2
  ·have c2 : rh / 2 < e := by omega
   have d2' : ¬ 0 < rh - 2 * e := by omega
   have HE := Lib.hid (show insetR ⟨x, y, rw_, rh⟩ e = ⟨x + (rw_ / 2), y + (rh / 2), 0, 0⟩ by unfold insetR; simp only [Rc.mk.injEq]; omega)
   go_enter Tryz.func140, Tryz.ntmps140
   go_wp2
   refine bodyPost_ret (v := .agg #[.int .i64 (x + (rw_ / 2)), .int .i64 (y + (rh / 2)), .int .i64 (0), .int .i64 (0)]) ?_ rfl ⟨?_, ?_⟩
   ·simp [results, Tryz.results140, go_sem]
   ·rw [HE.out]
   ·exact ext_two _ _ _
  ·have c2 : ¬ rh / 2 < e := by omega
   have d2' : ¬ 0 < rh - 2 * e := by omega
   have HD := Lib.hid d2
   clear d2
   have HE := Lib.hid (show insetR ⟨x, y, rw_, rh⟩ e = ⟨x + (rw_ / 2), y + e, 0, 0⟩ by unfold insetR; simp only [Rc.mk.injEq]; omega)
   go_enter Tryz.func140, Tryz.ntmps140
   go_wp2
   refine bodyPost_ret (v := .agg #[.int .i64 (x + (rw_ / 2)), .int .i64 (y + e), .int .i64 (0), .int .i64 (0)]) ?_ rfl ⟨?_, ?_⟩
   ·simp [results, Tryz.results140, go_sem]
   ·rw [HE.out]
   ·exact ext_two _ _ _
  ·have c2 : ¬ rh / 2 < e := by omega
   have HE := Lib.hid (show insetR ⟨x, y, rw_, rh⟩ e = ⟨x + (rw_ / 2), y + e, 0, rh - 2 * e⟩ by unfold insetR; simp only [Rc.mk.injEq]; omega)
   go_enter Tryz.func140, Tryz.ntmps140
   go_wp2
   refine bodyPost_ret (v := .agg #[.int .i64 (x + (rw_ / 2)), .int .i64 (y + e), .int .i64 (0), .int .i64 (rh - 2 * e)]) ?_ rfl ⟨?_, ?_⟩
   ·simp [results, Tryz.results140, go_sem]
   ·rw [HE.out]
   ·exact ext_two _ _ _
 ·have c1 : ¬ rw_ / 2 < e := by omega
  have d1' : ¬ 0 < rw_ - 2 * e := by omega
  have HD := Lib.hid d1
  rcases Int.lt_trichotomy (rh - 2 * e) 0 with d2 | d2 | d2
  ·have c2 : rh / 2 < e := by omega
   have d2' : ¬ 0 < rh - 2 * e := by omega
   have HE := Lib.hid (show insetR ⟨x, y, rw_, rh⟩ e = ⟨x + e, y + (rh / 2), 0, 0⟩ by unfold insetR; simp only [Rc.mk.injEq]; omega)
   go_enter Tryz.func140, Tryz.ntmps140
   go_wp2
   refine bodyPost_ret (v := .agg #[.int .i64 (x + e), .int .i64 (y + (rh / 2)), .int .i64 (0), .int .i64 (0)]) ?_ rfl ⟨?_, ?_⟩
   ·simp [results, Tryz.results140, go_sem]
   ·rw [HE.out]
   ·exact ext_two _ _ _
  ·have c2 : ¬ rh / 2 < e := by omega
   have d2' : ¬ 0 < rh - 2 * e := by omega
   have HE := Lib.hid (show insetR ⟨x, y, rw_, rh⟩ e = ⟨x + e, y + e, 0, 0⟩ by unfold insetR; simp only [Rc.mk.injEq]; omega)
   go_enter Tryz.func140, Tryz.ntmps140
   go_wp2
   refine bodyPost_ret (v := .agg #[.int .i64 (x + e), .int .i64 (y + e), .int .i64 (0), .int .i64 (0)]) ?_ rfl ⟨?_, ?_⟩
   ·simp [results, Tryz.results140, go_sem]
   ·rw [HE.out]
   ·exact ext_two _ _ _
  ·have c2 : ¬ rh / 2 < e := by omega
   have HE := Lib.hid (show insetR ⟨x, y, rw_, rh⟩ e = ⟨x + e, y + e, 0, rh - 2 * e⟩ by unfold insetR; simp only [Rc.mk.injEq]; omega)
   go_enter Tryz.func140, Tryz.ntmps140
   go_wp2
   refine bodyPost_ret (v := .agg #[.int .i64 (x + e), .int .i64 (y + e), .int .i64 (0), .int .i64 (rh - 2 * e)]) ?_ rfl ⟨?_, ?_⟩
   ·simp [results, Tryz.results140, go_sem]
   ·rw [HE.out]
   ·exact ext_two _ _ _
 ·have c1 : ¬ rw_ / 2 < e := by omega
  rcases Int.lt_trichotomy (rh - 2 * e) 0 with d2 | d2 | d2
  ·have c2 : rh / 2 < e := by omega
   have d2' : ¬ 0 < rh - 2 * e := by omega
   have HE := Lib.hid (show insetR ⟨x, y, rw_, rh⟩ e = ⟨x + e, y + (rh / 2), rw_ - 2 * e, 0⟩ by unfold insetR; simp only [Rc.mk.injEq]; omega)
   go_enter Tryz.func140, Tryz.ntmps140
   go_wp2
   refine bodyPost_ret (v := .agg #[.int .i64 (x + e), .int .i64 (y + (rh / 2)), .int .i64 (rw_ - 2 * e), .int .i64 (0)]) ?_ rfl ⟨?_, ?_⟩
   ·simp [results, Tryz.results140, go_sem]
   ·rw [HE.out]
   ·exact ext_two _ _ _
  ·have c2 : ¬ rh / 2 < e := by omega
   have d2' : ¬ 0 < rh - 2 * e := by omega
   have HE := Lib.hid (show insetR ⟨x, y, rw_, rh⟩ e = ⟨x + e, y + e, rw_ - 2 * e, 0⟩ by unfold insetR; simp only [Rc.mk.injEq]; omega)
   go_enter Tryz.func140, Tryz.ntmps140
   go_wp2
   refine bodyPost_ret (v := .agg #[.int .i64 (x + e), .int .i64 (y + e), .int .i64 (rw_ - 2 * e), .int .i64 (0)]) ?_ rfl ⟨?_, ?_⟩
   ·simp [results, Tryz.results140, go_sem]
   ·rw [HE.out]
   ·exact ext_two _ _ _
  ·have c2 : ¬ rh / 2 < e := by omega
   have HE := Lib.hid (show insetR ⟨x, y, rw_, rh⟩ e = ⟨x + e, y + e, rw_ - 2 * e, rh - 2 * e⟩ by unfold insetR; simp only [Rc.mk.injEq]; omega)
   go_enter Tryz.func140, Tryz.ntmps140
   go_wp2
   refine bodyPost_ret (v := .agg #[.int .i64 (x + e), .int .i64 (y + e), .int .i64 (rw_ - 2 * e), .int .i64 (rh - 2 * e)]) ?_ rfl ⟨?_, ?_⟩
   ·simp [results, Tryz.results140, go_sem]
   ·rw [HE.out]
   ·exact ext_two _ _ _
def Rc.turn (r : Rc) : Rc := ⟨r.y, r.x, r.h, r.w⟩
set_option maxHeartbeats 1000000 in
theorem turnR_any (r : Rc) (w : World) :
 Calls Tryz.prog 134 #[r.agg] w fun x w' => x = .returned r.turn.agg ∧ Ext w w' := by
 obtain ⟨x, y, rw_, rh⟩ := r
 unfold Rc.turn Rc.agg
 dsimp only
 go_enter Tryz.func134, Tryz.ntmps134
 go_wp2
 refine bodyPost_ret (v := .agg #[.int .i64 y, .int .i64 x, .int .i64 rh, .int .i64 rw_]) ?_ rfl ⟨rfl, ?_⟩
 ·simp [results, Tryz.results134, go_sem]
 ·exact ext_two _ _ _
set_option maxHeartbeats 1000000 in
theorem turnS_any (x y : Int) (w : World) :
 Calls Tryz.prog 135 #[.agg #[.int .i64 x, .int .i64 y]] w fun e w' => e = .returned (.agg #[.int .i64 y, .int .i64 x]) ∧ Ext w w' := by
 go_enter Tryz.func135, Tryz.ntmps135
 go_wp2
 refine bodyPost_ret (v := .agg #[.int .i64 y, .int .i64 x]) ?_ rfl ⟨rfl, ?_⟩
 ·simp [results, Tryz.results135, go_sem]
 ·exact ext_two _ _ _
/-- the rectangles in block S, the layout itself in block S + 1 -/
structure LyM (S : Nat) (w : World) (tv : Value) (n : Nat) (R : List Rc) : Prop where
 lt : S + 2 ≤ w.heap.size
 c0 : w.cell? ⟨S + 1, 0, none⟩ = some tv
 c1 : w.cell? ⟨S + 1, 1, none⟩ = some (.slice (some ⟨S, 0, none⟩) n n)
 own : Own w S 4 (.slice (some ⟨S, 0, none⟩) n n) (Rs R)
 len : R.length = n
theorem LyM.below {S : Nat} {w w' : World} {tv : Value} {n : Nat} {R : List Rc} (h : LyM S w tv n R) (hb : Below w.heap.size w w') : LyM S w' tv n R := by
 obtain ⟨h0, h1, h2, h3, h4⟩ := h
 refine ⟨Nat.le_trans h0 hb.size, ?_, ?_, h3.below hb (Nat.le_refl _), h4⟩
 ·rw [hb.cell (p := ⟨S + 1, 0, none⟩) (by show S + 1 < _; omega)]; exact h1
 ·rw [hb.cell (p := ⟨S + 1, 1, none⟩) (by show S + 1 < _; omega)]; exact h2
theorem LyM.at {S : Nat} {w : World} {tv : Value} {n : Nat} {R : List Rc} (h : LyM S w tv n R) {k : Nat} {r : Rc} (hr : R[k]? = some r) : Cells4 w S (k * 4) r := by
 obtain ⟨a, c, e, _, _, hC⟩ := h.own.rd.rects
 cases e
 obtain ⟨b, off, e, _, hC⟩ := hC k r hr
 cases e
 have := hC k r hr
 rw [Nat.zero_add] at this
 exact this
/-- a rectangle is stored -/
theorem LyM.set {S : Nat} {w : World} {tv : Value} {n : Nat} {R : List Rc} (h : LyM S w tv n R) {k : Nat} (hk : k < n) : (∀ o, w.frozen? ⟨S, o, none⟩ = false) ∧
 ∀ x : Rc, LyM S ((((w.setCell ⟨S, k * 4, none⟩ (.int .i64 x.x)).setCell ⟨S, k * 4 + 1, none⟩ (.int .i64 x.y)).setCell ⟨S, k * 4 + 2, none⟩ (.int .i64 x.w)).setCell ⟨S, k * 4 + 3, none⟩ (.int .i64 x.h)) tv n (R.set k x) := by
 obtain ⟨h0, h1, h2, h3, h4⟩ := h
 obtain ⟨b', off', n', c', e', _, hbk, _, hbs, _, hfz, _⟩ := h3.cells (by
  intro h
  have := congrArg List.length h
  rw [Rs_length, List.length_nil] at this
  omega)
 cases e'
 refine ⟨fun o => by have := hfz o; rw [Nat.zero_add] at this; exact this, fun x => ⟨by simpa [World.setCell] using h0, ?_, ?_, ?_, by rw [List.length_set]; exact h4⟩⟩
 ·rw [cell_setOther _ (by dsimp only; omega), cell_setOther _ (by dsimp only; omega), cell_setOther _ (by dsimp only; omega), cell_setOther _ (by dsimp only; omega)]; exact h1
 ·rw [cell_setOther _ (by dsimp only; omega), cell_setOther _ (by dsimp only; omega), cell_setOther _ (by dsimp only; omega), cell_setOther _ (by dsimp only; omega)]; exact h2
 ·have := h3.setRc rfl (i := k) (by omega) x
  simp only [Nat.zero_add] at this
  exact this
theorem below_set4' {B : Nat} {w0 w : World} {g o1 o2 o3 o4 : Nat} (h : Below B w0 w) (hg : B ≤ g) (a b c d : Value) : Below B w0 ((((w.setCell ⟨g, o1, none⟩ a).setCell ⟨g, o2, none⟩ b).setCell ⟨g, o3, none⟩ c).setCell ⟨g, o4, none⟩ d) := below_set4 h hg a b c d
theorem bx_cells {w : World} {a : Option Addr} {n c : Nat} {l : List Bx} (h : Rd w 9 (.slice a n c) (Bs l)) {k : Nat} (hk : k < l.length) : ∃ b off, a = some ⟨b, off, none⟩ ∧ b < w.heap.size ∧ n = l.length ∧ Cells9 w b (off + k * 9) (bx l k) := by
 obtain ⟨a', c', e, _, _, hC⟩ := h.boxes
 cases e
 obtain ⟨b, off, rfl, hb, hC⟩ := hC k _ (bx_get hk)
 exact ⟨b, off, rfl, hb, rfl, hC k _ (bx_get hk)⟩
set_option maxRecDepth 100000 in
set_option maxHeartbeats 2000000 in
theorem inner_any {S n k : Nat} {tv : Value} {l : List Bx} {R : List Rc} {r : Rc} (w : World) (hM : LyM S w tv n R) (hrd : Rd w 9 tv (Bs l)) (hn : l.length = n) (hk : k < n) (hr : R[k]? = some r) (hs : RS r) (hp : 0 ≤ (bx l k).pad ∧ (bx l k).pad ≤ 50) :
 Calls Tryz.prog 132 #[.pointer (some ⟨S + 1, 0, none⟩), .int .i64 (k : Int)] w fun x w' => x = .returned (insetR r (bx l k).pad).agg ∧ Ext w w' := by
 obtain ⟨a, c, rfl, hnc, hc, _⟩ := hrd.boxes
 obtain ⟨b, off, rfl, hbl, _, hC⟩ := bx_cells hrd (hn.symm ▸ hk)
 unfold maxLen at hc
 have HCR := Lib.hid (hM.at hr)
 have HLT := Lib.hid hM.lt
 have hki : (k : Int) < n := by omega
 have hki2 : (k : Int) < l.length := by omega
 have hx0 := Below.of_alloc w (.cells #[.int .i64 0, .int .i64 0, .int .i64 0, .int .i64 0] 96)
 have k0 : Keep w.heap.size (.cells #[.int .i64 0, .int .i64 0, .int .i64 0, .int .i64 0] 96) (w.alloc (.cells #[.int .i64 0, .int .i64 0, .int .i64 0, .int .i64 0] 96)) := Keep.new _ _
 have HCC := Lib.hid (fun w9 (h : Below w.heap.size w w9) => And.intro ((hM.at hr).below h (by have := hM.lt; omega)) (And.intro (hC.below h hbl) (And.intro (show w9.cell? ⟨S + 1, 0, none⟩ = some (.slice (some ⟨b, off, none⟩) l.length c) by rw [h.cell (p := ⟨S + 1, 0, none⟩) (by have := hM.lt; show S + 1 < _; omega)]; exact hM.c0) (show w9.cell? ⟨S + 1, 1, none⟩ = some (.slice (some ⟨S, 0, none⟩) n n) by rw [h.cell (p := ⟨S + 1, 1, none⟩) (by have := hM.lt; show S + 1 < _; omega)]; exact hM.c1))))
 clear hC hrd hM HCR
 go_enter Tryz.func132, Tryz.ntmps132
 go_upto_region 1 with fail
 generalize w.alloc (.cells #[.int .i64 0, .int .i64 0, .int .i64 0, .int .i64 0] 96) = W at *
 refine wp_region_held_drew (S := fun w' => Below w.heap.size w w') (by kernel_rfl) hx0.drew (fun hS => ?_)
 have k0 : Keep w.heap.size (.cells #[.int .i64 0, .int .i64 0, .int .i64 0, .int .i64 0] 96) W.drew := k0
 clear hx0
 generalize W.drew = W at *
 refine hTk hS 0 5 rfl (v := ?_) ?_ ?_
 rotate_left
 ·intro _ _; go_simp; first | done | with_reducible rfl
 simp only [Act.put, lsA, ls0, ls1]
 refine hTk hS 1 6 rfl (v := ?_) ?_ ?_
 rotate_left
 ·intro _ _; go_simp; first | done | with_reducible rfl
 simp only [Act.put, lsA, ls0, ls1]
 refine hTk hS 2 7 rfl (v := ?_) ?_ ?_
 rotate_left
 ·intro _ _; go_simp; first | done | with_reducible rfl
 simp only [Act.put, lsA, ls0, ls1]
 refine hTk hS 3 8 rfl (v := ?_) ?_ ?_
 rotate_left
 ·intro w9 hS9; obtain ⟨_, _, q0, q1⟩ := HCC.out _ hS9; go_simp; first | done | with_reducible rfl
 simp only [Act.put, lsA, ls0, ls1]
 refine hTk hS 4 9 rfl (v := ?_) ?_ ?_
 rotate_left
 ·intro _ _; go_simp; first | done | with_reducible rfl
 simp only [Act.put, lsA, ls0, ls1]
 refine hTk hS 5 10 rfl (v := ?_) ?_ ?_
 rotate_left
 ·intro _ _; go_simp; first | done | with_reducible rfl
 simp only [Act.put, lsA, ls0, ls1]
 refine hTk hS 6 11 rfl (v := ?_) ?_ ?_
 rotate_left
 ·intro w9 hS9; obtain ⟨⟨q2, q3, q4, q5⟩, _, _, _⟩ := HCC.out _ hS9; go_simp; first | done | with_reducible rfl
 simp only [Act.put, lsA, ls0, ls1]
 refine hTk hS 7 12 rfl (v := ?_) ?_ ?_
 rotate_left
 ·intro _ _; go_simp; first | done | with_reducible rfl
 simp only [Act.put, lsA, ls0, ls1]
 refine hTk hS 8 13 rfl (v := ?_) ?_ ?_
 rotate_left
 ·intro _ _; go_simp; first | done | with_reducible rfl
 simp only [Act.put, lsA, ls0, ls1]
 refine hTk hS 9 14 rfl (v := ?_) ?_ ?_
 rotate_left
 ·intro _ _; go_simp; first | done | with_reducible rfl
 simp only [Act.put, lsA, ls0, ls1]
 refine hTk hS 10 15 rfl (v := ?_) ?_ ?_
 rotate_left
 ·intro w9 hS9; obtain ⟨_, _, q0, q1⟩ := HCC.out _ hS9; go_simp; first | done | with_reducible rfl
 simp only [Act.put, lsA, ls0, ls1]
 refine hTk hS 11 16 rfl (v := ?_) ?_ ?_
 rotate_left
 ·intro _ _; go_simp; first | done | with_reducible rfl
 simp only [Act.put, lsA, ls0, ls1]
 refine hTk hS 12 17 rfl (v := ?_) ?_ ?_
 rotate_left
 ·intro _ _; go_simp; first | done | with_reducible rfl
 simp only [Act.put, lsA, ls0, ls1]
 refine hTk hS 13 18 rfl (v := ?_) ?_ ?_
 rotate_left
 ·intro _ _; go_simp; first | done | with_reducible rfl
 simp only [Act.put, lsA, ls0, ls1]
 refine hTk hS 14 19 rfl (v := ?_) ?_ ?_
 rotate_left
 ·intro w9 hS9; obtain ⟨_, ⟨q2, q3, q4, q5, q6, q7, q8, q9, q10⟩, _, _⟩ := HCC.out _ hS9; go_simp; first | done | with_reducible rfl
 simp only [Act.put, lsA, ls0, ls1]
 refine wpAnyH_ready (rs := [15]) (by kernel_rfl) (by simp) ?_
 refine AllReadyH.cons (o := _) rfl (fun K9 hK9 => ?_) AllReadyH.nil
 go_simp
 refine (inset_any (r := r) _ hs hp).mono ?_
 rintro e w' ⟨rfl, hx⟩
 try go_wp2_with fail
 have hS2 := after hS hx (Nat.le_refl _)
 have k2 : Keep w.heap.size (.cells #[.int .i64 0, .int .i64 0, .int .i64 0, .int .i64 0] 96) w' := by
  unfold Keep
  rw [hx.block _ k0.lt]
  exact k0
 refine hK9.out _ _ hS2 (fun hS => ?_)
 clear hK9 K9
 try simp only [Act.put, lsA, ls0, ls1]
 clear hx hS2 k0
 have q0 := k2.cell 0
 have q1 := k2.cell 1
 have q2 := k2.cell 2
 have q3 := k2.cell 3
 have z0 := k2.frozen 0
 have z1 := k2.frozen 1
 have z2 := k2.frozen 2
 have z3 := k2.frozen 3
 refine wpAnyH_ready (rs := [16]) (by kernel_rfl) (by simp) ?_
 refine AllReadyH.cons (o := _) rfl (fun K9 hK9 => ?_) AllReadyH.nil
 unfold Rc.agg
 go_simp
 refine hK9.out _ _ (below_set4 hS (Nat.le_refl _) _ _ _ _) (fun hS => ?_)
 clear hK9 K9
 try simp only [Act.put, lsA, ls0, ls1]
 refine wpAnyH_done (by kernel_rfl) ?_ _
 have HS := Lib.hid hS
 clear hS
 go_wp2
 refine bodyPost_ret (v := (insetR r (bx l k).pad).agg) ?_ rfl ⟨rfl, HS.out⟩
 simp [results, Tryz.results132, go_sem, q0, q1, q2, q3, Rc.agg]
/-- the first J boxes in box p, which has the rectangle r, are put -/
def PutTo (l : List Bx) (p : Nat) (r : Rc) (J : Nat) (R R' : List Rc) : Prop :=
 (∀ j k, j < J → (kid l (p : Int))[j]? = some k → R'[k]? = some (placeR l p j r k)) ∧ ∀ i, (∀ j, j < J → (kid l (p : Int))[j]? ≠ some i) → R'[i]? = R[i]?
theorem PutTo.zero (l : List Bx) (p : Nat) (r : Rc) (R : List Rc) : PutTo l p r 0 R R := ⟨fun _ _ h _ => absurd h (Nat.not_lt_zero _), fun _ _ => rfl⟩
theorem PutTo.step {l : List Bx} {p : Nat} {r : Rc} {J k : Nat} {R R' : List Rc} (h : PutTo l p r J R R') (hk : (kid l (p : Int))[J]? = some k) (hl : k < R'.length) : PutTo l p r (J + 1) R (R'.set k (placeR l p J r k)) := by
 refine ⟨fun j k' hj hk' => ?_, fun i hi => ?_⟩
 ·by_cases hJ : j = J
  ·subst hJ
   rw [hk] at hk'
   cases hk'
   rw [List.getElem?_set_self hl]
  ·have hne : k ≠ k' := by
    rintro rfl
    have h1 := posK_eq hk
    have h2 := posK_eq hk'
    omega
   rw [List.getElem?_set_ne hne]
   exact h.1 j k' (by omega) hk'
 ·have hne : k ≠ i := fun e => hi J (Nat.lt_succ_self _) (e ▸ hk)
  rw [List.getElem?_set_ne hne]
  exact h.2 i fun j hj => hi j (by omega)
theorem RB.rs {d : Int} {r : Rc} (h : RB d r) (hd : d ≤ 1000000) : RS r := by
 obtain ⟨h1, h2, h3, h4, h5, h6, h7, h8⟩ := h
 exact ⟨by omega, by omega, by omega, by omega⟩
set_option maxRecDepth 100000 in
set_option maxHeartbeats 2000000 in
theorem block_any {S n p B : Nat} {tv lv : Value} {l : List Bx} {R : List Rc} {r : Rc} (w : World) (hM : LyM S w tv n R) (hrd : Rd w 9 tv (Bs l)) (hw0 : ∀ w', Below S w w' → Rd w' 9 tv (Bs l)) (hv : Valid l) (hn : l.length = n) (hp : p < n) (hr : R[p]? = some r) (hs : RB 100000 r)
 (hL : Own w B 1 lv (Is (ni (kid l (p : Int))))) (hB : S < B) (hk2 : (bx l p).kind ≠ 2) (hk3 : (bx l p).kind ≠ 3) :
 Calls Tryz.prog 113 #[.pointer (some ⟨S + 1, 0, none⟩), .int .i64 (p : Int), lv] w fun x w' => x = .returned (.tuple #[]) ∧ ∃ R', LyM S w' tv n R' ∧ Below S w w' ∧ PutTo l p r (kid l (p : Int)).length R R' := by
 subst hn
 have hbd := okB_bounds (hv.ok p (by omega))
 have hin := inset_ok (r := r) (e := (bx l p).pad) (by omega) (by obtain ⟨_, _, _, _, h5, h6, _, _⟩ := hs; exact ⟨h5, h6⟩) (by obtain ⟨_, _, _, _, _, _, h7, h8⟩ := hs; exact ⟨h7, h8⟩)
 have hsz0 := hM.lt
 have HI := Lib.hid (inner_any w hM hrd rfl hp hr (hs.rs (by omega)) (by omega))
 have HPL := Lib.hid (fun j k => show placeR l p j r k = ⟨(insetR r (bx l p).pad).x, (insetR r (bx l p).pad).y + blkO l p j, (insetR r (bx l p).pad).w, (natS l k).2⟩ by unfold placeR; rw [if_neg hk2, if_neg hk3])
 obtain ⟨al, cl, rfl, hnl, hcl, _⟩ := hL.rd.ints
 rw [ni_length] at hnl ⊢
 obtain ⟨at_, ct, rfl, hnt, hct, _⟩ := hrd.boxes
 unfold maxLen at hcl hct
 have hF : ∀ a b w, (Instr.field 150 (.agg #[a, b]) 1).run Tryz.prog w = .ok b w := fun _ _ _ => by kernel_rfl
 have hpi : (p : Int) < l.length := by omega
 have hbs : RB 100000 r := hs
 obtain ⟨s1, s2, s3, s4, s5, s6, s7, s8⟩ := hbs
 unfold Rc.agg at HI
 go_enter Tryz.func113, Tryz.ntmps113
 go_wp2_with (fail)
 refine HI.out.mono ?_
 rintro e w1 ⟨rfl, hx⟩
 generalize hq : insetR r (bx l p).pad = q at *
 have hb1 : Below S w (w1.alloc (.cells q.arr 96)) := ((hx.alloc hx.size _).mono (by omega))
 have hM1 := (hM.below hx).below (Below.of_alloc w1 (.cells q.arr 96))
 have hL1 := (hL.below hx (Nat.le_refl _)).alloc (.cells q.arr 96)
 have hK1 := Keep.new w1 (.cells q.arr 96)
 have hs1 := hx.size
 obtain ⟨g, hg⟩ : ∃ g, w1.heap.size = g := ⟨_, rfl⟩
 rw [hg] at hK1 hs1
 unfold Rc.arr at hb1 hM1 hL1 hK1
 clear hM hL hx HI
 go_wp2_with (fail)
 rw [ni_length] at hL1
 generalize w1.alloc (.cells #[.int .i64 q.x, .int .i64 q.y, .int .i64 q.w, .int .i64 q.h] 96) = W at *
 have HW0 := Lib.hid hw0
 have HV := Lib.hid hv
 have HKN := Lib.hid (hv.kids p (by omega)).1
 have HB0 := Lib.hid (blkO_le (j := 0) hv (show p < l.length by omega) (Nat.zero_le _))
 clear hw0 hv hg hr hrd
 go_loopw [7, 18] (fun y i wr => ∃ j : Nat, j ≤ (kid l (p : Int)).length ∧ i = .int .i64 j ∧ y = .int .i64 (q.y + blkO l p j) ∧ (∃ R', LyM S wr (.slice at_ l.length ct) l.length R' ∧ Hid (PutTo l p r j R R')) ∧ Own wr B 1 (.slice al (kid l (p : Int)).length cl) (Is (ni (kid l (p : Int)))) ∧
  Keep g (.cells #[.int .i64 q.x, .int .i64 q.y, .int .i64 q.w, .int .i64 q.h] 96) wr ∧ Below S w wr) (fun _ i _ => (kid l (p : Int)).length - (intOf i).toNat)
 case atStart => exact ⟨0, Nat.zero_le _, rfl, by simp [blkO, isum], ⟨R, hM1, PutTo.zero _ _ _ _⟩, hL1, hK1, hb1⟩
 case round =>
  clear hM1 hL1 hK1 hb1
  obtain ⟨j, hj, rfl, rfl, ⟨R', hM, hP⟩, hL, hK, hb⟩ := hrel
  by_cases hlt : j < (kid l (p : Int)).length
  ·obtain ⟨k, hk⟩ : ∃ k, (kid l (p : Int))[j]? = some k := ⟨_, List.getElem?_eq_getElem hlt⟩
   obtain ⟨hkl, hkp⟩ := mem_kid_iff.1 (List.mem_of_getElem? hk)
   obtain ⟨ga, oa, rfl, ck⟩ := hL.rd.intAt (show (ni (kid l (p : Int)))[j]? = some (k : Int) by simp [ni, hk])
   have hji : (j : Int) < (kid l (p : Int)).length := by omega
   have hki : (k : Int) < l.length := by omega
   have hkw : IntKind.i64.wrap ((j : Int) + 1) = (j : Int) + 1 := by rw [IntKind.wrap_i64]; omega
   have hRD := HW0.out wr hb
   have HN := Lib.hid (natural_any HV.out wr (i := (k : Int)) (by omega) (by omega) hRD)
   rw [Int.toNat_natCast] at HN
   have hn4 := nat_4000 HV.out hkl
   have hbo := blkO_le (j := j) HV.out (show p < l.length by omega) hj
   have hbo2 := blkO_le (j := j + 1) HV.out (show p < l.length by omega) hlt
   have HBS := Lib.hid (blkO_succ hk)
   have HPS := Lib.hid (fun (R' : List Rc) (h : PutTo l p r j R R') (hl : k < R'.length) => h.step hk hl)
   have HRE := Lib.hid (HPL.out j k)
   have m0 := hM.c0
   clear hk hkp hRD
   go_wp2_with (fail)
   refine HN.out.mono ?_
   rintro e w2 ⟨rfl, hx2⟩
   have hs2 := hx2.size
   have hM2 := hM.below hx2
   have hL2 := hL.below hx2 (Nat.le_refl _)
   have hK2 : Keep g (.cells #[.int .i64 q.x, .int .i64 q.y, .int .i64 q.w, .int .i64 q.h] 96) w2 := by
    unfold Keep
    rw [hx2.block _ hK.lt]
    exact hK
   have hb2 := hb.trans (hx2.mono (by have := hM.lt; omega))
   clear hx2 hM hL hK hb ck m0
   have d0 : w2.drew.cell? ⟨S + 1, 1, none⟩ = some (.slice (some ⟨S, 0, none⟩) l.length l.length) := hM2.c1
   have d1 : w2.drew.cell? ⟨g, 0, none⟩ = some (.int .i64 q.x) := hK2.cell 0
   have d2 : w2.drew.cell? ⟨g, 2, none⟩ = some (.int .i64 q.w) := hK2.cell 2
   go_upto_region 6 with fail
   go_still_tail 13, (by kernel_rfl)
   repeat still_step
   try refine wpStill_nil ?_
   change wpList _ _ _ _ _ w2.drew
   have hM3 : LyM S w2.drew (.slice at_ l.length ct) l.length R' := ⟨hM2.lt, hM2.c0, hM2.c1, hM2.own, hM2.len⟩
   have hL3 := hL2.drew
   have hK3 : Keep g (.cells #[.int .i64 q.x, .int .i64 q.y, .int .i64 q.w, .int .i64 q.h] 96) w2.drew := hK2
   have hb3 := hb2.drew
   clear d0 d1 d2 hM2 hL2 hK2 hb2 hs2
   generalize w2.drew = w3 at *
   have hkR : k < R'.length := by rw [hM3.len]; exact hkl
   obtain ⟨x, hx⟩ : ∃ x, R'[k]? = some x := ⟨_, List.getElem?_eq_getElem hkR⟩
   obtain ⟨y0, y1, y2, y3⟩ := hM3.at hx
   obtain ⟨hfz, hset⟩ := hM3.set hkl
   have hM4 := hset ⟨q.x, q.y + blkO l p j, q.w, (natS l k).2⟩
   have f0 := hfz (k * 4)
   have f1 := hfz (k * 4 + 1)
   have f2 := hfz (k * 4 + 2)
   have f3 := hfz (k * 4 + 3)
   have hLne : ∀ o, blk (.slice (some ⟨ga, oa, none⟩) (kid l (p : Int)).length cl) ≠ some (Addr.block ⟨S, o, none⟩) := fun o e => by have := (hL3.lt _ e).1; dsimp only at this; omega
   have hL4 := (((hL3.setOther (hLne (k * 4)) (.int .i64 q.x)).setOther (hLne (k * 4 + 1)) (.int .i64 (q.y + blkO l p j))).setOther (hLne (k * 4 + 2)) (.int .i64 q.w)).setOther (hLne (k * 4 + 3)) (.int .i64 (natS l k).2)
   have hK4 := (((hK3.setOther (p := ⟨S, k * 4, none⟩) (by dsimp only; omega) (.int .i64 q.x)).setOther (p := ⟨S, k * 4 + 1, none⟩) (by dsimp only; omega) (.int .i64 (q.y + blkO l p j))).setOther (p := ⟨S, k * 4 + 2, none⟩) (by dsimp only; omega) (.int .i64 q.w)).setOther (p := ⟨S, k * 4 + 3, none⟩) (by dsimp only; omega) (.int .i64 (natS l k).2)
   have hb4 := below_set4 (g := S) (o1 := k * 4) (o2 := k * 4 + 1) (o3 := k * 4 + 2) (o4 := k * 4 + 3) hb3 (Nat.le_refl _) (.int .i64 q.x) (.int .i64 (q.y + blkO l p j)) (.int .i64 q.w) (.int .i64 (natS l k).2)
   obtain ⟨bt, ot, rfl, _, _, hC4⟩ := bx_cells (HW0.out _ hb4) (show p < l.length from hp)
   have g5 := hC4.c5
   have g0 := hM4.c0
   have HM4 := Lib.hid hM4
   have HL4 := Lib.hid hL4
   have HK4 := Lib.hid hK4
   have HB4 := Lib.hid hb4
   have HP4 := Lib.hid (HPS.out R' hP.out hkR)
   clear hM3 hset hM4 hfz hLne hL4 hL3 hK3 hK4 hb3 hb4 hC4 hx
   go_wp2
   go_roundw
   case rel =>
    refine ⟨j + 1, by omega, by go_num, by rw [HBS.out]; congr 1; omega, ⟨_, HM4.out, ?_⟩, HL4.out, HK4.out, HB4.out⟩
    have h := HP4.out
    rw [HRE.out] at h
    exact h
   case measure => simp [intOf]; omega
  ·obtain rfl : j = (kid l (p : Int)).length := by omega
   go_wp2
   go_end0
   exact ⟨rfl, R', hM, hb, hP.out⟩
/-- a valid rectangle -/
structure VR (r : Rc) : Prop where
 x : inR r.x (-100000) 100000 = true
 y : inR r.y (-100000) 100000 = true
 w : inR r.w 0 200000 = true
 h : inR r.h 0 200000 = true
theorem keep_next (w : World) (o1 o2 : Obj) : Keep (w.heap.size + 1) o2 ((w.alloc o1).alloc o2) := by
 have := Keep.new (w.alloc o1) o2
 rw [World.size_alloc] at this
 exact this
/-- only block S is written -/
abbrev Gr (S : Nat) (w w' : World) : Prop := w.grownBy w' (some S)
theorem gr_refl (S : Nat) (w : World) : Gr S w w := ⟨rfl, rfl, rfl, Nat.le_refl _, fun _ _ _ => rfl⟩
theorem gr_trans {S : Nat} {a b c : World} (h : Gr S a b) (k : Gr S b c) : Gr S a c :=
 ⟨by rw [k.os, h.os], by rw [k.tape, h.tape], by rw [k.output, h.output], Nat.le_trans h.size k.size, fun q hq hne => by rw [k.block q (Nat.lt_of_lt_of_le hq h.size) hne, h.block q hq hne]⟩
theorem gr_ext {S : Nat} {a b : World} (h : Ext a b) : Gr S a b := ⟨h.os, h.tape, h.output, h.size, fun q hq _ => h.block q hq⟩
theorem gr_drew {S : Nat} {a b : World} (h : Gr S a b) : Gr S a b.drew := ⟨h.os, h.tape, h.output, h.size, h.block⟩
theorem gr_below {S : Nat} {a b : World} (h : Gr S a b) (hS : S ≤ a.heap.size) : Below S a b := ⟨h.os, h.tape, h.output, h.size, fun q hq => h.block q (by omega) (by simp; omega)⟩
theorem gr_set {S : Nat} {a b : World} (h : Gr S a b) (o : Nat) (v : Value) : Gr S a (b.setCell ⟨S, o, none⟩ v) :=
 ⟨h.os, h.tape, h.output, by simpa [World.setCell] using h.size, fun q hq hne => by rw [Below.heap_setCell _ _ _ _ (by simpa using hne)]; exact h.block q hq hne⟩
theorem Keep.gr {S g : Nat} {o : Obj} {w w' : World} (h : Keep g o w) (hg : Gr S w w') (hne : g ≠ S) : Keep g o w' := by
 have hl := h.lt
 unfold Keep
 rw [hg.block g hl (by simpa using hne)]
 exact h
theorem Own.gr {S base size : Nat} {w w' : World} {v : Value} {xs : List Value} (h : Own w base size v xs) (hS : S < base) (hg : Gr S w w') : Own w' base size v xs := by
 refine h.kept hg ?_
 refine .inr fun e => ?_
 have := (h.lt _ e).1
 omega
theorem Own.intAt {S k : Nat} {w : World} {a : Option Addr} {n c : Nat} {l : List Int} {x : Int} (h : Own w (S + 1) 1 (.slice a n c) (Is l)) (hk : l[k]? = some x) : ∃ b off, a = some ⟨b, off, none⟩ ∧ b ≠ S ∧ w.cell? ⟨b, off + k, none⟩ = some (.int .i64 x) := by
 obtain ⟨b, off, rfl, hc⟩ := h.rd.intAt hk
 have hl := (List.getElem?_eq_some_iff.1 hk).1
 refine ⟨b, off, rfl, ?_, hc⟩
 obtain ⟨a', n', c', e, h1, h2, _, h3⟩ := h
 cases e
 rw [Is_length] at h1
 rcases h3 with h3 | ⟨g, o, cur, e, ha, hb, _⟩
 ·omega
 ·cases ha
  omega
/-- the block of a list of rectangles -/
theorem rects_lt {S n : Nat} {w : World} {xs : List Value} (h : Own w S 4 (.slice (some ⟨S, 0, none⟩) n n) xs) (hn : 0 < n) : S < w.heap.size :=
 (h.lt S (by show (if n = 0 then none else some S) = _; rw [if_neg (by omega)])).2
theorem gr_cell {S : Nat} {w w' : World} (h : Gr S w w') {b o : Nat} {v : Value} (hc : w.cell? ⟨b, o, none⟩ = some v) (hne : b ≠ S) : w'.cell? ⟨b, o, none⟩ = some v := h.cell hc (by simpa using hne)
/-- a rectangle stored into the list -/
theorem rects_at {S n : Nat} {w : World} {R : List Rc} (h : Own w S 4 (.slice (some ⟨S, 0, none⟩) n n) (Rs R)) (hR : R.length = n) {p : Nat} (hp : p < n) :
 (∀ o, w.frozen? ⟨S, o, none⟩ = false) ∧ (∃ z, Cells4 w S (p * 4) z) ∧
 ∀ x : Rc, Own ((((w.setCell ⟨S, p * 4, none⟩ (.int .i64 x.x)).setCell ⟨S, p * 4 + 1, none⟩ (.int .i64 x.y)).setCell ⟨S, p * 4 + 2, none⟩ (.int .i64 x.w)).setCell ⟨S, p * 4 + 3, none⟩ (.int .i64 x.h)) S 4 (.slice (some ⟨S, 0, none⟩) n n) (Rs (R.set p x)) := by
 have h0 := h
 obtain ⟨b', off', n', c', e', _, hbk, _, hbs, _, hfz, _⟩ := h0.cells (by
  intro h
  have := congrArg List.length h
  rw [Rs_length, List.length_nil] at this
  omega)
 cases e'
 refine ⟨fun o => by have := hfz o; rw [Nat.zero_add] at this; exact this, ?_, fun x => ?_⟩
 ·obtain ⟨a, c, e, _, _, hC⟩ := h.rd.rects
  cases e
  obtain ⟨b, off, e, _, hC⟩ := hC p R[p] (List.getElem?_eq_getElem (by omega))
  cases e
  have := hC p R[p] (List.getElem?_eq_getElem (by omega))
  rw [Nat.zero_add] at this
  exact ⟨_, this⟩
 ·have := h.setRc rfl (i := p) (by omega) x
  simp only [Nat.zero_add] at this
  exact this
/-- what lies in memory while the boxes in a box are placed -/
structure PlM (S g8 g9 : Nat) (w0 w : World) (lv : Value) (l : List Bx) (p : Nat) (q : Rc) : Prop where
 g : Gr S w0 w
 b : Keep g8 (.cells (bx l p).arr 39) w
 r : Keep g9 (.cells q.arr 96) w
 L : Own w (S + 1) 1 lv (Is (ni (kid l (p : Int))))
 c8 : g8 ≠ S
 c9 : g9 ≠ S
theorem PlM.gr {S g8 g9 : Nat} {w0 w w' : World} {lv : Value} {l : List Bx} {p : Nat} {q : Rc} (h : PlM S g8 g9 w0 w lv l p q) (hg : Gr S w w') : PlM S g8 g9 w0 w' lv l p q :=
 ⟨gr_trans h.g hg, h.b.gr hg h.c8, h.r.gr hg h.c9, h.L.gr (Nat.lt_succ_self S) hg, h.c8, h.c9⟩
theorem place_row {l : List Bx} {p : Nat} (h : (bx l p).kind = 2) (j k : Nat) (r : Rc) : placeR l p j r k = ⟨(insetR r (bx l p).pad).x + offK true l p (insetR r (bx l p).pad).w j, (insetR r (bx l p).pad).y, (szs true l p (insetR r (bx l p).pad).w).getD j 0, (insetR r (bx l p).pad).h⟩ := by
 unfold placeR
 rw [if_pos h]
theorem place_col {l : List Bx} {p : Nat} (h : (bx l p).kind = 3) (j k : Nat) (r : Rc) : placeR l p j r k = ⟨(insetR r (bx l p).pad).x, (insetR r (bx l p).pad).y + offK false l p (insetR r (bx l p).pad).h j, (insetR r (bx l p).pad).w, (szs false l p (insetR r (bx l p).pad).h).getD j 0⟩ := by
 unfold placeR
 rw [if_neg (by omega), if_pos h]
theorem place_blk {l : List Bx} {p : Nat} (h : (bx l p).kind = 1) (j k : Nat) (r : Rc) : placeR l p j r k = ⟨(insetR r (bx l p).pad).x, (insetR r (bx l p).pad).y + blkO l p j, (insetR r (bx l p).pad).w, (natS l k).2⟩ := by
 unfold placeR
 rw [if_neg (by omega), if_neg (by omega)]
set_option maxRecDepth 100000 in
set_option maxHeartbeats 2000000 in
theorem sflexes_true {tv lv : Value} {l : List Bx} {p : Nat} (w : World) (hv : Valid l) (hrd : Rd w 9 tv (Bs l)) (hp : p < l.length) (hL : Rd w 1 lv (Is (ni (kid l (p : Int))))) :
 Calls Tryz.prog 142 #[tv, lv, .bool true] w fun e w' => ∃ v', e = .returned v' ∧ Own w' w.heap.size 5 v' (Fs (flxsOf true l p)) ∧ Ext w w' := by
 have HRD := Lib.hid hrd
 have HV := Lib.hid hv
 obtain ⟨at_, ct, rfl, hnt, hct, _⟩ := hrd.boxes
 obtain ⟨al, cl, rfl, hnl, hcl, _⟩ := hL.ints
 rw [ni_length] at hnl hL ⊢
 have HL := Lib.hid hL
 unfold maxLen at hct hcl
 have hkn := (HV.out.kids p hp).1
 have hhi := HV.out.hi
 clear hv hrd hL
 have hb0 := Below.of_alloc w (.cells #[] 156)
 go_enter Tryz.func142, Tryz.ntmps142
 go_wp2_with (fail)
 go_loopw [7, 8] (fun out i wr => ∃ k : Nat, k ≤ (kid l (p : Int)).length ∧ i = .int .i64 k ∧ Own wr w.heap.size 5 out (Fs ((flxsOf true l p).take k)) ∧ Below w.heap.size w wr) (fun _ i _ => (kid l (p : Int)).length - (intOf i).toNat)
 case atStart => exact ⟨0, Nat.zero_le _, rfl, Own.empty _ _ _ _, hb0⟩
 case round =>
  clear hb0
  obtain ⟨k, hk, rfl, ho, hb⟩ := hrel
  have hsz := hb.size
  by_cases hlt : k < (kid l (p : Int)).length
  ·obtain ⟨q, hq⟩ : ∃ q, (kid l (p : Int))[k]? = some q := ⟨_, List.getElem?_eq_getElem hlt⟩
   obtain ⟨hql, hqp⟩ := mem_kid_iff.1 (List.mem_of_getElem? hq)
   obtain ⟨ga, oa, rfl, ck⟩ := (HL.out.below hb (Nat.le_refl _)).intAt (show (ni (kid l (p : Int)))[k]? = some (q : Int) by simp [ni, hq])
   have HN := Lib.hid (snatural_any HV.out wr (i := (q : Int)) (by omega) (by omega) (HRD.out.below hb (Nat.le_refl _)))
   rw [Int.toNat_natCast] at HN
   have ET := Lib.hid (show Fs ((flxsOf true l p).take (k + 1)) = Fs ((flxsOf true l p).take k) ++ Fs [flxOf true l q] by
    rw [List.take_add_one, show (flxsOf true l p)[k]? = some (flxOf true l q) by unfold flxsOf; rw [List.getElem?_map, hq]; rfl, Fs_append]
    rfl)
   have hlk : ((flxsOf true l p).take k).length ≤ 16 := by rw [List.length_take]; omega
   have hlti : (k : Int) < (kid l (p : Int)).length := by omega
   have hqi : (q : Int) < l.length := by omega
   have hkw : IntKind.i64.wrap ((k : Int) + 1) = (k : Int) + 1 := by rw [IntKind.wrap_i64]; omega
   have CK := Lib.hid (fun w9 (h : Ext wr w9) => cell_below h ck)
   clear hq hqp
   go_wp2_with (fail)
   refine HN.out.mono ?_
   rintro e w3 ⟨rfl, hx3⟩
   have ck3 := CK.out w3 hx3
   have ho3 := ho.below hx3 (Nat.le_refl _)
   have hb3 := hb.trans (hx3.mono hsz)
   have hs3 := hb3.size
   obtain ⟨bt, ot, rfl, hbt, _, ⟨d0, d1, d2, d3, d4, d5, d6, d7, d8⟩⟩ := bx_cells (HRD.out.below hb3 (Nat.le_refl _)) hql
   clear HN ck hx3 ho hb CK hbt
   go_wp2_with (at_builtin; refine wpList_app rfl _ _ _ rfl el_flex rfl ((ho3.alloc _).alloc _) rfl (show Rd _ 5 _ (Fs [flxOf true l q]) from Rd.oneAt _ _ (by simp)) (Fs_one _) ?hl ?hb ?hK)
   case hl => rw [Fs_length, Fs_length]; simp only [List.length_singleton]; omega
   case hb => simp; omega
   intro v' w5 ho5 hg5 hf5
   have hb5 := below_app ((hb3.alloc hs3 _).alloc (by simp; omega) _) ((ho3.alloc _).alloc _) hg5 (by simp; omega) (Nat.le_refl _)
   go_wp2
   go_roundw
   case rel => exact ⟨k + 1, by omega, by go_num, by rw [ET.out]; exact ho5, hb5⟩
   case measure => simp [intOf]; omega
  ·obtain rfl : k = (kid l (p : Int)).length := by omega
   rw [List.take_of_length_le (by rw [flxs_length]; exact Nat.le_refl _)] at ho
   have hjj : ¬ ((kid l (p : Int)).length : Int) < (kid l (p : Int)).length := by omega
   go_wp2
   go_ret
   exact ⟨_, rfl, ho, hb⟩
set_option maxRecDepth 100000 in
set_option maxHeartbeats 2000000 in
theorem sflexes_false {tv lv : Value} {l : List Bx} {p : Nat} (w : World) (hv : Valid l) (hrd : Rd w 9 tv (Bs l)) (hp : p < l.length) (hL : Rd w 1 lv (Is (ni (kid l (p : Int))))) :
 Calls Tryz.prog 142 #[tv, lv, .bool false] w fun e w' => ∃ v', e = .returned v' ∧ Own w' w.heap.size 5 v' (Fs (flxsOf false l p)) ∧ Ext w w' := by
 have HRD := Lib.hid hrd
 have HV := Lib.hid hv
 obtain ⟨at_, ct, rfl, hnt, hct, _⟩ := hrd.boxes
 obtain ⟨al, cl, rfl, hnl, hcl, _⟩ := hL.ints
 rw [ni_length] at hnl hL ⊢
 have HL := Lib.hid hL
 unfold maxLen at hct hcl
 have hkn := (HV.out.kids p hp).1
 have hhi := HV.out.hi
 clear hv hrd hL
 have hb0 := Below.of_alloc w (.cells #[] 156)
 go_enter Tryz.func142, Tryz.ntmps142
 go_wp2_with (fail)
 go_loopw [7, 8] (fun out i wr => ∃ k : Nat, k ≤ (kid l (p : Int)).length ∧ i = .int .i64 k ∧ Own wr w.heap.size 5 out (Fs ((flxsOf false l p).take k)) ∧ Below w.heap.size w wr) (fun _ i _ => (kid l (p : Int)).length - (intOf i).toNat)
 case atStart => exact ⟨0, Nat.zero_le _, rfl, Own.empty _ _ _ _, hb0⟩
 case round =>
  clear hb0
  obtain ⟨k, hk, rfl, ho, hb⟩ := hrel
  have hsz := hb.size
  by_cases hlt : k < (kid l (p : Int)).length
  ·obtain ⟨q, hq⟩ : ∃ q, (kid l (p : Int))[k]? = some q := ⟨_, List.getElem?_eq_getElem hlt⟩
   obtain ⟨hql, hqp⟩ := mem_kid_iff.1 (List.mem_of_getElem? hq)
   obtain ⟨ga, oa, rfl, ck⟩ := (HL.out.below hb (Nat.le_refl _)).intAt (show (ni (kid l (p : Int)))[k]? = some (q : Int) by simp [ni, hq])
   have HN := Lib.hid (snatural_any HV.out wr (i := (q : Int)) (by omega) (by omega) (HRD.out.below hb (Nat.le_refl _)))
   rw [Int.toNat_natCast] at HN
   have ET := Lib.hid (show Fs ((flxsOf false l p).take (k + 1)) = Fs ((flxsOf false l p).take k) ++ Fs [flxOf false l q] by
    rw [List.take_add_one, show (flxsOf false l p)[k]? = some (flxOf false l q) by unfold flxsOf; rw [List.getElem?_map, hq]; rfl, Fs_append]
    rfl)
   have hlk : ((flxsOf false l p).take k).length ≤ 16 := by rw [List.length_take]; omega
   have hlti : (k : Int) < (kid l (p : Int)).length := by omega
   have hqi : (q : Int) < l.length := by omega
   have hkw : IntKind.i64.wrap ((k : Int) + 1) = (k : Int) + 1 := by rw [IntKind.wrap_i64]; omega
   have CK := Lib.hid (fun w9 (h : Ext wr w9) => cell_below h ck)
   clear hq hqp
   go_wp2_with (fail)
   refine HN.out.mono ?_
   rintro e w3 ⟨rfl, hx3⟩
   have ck3 := CK.out w3 hx3
   have ho3 := ho.below hx3 (Nat.le_refl _)
   have hb3 := hb.trans (hx3.mono hsz)
   have hs3 := hb3.size
   obtain ⟨bt, ot, rfl, hbt, _, ⟨d0, d1, d2, d3, d4, d5, d6, d7, d8⟩⟩ := bx_cells (HRD.out.below hb3 (Nat.le_refl _)) hql
   clear HN ck hx3 ho hb CK hbt
   go_wp2_with (at_builtin; refine wpList_app rfl _ _ _ rfl el_flex rfl ((ho3.alloc _).alloc _) rfl (show Rd _ 5 _ (Fs [flxOf false l q]) from Rd.oneAt _ _ (by simp)) (Fs_one _) ?hl ?hb ?hK)
   case hl => rw [Fs_length, Fs_length]; simp only [List.length_singleton]; omega
   case hb => simp; omega
   intro v' w5 ho5 hg5 hf5
   have hb5 := below_app ((hb3.alloc hs3 _).alloc (by simp; omega) _) ((ho3.alloc _).alloc _) hg5 (by simp; omega) (Nat.le_refl _)
   go_wp2
   go_roundw
   case rel => exact ⟨k + 1, by omega, by go_num, by rw [ET.out]; exact ho5, hb5⟩
   case measure => simp [intOf]; omega
  ·obtain rfl : k = (kid l (p : Int)).length := by omega
   rw [List.take_of_length_le (by rw [flxs_length]; exact Nat.le_refl _)] at ho
   have hjj : ¬ ((kid l (p : Int)).length : Int) < (kid l (p : Int)).length := by omega
   go_wp2
   go_ret
   exact ⟨_, rfl, ho, hb⟩

def Rc.small (r : Rc) : Prop := (-1000000 ≤ r.x ∧ r.x ≤ 1000000) ∧ (-1000000 ≤ r.y ∧ r.y ≤ 1000000) ∧ (-1000000 ≤ r.w ∧ r.w ≤ 1000000) ∧ (-1000000 ≤ r.h ∧ r.h ≤ 1000000)
theorem VR.rs {r : Rc} (h : VR r) : RS r := by
 obtain ⟨h1, h2, h3, h4⟩ := h
 rw [inR_iff] at h1 h2 h3 h4
 exact ⟨by omega, by omega, by omega, by omega⟩
set_option maxHeartbeats 2000000 in
theorem has_any {r : Rc} (x y : Int) (w : World) (hr : RS r) :
 Calls Tryz.prog 94 #[r.agg, .int .i64 x, .int .i64 y] w fun e w' => e = .returned (.bool (hasB r x y)) ∧ Ext w w' := by
 obtain ⟨rx, ry, rw_, rh⟩ := r
 obtain ⟨a1, a2, a3, a4⟩ := hr
 dsimp only at a1 a2 a3 a4
 have hb0 := Below.of_alloc w (.cells #[.int .i64 rx, .int .i64 ry, .int .i64 rw_, .int .i64 rh] 96)
 have hw1 : IntKind.i64.wrap (rx + rw_) = rx + rw_ := by rw [IntKind.wrap_i64]; omega
 have hw2 : IntKind.i64.wrap (ry + rh) = ry + rh := by rw [IntKind.wrap_i64]; omega
 unfold Rc.agg
 go_enter Tryz.func94, Tryz.ntmps94
 by_cases h1 : rx ≤ x
 ·by_cases h2 : x < rx + rw_
  ·by_cases h3 : ry ≤ y
   ·by_cases h4 : y < ry + rh
    ·go_wp2
     go_ret
     exact ⟨by simp [hasB, h1, h2, h3, h4], hb0⟩
    ·go_wp2
     go_ret
     exact ⟨by simp [hasB, h1, h2, h3, h4], hb0⟩
   ·go_wp2
    go_ret
    exact ⟨by simp [hasB, h1, h2]; omega, hb0⟩
  ·go_wp2
   go_ret
   exact ⟨by simp [hasB, h1]; omega, hb0⟩
 ·go_wp2
  go_ret
  exact ⟨by simp [hasB]; omega, hb0⟩
set_option maxHeartbeats 2000000 in
theorem sinRect_any {r : Rc} (x y : Int) (w : World) (hr : RS r) :
 Calls Tryz.prog 102 #[r.agg, .int .i64 x, .int .i64 y] w fun e w' => e = .returned (.bool (hasB r x y)) ∧ Ext w w' := by
 obtain ⟨rx, ry, rw_, rh⟩ := r
 obtain ⟨a1, a2, a3, a4⟩ := hr
 dsimp only at a1 a2 a3 a4
 have hb0 := Below.of_alloc w (.cells #[.int .i64 rx, .int .i64 ry, .int .i64 rw_, .int .i64 rh] 96)
 have hw1 : IntKind.i64.wrap (rx + rw_) = rx + rw_ := by rw [IntKind.wrap_i64]; omega
 have hw2 : IntKind.i64.wrap (ry + rh) = ry + rh := by rw [IntKind.wrap_i64]; omega
 unfold Rc.agg
 go_enter Tryz.func102, Tryz.ntmps102
 by_cases h1 : rx ≤ x
 ·by_cases h2 : x < rx + rw_
  ·by_cases h3 : ry ≤ y
   ·by_cases h4 : y < ry + rh
    ·go_wp2
     go_ret
     exact ⟨by simp [hasB, h1, h2, h3, h4], hb0⟩
    ·go_wp2
     go_ret
     exact ⟨by simp [hasB, h1, h2, h3, h4], hb0⟩
   ·go_wp2
    go_ret
    exact ⟨by simp [hasB, h1, h2]; omega, hb0⟩
  ·go_wp2
   go_ret
   exact ⟨by simp [hasB, h1]; omega, hb0⟩
 ·go_wp2
  go_ret
  exact ⟨by simp [hasB]; omega, hb0⟩
set_option maxRecDepth 100000 in
set_option maxHeartbeats 2000000 in
theorem sStyleBox_any {v : Value} {l : List Bx} (i : Int) (x : Bx) (w : World) (hv : Rd w 9 v (Bs l)) (hl : l.length ≤ 1048576) :
 Calls Tryz.prog 69 #[v, .int .i64 i, x.agg] w fun e w' => ∃ v', e = .returned (.tuple #[v', .bool (styleOk l i x)]) ∧ Own w' w.heap.size 9 v' (Bs (orNo (styleOk l i x) (styleL l i x))) ∧ Ext w w' := by
 have hrd := hv
 obtain ⟨a, c, rfl, hn, hc, hcell⟩ := hv.boxes
 unfold maxLen at hc
 unfold Bx.agg
 by_cases hvb : vldB l = true
 ·by_cases hin : inR i 0 ((l.length : Int) - 1) = true
  ·have h : inB l i = true := by unfold inB; rw [hvb, hin]; rfl
   obtain ⟨hval, h0, hi⟩ := inB_iff.1 h
   obtain ⟨i, rfl⟩ := Int.eq_ofNat_of_zero_le h0
   have hi' : i < l.length := by omega
   have hll := hval.hi
   have H := Lib.hid h
   clear hval hv hcell h
   go_enter Tryz.func69, Tryz.ntmps69
   go_wp2_with (fail)
   refine (validTree_any (l := l) _ (hrd.alloc _) (by omega)).mono ?_
   rintro e w1 ⟨he, hx1⟩
   rw [hvb] at he
   subst he
   have hb1 := after (Below.of_alloc w _) hx1 (Nat.le_refl _)
   have hB : Keep w.heap.size (.cells x.arr 39) w1 := by
    show w1.heap[w.heap.size]? = _
    rw [hx1.block _ (by simp)]
    exact heap_alloc_new w _
   have hBl := hB.lt
   clear hx1
   go_wp2_with (fail)
   refine (inRange_any _ _ _ _).mono ?_
   rintro e w2 ⟨he, rfl⟩
   rw [hin] at he
   subst he
   have hr1 := (hrd.below hb1 (Nat.le_refl _)).alloc (.cells #[] 39)
   go_wp2_with (at_builtin; refine wpList_app rfl _ _ _ rfl el_box rfl (Own.empty _ (w.heap.size + 1) 9 _) rfl hr1 (Bs_one _) ?hl1 ?hb1 ?hK1)
   case hl1 => rw [Bs_length]; simp; omega
   case hb1 => simp; omega
   intro v2 w2 ho2 hg2 hf2
   have hx2 : Ext (w1.alloc (.cells #[] 39)) w2 := by
    refine ⟨hg2.os, hg2.tape, hg2.output, hg2.size, fun k hk => hg2.block k hk (by simp [blk])⟩
   have hb2 := after (hb1.alloc (by omega) (.cells #[] 39)) hx2 (by simp)
   have hK2 : Keep w.heap.size (.cells x.arr 39) w2 := by
    have h := hB.alloc (.cells #[] 39)
    show w2.heap[w.heap.size]? = _
    rw [hx2.block _ h.lt]
    exact h
   clear hg2 hf2 hx2 hr1
   obtain ⟨b2, off2, n2, c2, rfl, hn2, hblk2, hbb2, hbs2, _, _, _⟩ := ho2.cells (by
    intro e
    have := congrArg List.length e
    rw [Bs_length, List.length_nil] at this
    omega)
   rw [Bs_length] at hn2
   obtain rfl : n2 = l.length := by omega
   obtain ⟨hC, _⟩ := ho2.cellF hi'
   have g0 : w2.cell? ⟨b2, off2 + i * 9, none⟩ = some (.int .i64 (par l i)) := hC.c0
   have f0 : w2.frozen? ⟨w.heap.size, 0, none⟩ = false := hK2.frozen 0
   have p0 : w2.cell? ⟨w.heap.size, 0, none⟩ = some (.int .i64 x.parent) := hK2.cell 0
   have hK3 : Keep w.heap.size (.cells (x.at (par l i)).arr 39) (w2.setCell ⟨w.heap.size, 0, none⟩ (.int .i64 (par l i))) := hK2.store 0 (.int .i64 (par l i))
   have ho3 := ho2.setOther (p := ⟨w.heap.size, 0, none⟩) (by intro e; rw [hblk2] at e; simp at e; omega) (.int .i64 (par l i))
   have hb3 := hb2.setCell (p := ⟨w.heap.size, 0, none⟩) (Nat.le_refl _) (.int .i64 (par l i))
   clear hC hblk2 ho2 hb2 hb1 hB hK2
   go_upto_region 5 with fail
   clear g0 f0 p0
   change Code.wp _ _ _ _ (w2.setCell ⟨w.heap.size, 0, none⟩ (.int .i64 (par l i)))
   generalize w2.setCell ⟨w.heap.size, 0, none⟩ (.int .i64 (par l i)) = W3 at *
   obtain ⟨d0, d1, d2, d3, d4, d5, d6, d7, d8⟩ := cells9_of hK3
   obtain ⟨hC, hF⟩ := ho3.cellF hi'
   obtain ⟨g0, g1, g2, g3, g4, g5, g6, g7, g8⟩ := hC
   have q0 := hF 0
   have q1 := hF 1
   have q2 := hF 2
   have q3 := hF 3
   have q4 := hF 4
   have q5 := hF 5
   have q6 := hF 6
   have q7 := hF 7
   have q8 := hF 8
   simp only [Nat.add_zero] at q0
   have hset := setBx_own ho3 rfl hi' (x.at (par l i))
   have hsb := setBx_below (B := w.heap.size) (b := b2) (o := off2 + i * 9) W3 (x.at (par l i)) (by omega)
   have hb4 := hb3.trans hsb
   have hst : Hid (styleOk l (i : Int) x = vldB (l.set i (x.at (par l i)))) := by
    show _ = _
    unfold styleOk styleL
    rw [H.out]
    simp
   have hsl : Hid (styleL l (i : Int) x = l.set i (x.at (par l i))) := by
    show _ = _
    unfold styleL
    simp
   clear hsb hF hK3 ho3 hb3
   by_cases hv2 : vldB (l.set i (x.at (par l i))) = true
   ·have HV2 := Lib.hid hv2
    clear hv2
    go_wp2_with (fail)
    refine (validTree_any (l := l.set i (x.at (par l i))) _ hset.rd (by simp; omega)).mono ?_
    rintro e w4 ⟨he, hx4⟩
    rw [HV2.out] at he
    subst he
    go_wp2
    go_ret2
    refine ⟨_, by rw [hst.out, HV2.out]; rfl, ?_, after hb4 hx4 (Nat.le_refl _)⟩
    rw [hst.out, hsl.out, HV2.out]
    exact (hset.below hx4 (Nat.le_refl _)).weak (by omega)
   ·have HV2 : Hid (vldB (l.set i (x.at (par l i))) = false) := by
     show _ = _
     simpa using hv2
    clear hv2
    go_wp2_with (fail)
    refine (validTree_any (l := l.set i (x.at (par l i))) _ hset.rd (by simp; omega)).mono ?_
    rintro e w4 ⟨he, hx4⟩
    rw [HV2.out] at he
    subst he
    go_wp2
    go_ret2
    refine ⟨_, by rw [hst.out, HV2.out]; rfl, ?_, after hb4 hx4 (Nat.le_refl _)⟩
    rw [hst.out, HV2.out]
    exact Own.nil _ _ _
  ·have hin' : inR i 0 ((l.length : Int) - 1) = false := by simpa using hin
   have hst : Hid (styleOk l i x = false) := by
    show _ = _
    unfold styleOk inB
    rw [hvb, hin']
    rfl
   clear hin hcell
   go_enter Tryz.func69, Tryz.ntmps69
   go_wp2_with (fail)
   refine (validTree_any (l := l) _ (hrd.alloc _) (by omega)).mono ?_
   rintro e w1 ⟨he, hx1⟩
   rw [hvb] at he
   subst he
   have hb1 := after (Below.of_alloc w _) hx1 (Nat.le_refl _)
   clear hx1
   go_wp2_with (fail)
   refine (inRange_any _ _ _ _).mono ?_
   rintro e w2 ⟨he, rfl⟩
   rw [hin'] at he
   subst he
   go_wp2
   go_ret2
   refine ⟨_, by rw [hst.out]; rfl, ?_, hb1⟩
   rw [hst.out]
   exact Own.nil _ _ _
 ·have hvb' : vldB l = false := by simpa using hvb
  have hst : Hid (styleOk l i x = false) := by
   show _ = _
   unfold styleOk inB
   rw [hvb']
   rfl
  clear hvb hcell
  go_enter Tryz.func69, Tryz.ntmps69
  go_wp2_with (fail)
  refine (validTree_any (l := l) _ (hrd.alloc _) (by omega)).mono ?_
  rintro e w1 ⟨he, hx1⟩
  rw [hvb'] at he
  subst he
  have hb1 := after (Below.of_alloc w _) hx1 (Nat.le_refl _)
  clear hx1
  go_wp2
  go_ret2
  refine ⟨_, by rw [hst.out]; rfl, ?_, hb1⟩
  rw [hst.out]
  exact Own.nil _ _ _
end Go.Proofs.YthkkgleoikpfgaaGreatDoor
