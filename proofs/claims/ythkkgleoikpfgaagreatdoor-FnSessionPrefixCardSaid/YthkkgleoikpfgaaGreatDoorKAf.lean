/-
  Parts of the proof: Prs Prt Pw Snum.
-/
import Derived.Test.YthkkgleoikpfgaaGreatDoorKAb
import Derived.Test.YthkkgleoikpfgaaGreatDoorKAe
import Derived.Lib.ItoaNum
namespace Go.Proofs.YthkkgleoikpfgaaGreatDoor
open Go Go.RowKit
/-! ### splitting at a byte -/
def splitB (c : UInt8) : List UInt8 → List (List UInt8)
 | [] => [[]]
 | x :: t => if x = c then [] :: splitB c t else
  match splitB c t with
  | [] => [[x]]
  | h :: r => (x :: h) :: r
theorem splitB_ne (c : UInt8) : ∀ s, splitB c s ≠ []
 | [] => by simp [splitB]
 | x :: t => by
  unfold splitB
  split
  ·simp
  ·split <;> simp
theorem splitB_app (c : UInt8) (t : List UInt8) : ∀ x : List UInt8, (∀ y, y ∈ x → y ≠ c) → splitB c (x ++ c :: t) = x :: splitB c t
 | [], _ => by
  show splitB c (c :: t) = _
  conv => lhs; unfold splitB
  rw [if_pos rfl]
 | y :: x, h => by
  have hy := h y List.mem_cons_self
  have ih := splitB_app c t x fun z hz => h z (List.mem_cons_of_mem _ hz)
  show splitB c (y :: (x ++ c :: t)) = _
  conv => lhs; unfold splitB
  rw [if_neg hy, ih]
theorem splitB_word (c : UInt8) : ∀ x : List UInt8, (∀ y, y ∈ x → y ≠ c) → splitB c x = [x]
 | [], _ => rfl
 | y :: x, h => by
  have hy := h y List.mem_cons_self
  have ih := splitB_word c x fun z hz => h z (List.mem_cons_of_mem _ hz)
  unfold splitB
  rw [if_neg hy, ih]
theorem splitB_join (c : UInt8) : ∀ (l : List (List UInt8)), l ≠ [] → (∀ x, x ∈ l → ∀ y, y ∈ x → y ≠ c) → splitB c (Lib.join l [c]) = l
 | [], h, _ => absurd rfl h
 | [x], _, hx => by
  rw [join_flat]
  simp only [List.map_nil, List.flatten_nil, List.append_nil]
  exact splitB_word c x (hx x List.mem_cons_self)
 | x :: y :: r, _, hx => by
  have ih := splitB_join c (y :: r) (by simp) fun z hz => hx z (List.mem_cons_of_mem _ hz)
  rw [join_flat] at ih ⊢
  rw [List.map_cons, List.flatten_cons, show [c] ++ y ++ (r.map ([c] ++ ·)).flatten = c :: (y ++ (r.map ([c] ++ ·)).flatten) by simp, splitB_app c _ x (hx x List.mem_cons_self), ih]
theorem split_box (b : Bx) : splitB 32 (boxT b) = kindT b.kind :: restW b := by
 rw [show boxT b = Lib.join (kindT b.kind :: restW b) [32] from (join_words _ _).symm]
 refine splitB_join 32 _ (by simp) fun x hx y hy => ?_
 rcases List.mem_cons.1 hx with rfl | hx
 ·exact ((kind_isW _).2 y hy).1
 ·exact ((rest_isW b x hx).2 y hy).1
/-- the number of a list of digits -/
def decVal (s : List UInt8) : Nat := s.foldl (fun v c => 10 * v + (c.toNat - 48)) 0
theorem decVal_app (s : List UInt8) (c : UInt8) : decVal (s ++ [c]) = 10 * decVal s + (c.toNat - 48) := by
 unfold decVal
 rw [List.foldl_append]
 rfl
theorem digit_val {d : Nat} (h : d < 10) : (UInt8.ofNat (48 + d)).toNat - 48 = d := by
 rw [UInt8.toNat_ofNat']
 omega
theorem decVal_dec (n : Nat) : decVal (Lib.decDigits n) = n := by
 induction n using Nat.strongRecOn with
 | _ n ih =>
  rw [Lib.decDigits]
  split
  ·rename_i h
   show 10 * 0 + ((UInt8.ofNat (48 + n)).toNat - 48) = n
   rw [digit_val h]
   omega
  ·rw [decVal_app, ih (n / 10) (by omega), digit_val (by omega)]
   omega
/-- the minus signs at the beginning of a text -/
def dashes : List UInt8 → Nat
 | [] => 0
 | c :: t => if c = 45 then dashes t + 1 else 0
theorem anc_suffix {l : List Bx} : ∀ (j : Nat), Down l j → ∀ p, p ∈ anc l j → ∃ pre, anc l j = pre ++ anc l p := by
 intro j
 induction j using Nat.strongRecOn with
 | _ j ih =>
  intro hd p hp
  by_cases e : p = j
  ·subst e
   exact ⟨[], rfl⟩
  ·have hlt := hd j (Nat.le_refl _)
   have he := anc_eq hd
   rw [he] at hp
   rcases List.mem_cons.1 hp with h | h
   ·exact absurd h e
   ·by_cases h0 : 0 ≤ par l j
    ·rw [if_pos h0] at h he
     obtain ⟨pre, hpre⟩ := ih (par l j).toNat (by omega) (hd.mono (by omega)) p h
     exact ⟨j :: pre, by rw [he, hpre]; rfl⟩
    ·rw [if_neg h0] at h
     cases h
theorem anc_same {l m : List Bx} : ∀ (j : Nat), Down l j → Down m j → (∀ k, k ≤ j → par l k = par m k) → anc l j = anc m j := by
 intro j
 induction j using Nat.strongRecOn with
 | _ j ih =>
  intro h1 h2 h
  have hlt := h1 j (Nat.le_refl _)
  rw [anc_eq h1, anc_eq h2, ← h j (Nat.le_refl _)]
  by_cases h0 : 0 ≤ par l j
  ·rw [if_pos h0, if_pos h0, ih (par l j).toNat (by omega) (h1.mono (by omega)) (h2.mono (by omega)) fun k hk => h k (by omega)]
  ·rw [if_neg h0, if_neg h0]
/-! ### numbers of at most five digits -/
def digB (c : UInt8) : Bool := decide (48 ≤ c.toNat) && decide (c.toNat ≤ 57)
/-- the number with a decimal form of at most five digits, -1 for others -/
def prI (s : List UInt8) : Int :=
 if s.length = 0 ∨ 5 < s.length then -1 else if s.all digB = true then (if Lib.decDigits (decVal s) = s then (decVal s : Int) else -1) else -1
theorem decVal_lt' : ∀ (n : Nat) (s : List UInt8), s.length = n → s.all digB = true → decVal s < 10 ^ n := by
 intro n
 induction n with
 | zero =>
  intro s hs _
  rw [List.eq_nil_of_length_eq_zero hs]
  decide
 | succ n ih =>
  intro s hs h
  have hne : s ≠ [] := fun e => by rw [e] at hs; cases hs
  have e := List.dropLast_concat_getLast hne
  generalize s.getLast hne = c at e
  have hl : s.dropLast.length = n := by rw [List.length_dropLast]; omega
  generalize s.dropLast = t at *
  subst e
  rw [List.all_append, Bool.and_eq_true] at h
  have h1 := ih t hl h.1
  have h2 : digB c = true := by simpa using h.2
  unfold digB at h2
  rw [Bool.and_eq_true, decide_eq_true_eq, decide_eq_true_eq] at h2
  rw [decVal_app, Nat.pow_succ]
  omega
theorem decVal_lt (s : List UInt8) (h : s.all digB = true) : decVal s < 10 ^ s.length := decVal_lt' _ s rfl h
theorem decVal_5 {s : List UInt8} (h : s.all digB = true) (hl : s.length ≤ 5) : decVal s < 100000 :=
 Nat.lt_of_lt_of_le (decVal_lt s h) (Nat.le_trans (Nat.pow_le_pow_right (by decide) hl) (by decide))
theorem take_snoc {s : List UInt8} {k : Nat} {c : UInt8} (h : s[k]? = some c) : s.take (k + 1) = s.take k ++ [c] := by
 obtain ⟨h1, rfl⟩ := List.getElem?_eq_some_iff.1 h
 exact List.take_succ_eq_append_getElem h1
theorem decDigits_len5 : ∀ n : Nat, n ≤ 100 → (Lib.decDigits n).length ≤ 5 := by
 intro n h
 rw [Lib.decDigits]
 split
 ·simp
 ·rw [List.length_append, Lib.decDigits]
  split
  ·simp
  ·rw [List.length_append, Lib.decDigits]
   split
   ·simp
   ·omega
theorem dig_ok {d : Nat} (h : d < 10) : digB (UInt8.ofNat (48 + d)) = true := by
 unfold digB
 rw [UInt8.toNat_ofNat', Bool.and_eq_true, decide_eq_true_eq, decide_eq_true_eq]
 omega
theorem dec_digits (n : Nat) : (Lib.decDigits n).all digB = true := by
 induction n using Nat.strongRecOn with
 | _ n ih =>
  rw [Lib.decDigits]
  split
  ·rename_i h
   rw [List.all_cons, dig_ok h]
   rfl
  ·rw [List.all_append, ih (n / 10) (by omega)]
   rw [List.all_cons, dig_ok (show n % 10 < 10 by omega)]
   rfl
theorem prI_num {n : Int} (h : 0 ≤ n ∧ n ≤ 100) : prI (numT n) = n := by
 unfold prI numT
 have h1 := dec_ne n.toNat
 have h2 := decDigits_len5 n.toNat (by omega)
 have h3 : ¬ ((Lib.decDigits n.toNat).length = 0 ∨ 5 < (Lib.decDigits n.toNat).length) := by
  rintro (h | h)
  ·exact h1 (List.eq_nil_of_length_eq_zero h)
  ·omega
 rw [if_neg h3, if_pos (dec_digits _), decVal_dec, if_pos rfl]
 omega
/-! ### the words of a box -/
def kTo (x : List UInt8) : Nat → Int
 | 0 => -1
 | k + 1 => if x = kindT (k : Int) then (k : Int) else kTo x k
theorem kTo_kind {k : Int} (h : 0 ≤ k ∧ k ≤ 3) : kTo (kindT k) 4 = k := by
 have e : k = 0 ∨ k = 1 ∨ k = 2 ∨ k = 3 := by omega
 rcases e with rfl | rfl | rfl | rfl <;> decide
theorem kTo_le (x : List UInt8) : ∀ k, -1 ≤ kTo x k ∧ kTo x k < k
 | 0 => ⟨Int.le_refl _, by show (-1 : Int) < 0; omega⟩
 | k + 1 => by
  have := kTo_le x k
  unfold kTo
  split <;> omega
def setW (x : List UInt8) (n : Int) (b : Bx) : Bx :=
 if x = padT then { b with pad := n } else if x = gapT then { b with gap := n } else if x = growT then { b with grow := n } else if x = shrinkT then { b with shrink := n } else if x = justifyT then { b with justify := n } else b
/-- words by pairs, as the reference reads them -/
def runW : List (List UInt8) → Bx → Bx
 | x :: y :: r, b => runW r (setW x (prI y) b)
 | _, b => b
theorem runW_short {r : List (List UInt8)} {b : Bx} (h : r.length ≤ 1) : runW r b = b := by
 match r, h with
 | [], _ => rfl
 | [_], _ => rfl
theorem runW_sty {name : List UInt8} {n : Int} (hn : 0 ≤ n ∧ n ≤ 100) (R : List (List UInt8)) (b : Bx) (h0 : n = 0 → setW name n b = b) : runW (styT name n ++ R) b = runW R (setW name n b) := by
 unfold styT
 split
 ·rename_i h
  rw [h0 h]
  rfl
 ·show runW R (setW name (prI (numT n)) b) = _
  rw [prI_num hn]
/-- the kind and the size -/
def headW (ws : List (List UInt8)) : Bx :=
 if kTo (ws.headD []) 4 = 0 ∧ 2 < ws.length then ⟨0, 0, prI (ws.getD 1 []), prI (ws.getD 2 []), 0, 0, 0, 0, 0⟩ else ⟨0, kTo (ws.headD []) 4, 0, 0, 0, 0, 0, 0, 0⟩
def restOf (ws : List (List UInt8)) : List (List UInt8) := if kTo (ws.headD []) 4 = 0 ∧ 2 < ws.length then ws.drop 3 else ws.drop 1
/-- the box of words, as the reference reads them -/
def wordsB (ws : List (List UInt8)) : Bx := runW (restOf ws) (headW ws)
theorem runW_parent : ∀ (r : List (List UInt8)) (b : Bx), (runW r b).parent = b.parent
 | [], _ => rfl
 | [_], _ => rfl
 | x :: y :: r, b => by
  show (runW r (setW x (prI y) b)).parent = _
  rw [runW_parent r]
  unfold setW
  split
  ·rfl
  ·split
   ·rfl
   ·split
    ·rfl
    ·split
     ·rfl
     ·split <;> rfl
theorem wordsB_parent (ws : List (List UInt8)) : (wordsB ws).parent = 0 := by
 unfold wordsB
 rw [runW_parent]
 unfold headW
 split <;> rfl
theorem okB_flat {b : Bx} (h : okB b = true) (hk : b.kind ≠ 0) : b.w = 0 ∧ b.h = 0 := by
 rw [okB_eq] at h
 simp only [Bool.and_eq_true, Bool.or_eq_true, beq_iff_eq] at h
 rcases h.2 with h | h
 ·exact absurd h hk
 ·exact h
theorem okB_leaf_eta (b : Bx) (h : b.parent = 0) : b = ⟨0, b.kind, b.w, b.h, b.pad, b.gap, b.grow, b.shrink, b.justify⟩ := by
 cases b
 cases h
 rfl
theorem words_box {b : Bx} (hb : okB b = true) (hp : b.parent = 0) : wordsB (splitB 32 (boxT b)) = b := by
 have h := okB_bounds hb
 rw [split_box b]
 have hk := kTo_kind (k := b.kind) (by omega)
 have hs : ∀ c : Bx, c.pad = 0 → c.gap = 0 → c.grow = 0 → c.shrink = 0 → c.justify = 0 → runW (styT padT b.pad ++ (styT gapT b.gap ++ (styT growT b.grow ++ (styT shrinkT b.shrink ++ styT justifyT b.justify)))) c = ⟨c.parent, c.kind, c.w, c.h, b.pad, b.gap, b.grow, b.shrink, b.justify⟩ := by
  rintro ⟨c0, c1, c2, c3, c4, c5, c6, c7, c8⟩ e4 e5 e6 e7 e8
  dsimp only at e4 e5 e6 e7 e8
  subst e4 e5 e6 e7 e8
  rw [runW_sty (by omega) _ _ (fun e => by rw [e]; rfl), runW_sty (by omega) _ _ (fun e => by rw [e]; rfl), runW_sty (by omega) _ _ (fun e => by rw [e]; rfl), runW_sty (by omega) _ _ (fun e => by rw [e]; rfl), ← List.append_nil (styT justifyT b.justify), runW_sty (by omega) _ _ (fun e => by rw [e]; rfl)]
  rfl
 unfold wordsB restOf headW
 rw [List.headD_cons, hk]
 unfold restW
 by_cases hz : b.kind = 0
 ·rw [if_pos hz, if_pos ⟨hz, by simp⟩, if_pos ⟨hz, by simp⟩]
  show runW (styT padT b.pad ++ (styT gapT b.gap ++ (styT growT b.grow ++ (styT shrinkT b.shrink ++ styT justifyT b.justify)))) ⟨0, 0, prI (numT b.w), prI (numT b.h), 0, 0, 0, 0, 0⟩ = b
  rw [hs _ rfl rfl rfl rfl rfl, prI_num (by omega), prI_num (by omega)]
  conv => rhs; rw [okB_leaf_eta b hp, hz]
 ·rw [if_neg hz, if_neg (fun e => hz e.1), if_neg (fun e => hz e.1)]
  show runW (styT padT b.pad ++ (styT gapT b.gap ++ (styT growT b.grow ++ (styT shrinkT b.shrink ++ styT justifyT b.justify)))) ⟨0, b.kind, 0, 0, 0, 0, 0, 0, 0⟩ = b
  obtain ⟨hw, hh⟩ := okB_flat hb hz
  rw [hs _ rfl rfl rfl rfl rfl]
  conv => rhs; rw [okB_leaf_eta b hp, hw, hh]
/-- the box with a text, if there is one -/
def pB (s : List UInt8) : Option Bx := if okB (wordsB (splitB 32 s)) = true ∧ boxT (wordsB (splitB 32 s)) = s then some (wordsB (splitB 32 s)) else none
theorem pB_box {b : Bx} (hb : okB b = true) (hp : b.parent = 0) : pB (boxT b) = some b := by
 unfold pB
 rw [words_box hb hp, if_pos ⟨hb, rfl⟩]
theorem pB_some {s : List UInt8} {b : Bx} (h : pB s = some b) : okB b = true ∧ boxT b = s ∧ b.parent = 0 := by
 unfold pB at h
 split at h
 ·rename_i h1
  cases h
  exact ⟨h1.1, h1.2, wordsB_parent _⟩
 ·cases h
theorem pB_iff {s : List UInt8} {b : Bx} (hb : okB b = true) (hp : b.parent = 0) (h : boxT b = s) : pB s = some b := by
 subst h
 exact pB_box hb hp
def yesT (b : Bool) : List UInt8 := if b then [111, 107] else [110, 111]
def dcZ (n : Int) : List UInt8 := Lib.itoa n
/-! ### numbers -/
theorem dec_head0 : ∀ (n : Nat) (c : UInt8) (r : List UInt8), Lib.decDigits n = c :: r → r ≠ [] → c ≠ 48 := by
 intro n
 induction n using Nat.strongRecOn with
 | _ n ih =>
  intro c r h hr hc
  rw [Lib.decDigits] at h
  split at h
  ·cases h
   exact hr rfl
  ·rename_i h10
   cases ha : Lib.decDigits (n / 10) with
   | nil => exact dec_ne _ ha
   | cons a t =>
    rw [ha] at h
    obtain ⟨rfl, ht⟩ : a = c ∧ _ := ⟨(List.cons.inj h).1, (List.cons.inj h).2⟩
    by_cases htn : t = []
    ·subst htn
     rw [Lib.decDigits] at ha
     split at ha
     ·rename_i hlt
      have h2 := (List.cons.inj ha).1
      rw [hc] at h2
      have h3 := congrArg UInt8.toNat h2
      rw [UInt8.toNat_ofNat'] at h3
      have : (48 : UInt8).toNat = 48 := rfl
      omega
     ·have h2 := congrArg List.length ha
      rw [List.length_append, List.length_singleton, List.length_singleton] at h2
      exact dec_ne (n / 10 / 10) (List.eq_nil_of_length_eq_zero (by omega))
    ·exact ih (n / 10) (by omega) a t ha htn hc
theorem dig_back {c : UInt8} (h : digB c = true) : UInt8.ofNat (48 + (c.toNat - 48)) = c := by
 unfold digB at h
 rw [Bool.and_eq_true, decide_eq_true_eq, decide_eq_true_eq] at h
 apply UInt8.toNat_inj.1
 rw [UInt8.toNat_ofNat']
 omega
theorem dec_back : ∀ (n : Nat) (s : List UInt8), s.length = n → s ≠ [] → s.all digB = true → (s.length = 1 ∨ s.head? ≠ some 48) → Lib.decDigits (decVal s) = s ∧ (s.head? ≠ some 48 → 0 < decVal s) := by
 intro n
 induction n with
 | zero =>
  intro s hs hne
  exact absurd (List.eq_nil_of_length_eq_zero hs) hne
 | succ n ih =>
  intro s hs hne hd h0
  have e := List.dropLast_concat_getLast hne
  generalize s.getLast hne = c at e
  have hl : s.dropLast.length = n := by rw [List.length_dropLast]; omega
  generalize s.dropLast = t at *
  subst e
  rw [List.all_append, Bool.and_eq_true] at hd
  have hc : digB c = true := by simpa using hd.2
  have hcb := hc
  unfold digB at hcb
  rw [Bool.and_eq_true, decide_eq_true_eq, decide_eq_true_eq] at hcb
  rw [decVal_app]
  by_cases htn : t = []
  ·subst htn
   refine ⟨?_, fun h => ?_⟩
   ·rw [show decVal [] = 0 from rfl, Lib.decDigits, dif_pos (by omega)]
    rw [show 10 * 0 + (c.toNat - 48) = c.toNat - 48 by omega, dig_back hc]
    rfl
   ·have : c ≠ 48 := fun e => h (by rw [e]; rfl)
    have : c.toNat ≠ 48 := fun e => this (UInt8.toNat_inj.1 e)
    rw [show decVal [] = 0 from rfl]
    omega
  ·have hh : t.head? ≠ some 48 := by
    rcases h0 with h0 | h0
    ·rw [List.length_append, List.length_singleton] at h0
     exact absurd (List.eq_nil_of_length_eq_zero (by omega)) htn
    ·rw [List.head?_append] at h0
     cases t with
     | nil => exact absurd rfl htn
     | cons a r => simpa using h0
   obtain ⟨h1, h2⟩ := ih t hl htn hd.1 (.inr hh)
   have h2 := h2 hh
   refine ⟨?_, fun _ => by omega⟩
   rw [Lib.decDigits, dif_neg (by omega), show (10 * decVal t + (c.toNat - 48)) / 10 = decVal t by omega, show (10 * decVal t + (c.toNat - 48)) % 10 = c.toNat - 48 by omega, h1, dig_back hc]
theorem prI_long {s : List UInt8} (h : s.length = 0 ∨ 5 < s.length) : prI s = -1 := by
 unfold prI
 rw [if_pos h]
theorem prI_bad {s : List UInt8} (h : s.all digB = false) : prI s = -1 := by
 unfold prI
 split
 ·rfl
 ·rw [if_neg (by rw [h]; exact Bool.false_ne_true)]
theorem prI_zero {s : List UInt8} (h1 : 1 < s.length) (h0 : s.head? = some 48) : prI s = -1 := by
 unfold prI
 split
 ·rfl
 ·split
  ·rw [if_neg]
   intro e
   cases s with
   | nil => cases h0
   | cons c r =>
    have hc : c = 48 := Option.some.inj h0
    refine dec_head0 _ c r e (fun hr => ?_) hc
    subst hr
    simp at h1
  ·rfl
theorem prI_digits {s : List UInt8} (h1 : 1 ≤ s.length) (h5 : s.length ≤ 5) (hd : s.all digB = true) (h0 : s.length = 1 ∨ s.head? ≠ some 48) : prI s = (decVal s : Int) := by
 unfold prI
 rw [if_neg (by omega), if_pos hd, if_pos (dec_back _ s rfl (fun e => by rw [e] at h1; simp at h1) hd h0).1]
end Go.Proofs.YthkkgleoikpfgaaGreatDoor
