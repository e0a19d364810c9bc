/-
  Plain laws: the words of a box's text, read one by one.
-/
import Derived.Test.YtdlggpphfkjidaaGreatDoorPrt
namespace Go.Proofs.YtdlggpphfkjidaaGreatDoor
open Go Go.RowKit

/-! ### numbers of at most five digits -/
def digB (c : UInt8) : Bool := decide (48 ≤ c.toNat) && decide (c.toNat ≤ 57)
/-- the number with a decimal form of at most five digits, -1 for others -/
def prI (s : List UInt8) : Int :=
  if s.length = 0 ∨ 5 < s.length then -1 else if s.all digB = true then (if Lib.decDigits (decVal s) = s then (decVal s : Int) else -1) else -1
theorem decVal_lt' : ∀ (n : Nat) (s : List UInt8), s.length = n → s.all digB = true → decVal s < 10 ^ n := by
  intro n
  induction n with
  | zero =>
    intro s hs _
    rw [List.eq_nil_of_length_eq_zero hs]
    decide
  | succ n ih =>
    intro s hs h
    have hne : s ≠ [] := fun e => by rw [e] at hs; cases hs
    have e := List.dropLast_concat_getLast hne
    generalize s.getLast hne = c at e
    have hl : s.dropLast.length = n := by rw [List.length_dropLast]; omega
    generalize s.dropLast = t at *
    subst e
    rw [List.all_append, Bool.and_eq_true] at h
    have h1 := ih t hl h.1
    have h2 : digB c = true := by simpa using h.2
    unfold digB at h2
    rw [Bool.and_eq_true, decide_eq_true_eq, decide_eq_true_eq] at h2
    rw [decVal_app, Nat.pow_succ]
    omega
theorem decVal_lt (s : List UInt8) (h : s.all digB = true) : decVal s < 10 ^ s.length := decVal_lt' _ s rfl h
theorem decVal_5 {s : List UInt8} (h : s.all digB = true) (hl : s.length ≤ 5) : decVal s < 100000 :=
  Nat.lt_of_lt_of_le (decVal_lt s h) (Nat.le_trans (Nat.pow_le_pow_right (by decide) hl) (by decide))
theorem take_snoc {s : List UInt8} {k : Nat} {c : UInt8} (h : s[k]? = some c) : s.take (k + 1) = s.take k ++ [c] := by
  obtain ⟨h1, rfl⟩ := List.getElem?_eq_some_iff.1 h
  exact List.take_succ_eq_append_getElem h1
theorem decDigits_len5 : ∀ n : Nat, n ≤ 100 → (Lib.decDigits n).length ≤ 5 := by
  intro n h
  rw [Lib.decDigits]
  split
  · simp
  · rw [List.length_append, Lib.decDigits]
    split
    · simp
    · rw [List.length_append, Lib.decDigits]
      split
      · simp
      · omega
theorem dig_ok {d : Nat} (h : d < 10) : digB (UInt8.ofNat (48 + d)) = true := by
  unfold digB
  rw [UInt8.toNat_ofNat', Bool.and_eq_true, decide_eq_true_eq, decide_eq_true_eq]
  omega
theorem dec_digits (n : Nat) : (Lib.decDigits n).all digB = true := by
  induction n using Nat.strongRecOn with
  | _ n ih =>
    rw [Lib.decDigits]
    split
    · rename_i h
      rw [List.all_cons, dig_ok h]
      rfl
    · rw [List.all_append, ih (n / 10) (by omega)]
      rw [List.all_cons, dig_ok (show n % 10 < 10 by omega)]
      rfl
theorem prI_num {n : Int} (h : 0 ≤ n ∧ n ≤ 100) : prI (numT n) = n := by
  unfold prI numT
  have h1 := dec_ne n.toNat
  have h2 := decDigits_len5 n.toNat (by omega)
  have h3 : ¬ ((Lib.decDigits n.toNat).length = 0 ∨ 5 < (Lib.decDigits n.toNat).length) := by
    rintro (h | h)
    · exact h1 (List.eq_nil_of_length_eq_zero h)
    · omega
  rw [if_neg h3, if_pos (dec_digits _), decVal_dec, if_pos rfl]
  omega

/-! ### the words of a box -/
def kTo (x : List UInt8) : Nat → Int
  | 0 => -1
  | k + 1 => if x = kindT (k : Int) then (k : Int) else kTo x k
theorem kTo_kind {k : Int} (h : 0 ≤ k ∧ k ≤ 3) : kTo (kindT k) 4 = k := by
  have e : k = 0 ∨ k = 1 ∨ k = 2 ∨ k = 3 := by omega
  rcases e with rfl | rfl | rfl | rfl <;> decide
theorem kTo_le (x : List UInt8) : ∀ k, -1 ≤ kTo x k ∧ kTo x k < k
  | 0 => ⟨Int.le_refl _, by show (-1 : Int) < 0; omega⟩
  | k + 1 => by
    have := kTo_le x k
    unfold kTo
    split <;> omega
def setW (x : List UInt8) (n : Int) (b : Bx) : Bx :=
  if x = padT then { b with pad := n } else if x = gapT then { b with gap := n } else if x = growT then { b with grow := n } else if x = shrinkT then { b with shrink := n } else if x = justifyT then { b with justify := n } else b
/-- words by pairs, as the reference reads them -/
def runW : List (List UInt8) → Bx → Bx
  | x :: y :: r, b => runW r (setW x (prI y) b)
  | _, b => b
theorem runW_short {r : List (List UInt8)} {b : Bx} (h : r.length ≤ 1) : runW r b = b := by
  match r, h with
  | [], _ => rfl
  | [_], _ => rfl
theorem runW_sty {name : List UInt8} {n : Int} (hn : 0 ≤ n ∧ n ≤ 100) (R : List (List UInt8)) (b : Bx) (h0 : n = 0 → setW name n b = b) : runW (styT name n ++ R) b = runW R (setW name n b) := by
  unfold styT
  split
  · rename_i h
    rw [h0 h]
    rfl
  · show runW R (setW name (prI (numT n)) b) = _
    rw [prI_num hn]
/-- the kind and the size -/
def headW (ws : List (List UInt8)) : Bx :=
  if kTo (ws.headD []) 4 = 0 ∧ 2 < ws.length then ⟨0, 0, prI (ws.getD 1 []), prI (ws.getD 2 []), 0, 0, 0, 0, 0⟩ else ⟨0, kTo (ws.headD []) 4, 0, 0, 0, 0, 0, 0, 0⟩
def restOf (ws : List (List UInt8)) : List (List UInt8) := if kTo (ws.headD []) 4 = 0 ∧ 2 < ws.length then ws.drop 3 else ws.drop 1
/-- the box of words, as the reference reads them -/
def wordsB (ws : List (List UInt8)) : Bx := runW (restOf ws) (headW ws)
theorem runW_parent : ∀ (r : List (List UInt8)) (b : Bx), (runW r b).parent = b.parent
  | [], _ => rfl
  | [_], _ => rfl
  | x :: y :: r, b => by
    show (runW r (setW x (prI y) b)).parent = _
    rw [runW_parent r]
    unfold setW
    split
    · rfl
    · split
      · rfl
      · split
        · rfl
        · split
          · rfl
          · split <;> rfl
theorem wordsB_parent (ws : List (List UInt8)) : (wordsB ws).parent = 0 := by
  unfold wordsB
  rw [runW_parent]
  unfold headW
  split <;> rfl
theorem okB_flat {b : Bx} (h : okB b = true) (hk : b.kind ≠ 0) : b.w = 0 ∧ b.h = 0 := by
  rw [okB_eq] at h
  simp only [Bool.and_eq_true, Bool.or_eq_true, beq_iff_eq] at h
  rcases h.2 with h | h
  · exact absurd h hk
  · exact h
theorem okB_leaf_eta (b : Bx) (h : b.parent = 0) : b = ⟨0, b.kind, b.w, b.h, b.pad, b.gap, b.grow, b.shrink, b.justify⟩ := by
  cases b
  cases h
  rfl
theorem words_box {b : Bx} (hb : okB b = true) (hp : b.parent = 0) : wordsB (splitB 32 (boxT b)) = b := by
  have h := okB_bounds hb
  rw [split_box b]
  have hk := kTo_kind (k := b.kind) (by omega)
  have hs : ∀ c : Bx, c.pad = 0 → c.gap = 0 → c.grow = 0 → c.shrink = 0 → c.justify = 0 → runW (styT padT b.pad ++ (styT gapT b.gap ++ (styT growT b.grow ++ (styT shrinkT b.shrink ++ styT justifyT b.justify)))) c = ⟨c.parent, c.kind, c.w, c.h, b.pad, b.gap, b.grow, b.shrink, b.justify⟩ := by
    rintro ⟨c0, c1, c2, c3, c4, c5, c6, c7, c8⟩ e4 e5 e6 e7 e8
    dsimp only at e4 e5 e6 e7 e8
    subst e4 e5 e6 e7 e8
    rw [runW_sty (by omega) _ _ (fun e => by rw [e]; rfl), runW_sty (by omega) _ _ (fun e => by rw [e]; rfl), runW_sty (by omega) _ _ (fun e => by rw [e]; rfl), runW_sty (by omega) _ _ (fun e => by rw [e]; rfl), ← List.append_nil (styT justifyT b.justify), runW_sty (by omega) _ _ (fun e => by rw [e]; rfl)]
    rfl
  unfold wordsB restOf headW
  rw [List.headD_cons, hk]
  unfold restW
  by_cases hz : b.kind = 0
  · rw [if_pos hz, if_pos ⟨hz, by simp⟩, if_pos ⟨hz, by simp⟩]
    show runW (styT padT b.pad ++ (styT gapT b.gap ++ (styT growT b.grow ++ (styT shrinkT b.shrink ++ styT justifyT b.justify)))) ⟨0, 0, prI (numT b.w), prI (numT b.h), 0, 0, 0, 0, 0⟩ = b
    rw [hs _ rfl rfl rfl rfl rfl, prI_num (by omega), prI_num (by omega)]
    conv => rhs; rw [okB_leaf_eta b hp, hz]
  · rw [if_neg hz, if_neg (fun e => hz e.1), if_neg (fun e => hz e.1)]
    show runW (styT padT b.pad ++ (styT gapT b.gap ++ (styT growT b.grow ++ (styT shrinkT b.shrink ++ styT justifyT b.justify)))) ⟨0, b.kind, 0, 0, 0, 0, 0, 0, 0⟩ = b
    obtain ⟨hw, hh⟩ := okB_flat hb hz
    rw [hs _ rfl rfl rfl rfl rfl]
    conv => rhs; rw [okB_leaf_eta b hp, hw, hh]
/-- the box with a text, if there is one -/
def pB (s : List UInt8) : Option Bx := if okB (wordsB (splitB 32 s)) = true ∧ boxT (wordsB (splitB 32 s)) = s then some (wordsB (splitB 32 s)) else none
theorem pB_box {b : Bx} (hb : okB b = true) (hp : b.parent = 0) : pB (boxT b) = some b := by
  unfold pB
  rw [words_box hb hp, if_pos ⟨hb, rfl⟩]
theorem pB_some {s : List UInt8} {b : Bx} (h : pB s = some b) : okB b = true ∧ boxT b = s ∧ b.parent = 0 := by
  unfold pB at h
  split at h
  · rename_i h1
    cases h
    exact ⟨h1.1, h1.2, wordsB_parent _⟩
  · cases h
theorem pB_iff {s : List UInt8} {b : Bx} (hb : okB b = true) (hp : b.parent = 0) (h : boxT b = s) : pB s = some b := by
  subst h
  exact pB_box hb hp
end Go.Proofs.YtdlggpphfkjidaaGreatDoor
