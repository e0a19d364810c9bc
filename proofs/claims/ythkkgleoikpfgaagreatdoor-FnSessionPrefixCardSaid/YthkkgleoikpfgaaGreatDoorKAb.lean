/-
  Parts of the proof: Txt.
-/
import Derived.Lib.ItoaNum
import Derived.Lib.Join
import Derived.Test.YthkkgleoikpfgaaGreatDoorKAa
namespace Go.Proofs.YthkkgleoikpfgaaGreatDoor
open Go Go.RowKit
def leafT : List UInt8 := [108, 101, 97, 102]
def blockT : List UInt8 := [98, 108, 111, 99, 107]
def rowT : List UInt8 := [114, 111, 119]
def columnT : List UInt8 := [99, 111, 108, 117, 109, 110]
def padT : List UInt8 := [112, 97, 100]
def gapT : List UInt8 := [103, 97, 112]
def growT : List UInt8 := [103, 114, 111, 119]
def shrinkT : List UInt8 := [115, 104, 114, 105, 110, 107]
def justifyT : List UInt8 := [106, 117, 115, 116, 105, 102, 121]
/-- the name of a kind -/
def kindT (k : Int) : List UInt8 := if k = 0 then leafT else if k = 1 then blockT else if k = 2 then rowT else columnT
/-- a number in decimal -/
def numT (n : Int) : List UInt8 := Lib.decDigits n.toNat
/-- a space, and a word -/
def wordT (s : List UInt8) : List UInt8 := 32 :: s
def styT (name : List UInt8) (n : Int) : List (List UInt8) := if n = 0 then [] else [name, numT n]
/-- the words of a box behind the first one -/
def restW (b : Bx) : List (List UInt8) := (if b.kind = 0 then [numT b.w, numT b.h] else []) ++ (styT padT b.pad ++ (styT gapT b.gap ++ (styT growT b.grow ++ (styT shrinkT b.shrink ++ styT justifyT b.justify))))
/-- the text of a box -/
def boxT (b : Bx) : List UInt8 := kindT b.kind ++ ((restW b).map wordT).flatten
/-- the line of a box -/
def lineT (l : List Bx) (i : Nat) : List UInt8 := List.replicate ((anc l i).length - 1) 45 ++ boxT (bx l i)
/-- a byte of a word: no space, no newline -/
def wb (c : UInt8) : Prop := c ≠ 32 ∧ c ≠ 10
theorem digit_wb {d : Nat} (h : d < 10) : wb (UInt8.ofNat (48 + d)) := by
 have : d = 0 ∨ d = 1 ∨ d = 2 ∨ d = 3 ∨ d = 4 ∨ d = 5 ∨ d = 6 ∨ d = 7 ∨ d = 8 ∨ d = 9 := by omega
 rcases this with rfl | rfl | rfl | rfl | rfl | rfl | rfl | rfl | rfl | rfl <;> exact ⟨by decide, by decide⟩
theorem dec_wb (n : Nat) : ∀ c, c ∈ Lib.decDigits n → wb c := by
 induction n using Nat.strongRecOn with
 | _ n ih =>
  intro c hc
  rw [Lib.decDigits] at hc
  split at hc
  ·rename_i h
   rw [List.mem_singleton] at hc
   subst hc
   exact digit_wb h
  ·rename_i h
   rcases List.mem_append.1 hc with h1 | h1
   ·exact ih (n / 10) (by omega) c h1
   ·rw [List.mem_singleton] at h1
    subst h1
    exact digit_wb (by omega)
theorem dec_ne (n : Nat) : Lib.decDigits n ≠ [] := by
 rw [Lib.decDigits]
 split
 ·simp
 ·simp
theorem dec_len (n : Nat) : (Lib.decDigits n).length ≤ n + 1 := by
 induction n using Nat.strongRecOn with
 | _ n ih =>
  rw [Lib.decDigits]
  split
  ·simp
  ·have := ih (n / 10) (by omega)
   rw [List.length_append, List.length_singleton]
   omega
/-- a word: not empty, without spaces and newlines -/
def isW (s : List UInt8) : Prop := s ≠ [] ∧ ∀ c, c ∈ s → wb c
theorem num_isW (n : Int) : isW (numT n) := ⟨dec_ne _, dec_wb _⟩
theorem kind_isW (k : Int) : isW (kindT k) := by
 unfold kindT
 split
 ·exact ⟨by decide, fun c hc => by simp [leafT] at hc; rcases hc with rfl | rfl | rfl | rfl <;> exact ⟨by decide, by decide⟩⟩
 ·split
  ·exact ⟨by decide, fun c hc => by simp [blockT] at hc; rcases hc with rfl | rfl | rfl | rfl | rfl <;> exact ⟨by decide, by decide⟩⟩
  ·split
   ·exact ⟨by decide, fun c hc => by simp [rowT] at hc; rcases hc with rfl | rfl | rfl <;> exact ⟨by decide, by decide⟩⟩
   ·exact ⟨by decide, fun c hc => by simp [columnT] at hc; rcases hc with rfl | rfl | rfl | rfl | rfl | rfl <;> exact ⟨by decide, by decide⟩⟩
theorem pad_isW : isW padT := ⟨by decide, fun c hc => by simp [padT] at hc; rcases hc with rfl | rfl | rfl <;> exact ⟨by decide, by decide⟩⟩
theorem gap_isW : isW gapT := ⟨by decide, fun c hc => by simp [gapT] at hc; rcases hc with rfl | rfl | rfl <;> exact ⟨by decide, by decide⟩⟩
theorem grow_isW : isW growT := ⟨by decide, fun c hc => by simp [growT] at hc; rcases hc with rfl | rfl | rfl | rfl <;> exact ⟨by decide, by decide⟩⟩
theorem shrink_isW : isW shrinkT := ⟨by decide, fun c hc => by simp [shrinkT] at hc; rcases hc with rfl | rfl | rfl | rfl | rfl | rfl <;> exact ⟨by decide, by decide⟩⟩
theorem justify_isW : isW justifyT := ⟨by decide, fun c hc => by simp [justifyT] at hc; rcases hc with rfl | rfl | rfl | rfl | rfl | rfl | rfl <;> exact ⟨by decide, by decide⟩⟩
theorem sty_isW {name : List UInt8} (h : isW name) (n : Int) : ∀ s, s ∈ styT name n → isW s := by
 intro s hs
 unfold styT at hs
 split at hs
 ·simp at hs
 ·simp at hs
  rcases hs with rfl | rfl
  ·exact h
  ·exact num_isW n
theorem rest_isW (b : Bx) : ∀ s, s ∈ restW b → isW s := by
 intro s hs
 unfold restW at hs
 rcases List.mem_append.1 hs with h | h
 ·split at h
  ·simp at h
   rcases h with rfl | rfl
   ·exact num_isW _
   ·exact num_isW _
  ·simp at h
 ·rcases List.mem_append.1 h with h | h
  ·exact sty_isW pad_isW _ s h
  ·rcases List.mem_append.1 h with h | h
   ·exact sty_isW gap_isW _ s h
   ·rcases List.mem_append.1 h with h | h
    ·exact sty_isW grow_isW _ s h
    ·rcases List.mem_append.1 h with h | h
     ·exact sty_isW shrink_isW _ s h
     ·exact sty_isW justify_isW _ s h
/-! ### the text of a box, word by word -/
def nmT : Nat → List UInt8
 | 0 => padT
 | 1 => gapT
 | 2 => growT
 | 3 => shrinkT
 | _ => justifyT
def vlT (b : Bx) : Nat → Int
 | 0 => b.pad
 | 1 => b.gap
 | 2 => b.grow
 | 3 => b.shrink
 | _ => b.justify
def leafW (b : Bx) : List (List UInt8) := if b.kind = 0 then [numT b.w, numT b.h] else []
def styTo (b : Bx) : Nat → List (List UInt8)
 | 0 => []
 | k + 1 => styTo b k ++ styT (nmT k) (vlT b k)
theorem restW_eq (b : Bx) : restW b = leafW b ++ styTo b 5 := by
 unfold restW leafW
 simp only [styTo, nmT, vlT, List.nil_append, List.append_assoc]
/-- the text with the first k styles -/
def outTo (b : Bx) (k : Nat) : List UInt8 := kindT b.kind ++ ((leafW b ++ styTo b k).map wordT).flatten
theorem outTo_five (b : Bx) : outTo b 5 = boxT b := by
 unfold outTo boxT
 rw [restW_eq]
theorem outTo_succ (b : Bx) (k : Nat) : outTo b (k + 1) = outTo b k ++ ((styT (nmT k) (vlT b k)).map wordT).flatten := by
 unfold outTo
 rw [styTo, ← List.append_assoc (leafW b), List.map_append, List.flatten_append, List.append_assoc]
theorem outTo_no {b : Bx} {k : Nat} (h : vlT b k = 0) : outTo b (k + 1) = outTo b k := by
 rw [outTo_succ]
 unfold styT
 rw [if_pos h]
 simp
theorem outTo_yes {b : Bx} {k : Nat} (h : vlT b k ≠ 0) : outTo b (k + 1) = outTo b k ++ [32] ++ nmT k ++ [32] ++ numT (vlT b k) := by
 rw [outTo_succ]
 unfold styT
 rw [if_neg h]
 simp [wordT]
theorem outTo_leaf {b : Bx} (h : b.kind = 0) : outTo b 0 = leafT ++ [32] ++ numT b.w ++ [32] ++ numT b.h := by
 unfold outTo leafW kindT
 rw [if_pos h, if_pos h]
 simp [wordT, styTo]
theorem outTo_kind {b : Bx} (h : b.kind ≠ 0) : outTo b 0 = kindT b.kind := by
 unfold outTo leafW
 rw [if_neg h]
 simp [styTo]
theorem num_len {n : Int} (h : n ≤ 100) : (numT n).length ≤ 101 := by
 unfold numT
 have := dec_len n.toNat
 omega
theorem nmT_len (k : Nat) : (nmT k).length ≤ 7 := by
 unfold nmT
 split <;> decide
theorem kindT_len (k : Int) : (kindT k).length ≤ 6 := by
 unfold kindT
 split
 ·decide
 ·split
  ·decide
  ·split <;> decide
theorem outTo_len {b : Bx} (hw : b.w ≤ 100) (hh : b.h ≤ 100) (hs : ∀ k, vlT b k ≤ 100) : ∀ k, (outTo b k).length ≤ 300 + 200 * k
 | 0 => by
  by_cases h : b.kind = 0
  ·rw [outTo_leaf h]
   have h1 := num_len hw
   have h2 := num_len hh
   simp only [List.length_append, leafT, List.length_cons, List.length_nil]
   omega
  ·rw [outTo_kind h]
   have := kindT_len b.kind
   omega
 | k + 1 => by
  have ih := outTo_len hw hh hs k
  by_cases h : vlT b k = 0
  ·rw [outTo_no h]
   omega
  ·rw [outTo_yes h]
   have h1 := num_len (hs k)
   have h2 := nmT_len k
   simp only [List.length_append, List.length_singleton]
   omega
/-! ### newlines -/
theorem join_flat (sep : List UInt8) (x : List UInt8) (ws : List (List UInt8)) : Lib.join (x :: ws) sep = x ++ (ws.map (sep ++ ·)).flatten := by
 unfold Lib.join
 induction ws generalizing x with
 | nil => simp [List.intercalate]
 | cons y r ih =>
  have h := ih y
  simp [List.intercalate, List.intersperse] at h ⊢
  rw [h]
theorem join_words (x : List UInt8) (ws : List (List UInt8)) : Lib.join (x :: ws) [32] = x ++ (ws.map wordT).flatten := join_flat [32] x ws
theorem join_end (sep : List UInt8) {xs : List (List UInt8)} (h : xs ≠ []) (y : List UInt8) : Lib.join (xs ++ [y]) sep = Lib.join xs sep ++ (sep ++ y) := by
 cases xs with
 | nil => exact absurd rfl h
 | cons x r =>
  rw [List.cons_append, join_flat, join_flat, List.map_append, List.flatten_append]
  simp
end Go.Proofs.YthkkgleoikpfgaaGreatDoor
