/-
  Parts of the proof: Ia.
-/
import Derived.Test.YthkkgleoikpfgaaGreatDoorKAf
import Derived.Lib.AtoiAll
namespace Go.Proofs.YthkkgleoikpfgaaGreatDoor
open Go Go.RowKit
/-- what the first result of Atoi is -/
def aI (s : List UInt8) : Int :=
 match Lib.atoiAll s with
 | .ok v => v
 | .syntax => 0
 | .range => Lib.atoiSat s
theorem parse_fold : ∀ (s : List UInt8) (acc : Nat), s.all digB = true → s.foldl (fun v c => 10 * v + (c.toNat - 48)) acc ≤ 1000000000000 → acc ≤ 1000000000000 ∧ Lib.parseUint10 acc s = .ok (s.foldl (fun v c => 10 * v + (c.toNat - 48)) acc)
 | [], acc, _, h => ⟨h, rfl⟩
 | c :: r, acc, hd, h => by
  rw [List.all_cons, Bool.and_eq_true] at hd
  have hc := hd.1
  unfold digB at hc
  rw [Bool.and_eq_true, decide_eq_true_eq, decide_eq_true_eq] at hc
  rw [List.foldl_cons] at h ⊢
  obtain ⟨h1, h2⟩ := parse_fold r _ hd.2 h
  refine ⟨by omega, ?_⟩
  unfold Lib.parseUint10
  rw [if_pos hc, if_neg (by omega), if_neg (by omega), Nat.mul_comm acc 10]
  exact h2
theorem aI_num {n : Int} (h : 0 ≤ n ∧ n ≤ 100) : aI (numT n) = n := by
 have hd := dec_digits n.toNat
 have hv := decVal_dec n.toNat
 have hne := dec_ne n.toNat
 unfold decVal at hv
 obtain ⟨_, hp⟩ := parse_fold (Lib.decDigits n.toNat) 0 hd (by rw [hv]; omega)
 rw [hv] at hp
 have ha : Lib.atoiAll (Lib.decDigits n.toNat) = .ok (n.toNat : Int) := by
  cases hs : Lib.decDigits n.toNat with
  | nil => exact absurd hs hne
  | cons c r =>
   rw [hs] at hd hp
   rw [List.all_cons, Bool.and_eq_true] at hd
   have hc := hd.1
   unfold digB at hc
   rw [Bool.and_eq_true, decide_eq_true_eq, decide_eq_true_eq] at hc
   unfold Lib.atoiAll
   have h0 : ¬ (c.toNat = 43 ∨ c.toNat = 45) := by omega
   have h1 : ¬ c.toNat = 45 := by omega
   simp only [h0, if_false]
   unfold Lib.parseMag
   rw [if_neg (by simp), hp]
   dsimp only
   rw [if_neg (by omega), if_neg (by intro e; exact h1 e.1), if_neg h1]
 unfold aI numT
 rw [ha]
 show ((n.toNat : Nat) : Int) = n
 omega
/-- the number of a style's name, 5: none -/
def sidx (x : List UInt8) : Nat := if x = padT then 0 else if x = gapT then 1 else if x = growT then 2 else if x = shrinkT then 3 else if x = justifyT then 4 else 5
theorem sidx_lt {x : List UInt8} {k : Nat} (h : sidx x = k) (hk : k < 5) : x = nmT k := by
 unfold sidx at h
 split at h
 ·rename_i e
  subst h
  exact e
 ·split at h
  ·rename_i e
   subst h
   exact e
  ·split at h
   ·rename_i e
    subst h
    exact e
   ·split at h
    ·rename_i e
     subst h
     exact e
    ·split at h
     ·rename_i e
      subst h
      exact e
     ·omega
/-- words one by one, as the program reads them -/
def runI : List (List UInt8) → Bx → Bx
 | [], b => b
 | [x], b => if sidx x < 5 then setW x (aI []) b else b
 | x :: y :: r, b => if sidx x < 5 then runI r (setW x (aI y) b) else runI (y :: r) b
/-- the kind and the size -/
def headI (ws : List (List UInt8)) : Bx :=
 if kTo (ws.headD []) 4 = 0 then ⟨0, 0, aI (ws.getD 1 []), aI (ws.getD 2 []), 0, 0, 0, 0, 0⟩ else ⟨0, kTo (ws.headD []) 4, 0, 0, 0, 0, 0, 0, 0⟩
def wordsI (ws : List (List UInt8)) : Bx := runI (ws.drop (if kTo (ws.headD []) 4 = 0 then 3 else 1)) (headI ws)
theorem setW_parent (x : List UInt8) (n : Int) (b : Bx) : (setW x n b).parent = b.parent := by
 unfold setW
 split
 ·rfl
 ·split
  ·rfl
  ·split
   ·rfl
   ·split
    ·rfl
    ·split <;> rfl
theorem runI_parent : ∀ (r : List (List UInt8)) (b : Bx), (runI r b).parent = b.parent
 | [], _ => rfl
 | [x], b => by
  unfold runI
  split
  ·exact setW_parent _ _ _
  ·rfl
 | x :: y :: r, b => by
  unfold runI
  split
  ·rw [runI_parent r, setW_parent]
  ·exact runI_parent (y :: r) b
theorem wordsI_parent (ws : List (List UInt8)) : (wordsI ws).parent = 0 := by
 unfold wordsI
 rw [runI_parent]
 unfold headI
 split <;> rfl
theorem runI_sty {name : List UInt8} {n : Int} (hk : sidx name < 5) (hn : 0 ≤ n ∧ n ≤ 100) (R : List (List UInt8)) (b : Bx) (h0 : n = 0 → setW name n b = b) : runI (styT name n ++ R) b = runI R (setW name n b) := by
 unfold styT
 split
 ·rename_i h
  rw [h0 h]
  rfl
 ·show (if sidx name < 5 then runI R (setW name (aI (numT n)) b) else runI (numT n :: R) b) = _
  rw [if_pos hk, aI_num hn]
theorem wordsI_box {b : Bx} (hb : okB b = true) (hp : b.parent = 0) : wordsI (splitB 32 (boxT b)) = b := by
 have h := okB_bounds hb
 rw [split_box b]
 have hk := kTo_kind (k := b.kind) (by omega)
 have hs : ∀ c : Bx, c.pad = 0 → c.gap = 0 → c.grow = 0 → c.shrink = 0 → c.justify = 0 → runI (styT padT b.pad ++ (styT gapT b.gap ++ (styT growT b.grow ++ (styT shrinkT b.shrink ++ styT justifyT b.justify)))) c = ⟨c.parent, c.kind, c.w, c.h, b.pad, b.gap, b.grow, b.shrink, b.justify⟩ := by
  rintro ⟨c0, c1, c2, c3, c4, c5, c6, c7, c8⟩ e4 e5 e6 e7 e8
  dsimp only at e4 e5 e6 e7 e8
  subst e4 e5 e6 e7 e8
  rw [runI_sty (by decide) (by omega) _ _ (fun e => by rw [e]; rfl), runI_sty (by decide) (by omega) _ _ (fun e => by rw [e]; rfl), runI_sty (by decide) (by omega) _ _ (fun e => by rw [e]; rfl), runI_sty (by decide) (by omega) _ _ (fun e => by rw [e]; rfl), ← List.append_nil (styT justifyT b.justify), runI_sty (by decide) (by omega) _ _ (fun e => by rw [e]; rfl)]
  rfl
 unfold wordsI headI
 rw [List.headD_cons, hk]
 unfold restW
 by_cases hz : b.kind = 0
 ·rw [if_pos hz, if_pos hz, if_pos hz]
  show runI (styT padT b.pad ++ (styT gapT b.gap ++ (styT growT b.grow ++ (styT shrinkT b.shrink ++ styT justifyT b.justify)))) ⟨0, 0, aI (numT b.w), aI (numT b.h), 0, 0, 0, 0, 0⟩ = b
  rw [hs _ rfl rfl rfl rfl rfl, aI_num (by omega), aI_num (by omega)]
  conv => rhs; rw [okB_leaf_eta b hp, hz]
 ·rw [if_neg hz, if_neg hz, if_neg hz]
  show runI (styT padT b.pad ++ (styT gapT b.gap ++ (styT growT b.grow ++ (styT shrinkT b.shrink ++ styT justifyT b.justify)))) ⟨0, b.kind, 0, 0, 0, 0, 0, 0, 0⟩ = b
  obtain ⟨hw, hh⟩ := okB_flat hb hz
  rw [hs _ rfl rfl rfl rfl rfl]
  conv => rhs; rw [okB_leaf_eta b hp, hw, hh]
/-- the box with a text, by what the program reads -/
theorem pB_words (s : List UInt8) : pB s = if okB (wordsI (splitB 32 s)) = true ∧ boxT (wordsI (splitB 32 s)) = s then some (wordsI (splitB 32 s)) else none := by
 split
 ·rename_i h
  exact pB_iff h.1 (wordsI_parent _) h.2
 ·rename_i h
  cases hp : pB s with
  | none => rfl
  | some b =>
   obtain ⟨h1, h2, h3⟩ := pB_some hp
   exfalso
   apply h
   rw [← h2, wordsI_box h1 h3]
   exact ⟨h1, rfl⟩
end Go.Proofs.YthkkgleoikpfgaaGreatDoor
