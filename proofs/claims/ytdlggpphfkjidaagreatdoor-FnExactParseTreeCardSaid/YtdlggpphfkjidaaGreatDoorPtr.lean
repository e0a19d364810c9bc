/-
  Plain laws: a tree is read line by line.
-/
import Derived.Test.YtdlggpphfkjidaaGreatDoorPw
import Derived.Test.YtdlggpphfkjidaaGreatDoorCnt
import Derived.Test.YtdlggpphfkjidaaGreatDoorFTxt
namespace Go.Proofs.YtdlggpphfkjidaaGreatDoor
open Go Go.RowKit

theorem dash_eq : ∀ s : List UInt8, s = List.replicate (dashes s) 45 ++ s.drop (dashes s)
  | [] => rfl
  | c :: t => by
    unfold dashes
    by_cases h : c = 45
    · rw [if_pos h, List.replicate_succ, List.drop_succ_cons, List.cons_append, ← dash_eq t, h]
    · rw [if_neg h, List.replicate_zero, List.drop_zero, List.nil_append]
theorem dash_le : ∀ s : List UInt8, dashes s ≤ s.length
  | [] => Nat.le_refl _
  | c :: t => by
    have := dash_le t
    unfold dashes
    rw [List.length_cons]
    split <;> omega
theorem splitB_ne' (c : UInt8) (s : List UInt8) : ∃ h r, splitB c s = h :: r := by
  cases h : splitB c s with
  | nil => exact absurd h (splitB_ne c s)
  | cons a b => exact ⟨a, b, rfl⟩
theorem join_split (c : UInt8) : ∀ s : List UInt8, Lib.join (splitB c s) [c] = s
  | [] => rfl
  | x :: t => by
    have ih := join_split c t
    obtain ⟨h, r, e⟩ := splitB_ne' c t
    rw [e, join_flat] at ih
    unfold splitB
    by_cases hx : x = c
    · rw [if_pos hx, e, join_flat, List.map_cons, List.flatten_cons, hx, ← ih]
      simp
    · rw [if_neg hx, e]
      show Lib.join ((x :: h) :: r) [c] = _
      rw [join_flat, List.cons_append, ih]

/-- the boxes so far, and the numbers of the open ones from without -/
abbrev PSt := List Bx × List Nat
def parOf (path : List Nat) (n : Nat) : Int := if n = 0 then -1 else ((path.getD (n - 1) 0 : Nat) : Int)
def stepP (st : PSt) (ln : List UInt8) : Option PSt :=
  match pB (ln.drop (dashes ln)) with
  | none => none
  | some b => if st.2.length < dashes ln ∨ (0 < st.1.length ∧ dashes ln = 0) then none else some (st.1 ++ [b.at (parOf st.2 (dashes ln))], st.2.take (dashes ln) ++ [st.1.length])
def runP : List (List UInt8) → PSt → Option PSt
  | [], st => some st
  | x :: t, st => (stepP st x).bind (runP t)
theorem runP_app (L : List (List UInt8)) (x : List UInt8) : ∀ st, runP (L ++ [x]) st = (runP L st).bind fun s => stepP s x := by
  induction L with
  | nil =>
    intro st
    show (stepP st x).bind (runP []) = stepP st x
    cases stepP st x <;> rfl
  | cons y t ih =>
    intro st
    show (stepP st y).bind (runP (t ++ [x])) = ((stepP st y).bind (runP t)).bind _
    cases stepP st y with
    | none => rfl
    | some z => exact ih z
theorem runP_more (L M : List (List UInt8)) : ∀ st, runP (L ++ M) st = (runP L st).bind (runP M) := by
  induction L with
  | nil => intro st; rfl
  | cons y t ih =>
    intro st
    show (stepP st y).bind (runP (t ++ M)) = ((stepP st y).bind (runP t)).bind _
    cases stepP st y with
    | none => rfl
    | some z => exact ih z

/-- what has been read so far -/
structure InvP (L : List (List UInt8)) (out : List Bx) (path : List Nat) : Prop where
  len : L.length = out.length
  down : ∀ k, k < out.length → par out k < k
  ok : ∀ k, k < out.length → okB (bx out k) = true
  path : path = if out = [] then [] else (anc out (out.length - 1)).reverse
  lines : L = (List.range out.length).map (lineT out)
theorem InvP.downs {L : List (List UInt8)} {out : List Bx} {path : List Nat} (h : InvP L out path) {j : Nat} (hj : j < out.length) : Down out j := fun k hk => h.down k (by omega)
theorem InvP.le {L : List (List UInt8)} {out : List Bx} {path : List Nat} (h : InvP L out path) : ∀ p, p ∈ path → p < out.length := by
  intro p hp
  rw [h.path] at hp
  by_cases e : out = []
  · rw [if_pos e] at hp
    cases hp
  · rw [if_neg e] at hp
    have hpos := List.length_pos_iff.2 e
    have := anc_le (out.length - 1) (h.downs (by omega)) p (List.mem_reverse.1 hp)
    omega
theorem bx_left {l : List Bx} {b : Bx} {k : Nat} (h : k < l.length) : bx (l ++ [b]) k = bx l k := by
  unfold bx List.getD
  rw [List.getElem?_append_left h]
theorem bx_last (l : List Bx) (b : Bx) : bx (l ++ [b]) l.length = b := by
  unfold bx List.getD
  rw [List.getElem?_append_right (Nat.le_refl _)]
  simp
theorem anc_left {l : List Bx} {b : Bx} (hd : ∀ k, k < l.length → par l k < k) {j : Nat} (h : j < l.length) : anc (l ++ [b]) j = anc l j := by
  have e : ∀ k, k ≤ j → par (l ++ [b]) k = par l k := fun k hk => by
    unfold par
    rw [bx_left (by omega)]
  exact anc_same j (fun k hk => by rw [e k hk]; exact hd k (by omega)) (fun k hk => hd k (by omega)) e
theorem InvP.step {L : List (List UInt8)} {out : List Bx} {path : List Nat} (h : InvP L out path) {x : List UInt8} {out' : List Bx} {path' : List Nat} (hs : stepP (out, path) x = some (out', path')) : InvP (L ++ [x]) out' path' := by
  unfold stepP at hs
  cases hb : pB (x.drop (dashes x)) with
  | none => rw [hb] at hs; cases hs
  | some b =>
    rw [hb] at hs
    dsimp only at hs
    split at hs
    · cases hs
    · rename_i hc
      cases hs
      obtain ⟨hok, htx, hbp⟩ := pB_some hb
      have hcl : ¬ path.length < dashes x := fun e => hc (.inl e)
      have hc0 : ¬ (0 < out.length ∧ dashes x = 0) := fun e => hc (.inr e)
      generalize hn : dashes x = n at *
      have hlast := bx_last out (b.at (parOf path n))
      have hpl : par (out ++ [b.at (parOf path n)]) out.length = parOf path n := by
        unfold par
        rw [hlast]
        rfl
      have hpk : ∀ k, k < out.length → par (out ++ [b.at (parOf path n)]) k = par out k := fun k hk => by
        unfold par
        rw [bx_left hk]
      have hlt : parOf path n < out.length := by
        unfold parOf
        split
        · omega
        · rename_i h0
          have hl : n - 1 < path.length := by omega
          have := h.le _ (List.getElem_mem hl)
          rw [List.getD_eq_getElem?_getD, List.getElem?_eq_getElem hl]
          simp only [Option.getD_some]
          omega
      have hdown : ∀ k, k < (out ++ [b.at (parOf path n)]).length → par (out ++ [b.at (parOf path n)]) k < k := fun k hk => by
        rw [List.length_append, List.length_singleton] at hk
        by_cases e : k < out.length
        · rw [hpk k e]
          exact h.down k e
        · obtain rfl : k = out.length := by omega
          rw [hpl]
          exact hlt
      have hanc : (anc (out ++ [b.at (parOf path n)]) out.length).reverse = path.take n ++ [out.length] ∧ (anc (out ++ [b.at (parOf path n)]) out.length).length = n + 1 := by
        have hd : Down (out ++ [b.at (parOf path n)]) out.length := fun k hk => hdown k (by rw [List.length_append, List.length_singleton]; omega)
        by_cases h0 : n = 0
        · rw [anc_root hd (by rw [hpl, h0]; show (-1 : Int) < 0; omega), h0]
          exact ⟨rfl, rfl⟩
        · have hl : n - 1 < path.length := by omega
          have hne : out ≠ [] := fun e => by
            have := h.path
            rw [if_pos e] at this
            rw [this] at hl
            cases hl
          have hpos := List.length_pos_iff.2 hne
          have hpp := h.path
          rw [if_neg hne] at hpp
          have hmem := List.getElem_mem hl
          have hpar : parOf path n = ((path[n - 1] : Nat) : Int) := by
            unfold parOf
            rw [if_neg h0, List.getD_eq_getElem?_getD, List.getElem?_eq_getElem hl]
            rfl
          have hplt := h.le _ hmem
          have hget : path[n - 1]? = some path[n - 1] := List.getElem?_eq_getElem hl
          generalize path[n - 1] = p at *
          rw [anc_up hd (by rw [hpl, hpar]), anc_left h.down hplt]
          have hdj := h.downs (j := out.length - 1) (by omega)
          have hpm : p ∈ anc out (out.length - 1) := by
            rw [hpp] at hmem
            exact List.mem_reverse.1 hmem
          obtain ⟨pre, hpre⟩ := anc_suffix (out.length - 1) hdj p hpm
          have hap := anc_eq (h.downs hplt)
          -- the place of p in the open ones
          rw [hpp, hpre, List.reverse_append] at hget
          have hrev : (anc out p).reverse = (if 0 ≤ par out p then anc out (par out p).toNat else []).reverse ++ [p] := by
            rw [hap, List.reverse_cons]
          have hnodup : (anc out p).length = n := by
            have hA : (anc out (out.length - 1)).Pairwise (· > ·) := by
              clear hpre hap hrev hget hpm
              have : ∀ (m j : Nat), j ≤ m → Down out j → (anc out j).Pairwise (· > ·) := by
                intro m
                induction m with
                | zero =>
                  intro j hj hd
                  obtain rfl : j = 0 := by omega
                  rw [anc_root hd (hd 0 (Nat.le_refl _))]
                  simp
                | succ m ih =>
                  intro j hj hd
                  rw [anc_eq hd]
                  split
                  · rename_i hge
                    have hlt := hd j (Nat.le_refl _)
                    refine List.pairwise_cons.2 ⟨fun a ha => ?_, ih _ (by omega) (hd.mono (by omega))⟩
                    have := anc_le _ (hd.mono (show (par out j).toNat ≤ j by omega)) a ha
                    show j > a
                    omega
                  · simp
              exact this _ _ (Nat.le_refl _) hdj
            rw [hpre] at hA
            have hB := (List.pairwise_append.1 hA).2.1
            have hlenle : (anc out p).reverse.length = (anc out p).length := List.length_reverse
            by_cases hcase : n - 1 < (anc out p).reverse.length
            · rw [List.getElem?_append_left hcase, List.getElem?_reverse (by omega)] at hget
              rw [hap] at hget hB ⊢
              rw [hap] at hcase hlenle
              rw [List.length_reverse] at hcase
              generalize (if 0 ≤ par out p then anc out (par out p).toNat else []) = R at *
              rw [List.length_cons] at *
              by_cases e : R.length + 1 - 1 - (n - 1) = 0
              · omega
              · obtain ⟨q, hq⟩ : ∃ q, R.length + 1 - 1 - (n - 1) = q + 1 := ⟨R.length + 1 - 1 - (n - 1) - 1, by omega⟩
                rw [hq, List.getElem?_cons_succ] at hget
                have := (List.pairwise_cons.1 hB).1 p (List.mem_of_getElem? hget)
                omega
            · rw [List.getElem?_append_right (by omega)] at hget
              have hm := List.mem_reverse.1 (List.mem_of_getElem? hget)
              have := (List.pairwise_append.1 hA).2.2 p hm p (by rw [hap]; exact List.mem_cons_self)
              omega
          refine ⟨?_, by rw [List.length_cons, hnodup]⟩
          rw [List.reverse_cons, hpp, hpre, List.reverse_append, List.take_left' (by rw [List.length_reverse]; exact hnodup)]
      have hline : lineT (out ++ [b.at (parOf path n)]) out.length = x := by
        unfold lineT
        rw [hanc.2, hlast]
        show List.replicate n 45 ++ boxT b = x
        rw [htx, ← hn]
        exact (dash_eq x).symm
      refine ⟨by rw [List.length_append, List.length_append, h.len]; rfl, hdown, fun k hk => ?_, ?_, ?_⟩
      · rw [List.length_append, List.length_singleton] at hk
        by_cases e : k < out.length
        · rw [bx_left e]
          exact h.ok k e
        · obtain rfl : k = out.length := by omega
          rw [hlast]
          exact hok
      · rw [if_neg (by simp), List.length_append, List.length_singleton, Nat.add_sub_cancel]
        exact hanc.1.symm
      · rw [List.length_append, List.length_singleton, List.range_succ, List.map_append, List.map_singleton, hline]
        congr 1
        rw [h.lines]
        refine (List.map_congr_left fun k hk => ?_).trans rfl
        have hk' := List.mem_range.1 hk
        unfold lineT
        rw [anc_left h.down hk', bx_left hk']
theorem InvP.nil : InvP [] [] [] := ⟨rfl, fun _ h => absurd h (Nat.not_lt_zero _), fun _ h => absurd h (Nat.not_lt_zero _), rfl, rfl⟩
theorem InvP.run : ∀ (M L : List (List UInt8)) {out : List Bx} {path : List Nat} {out' : List Bx} {path' : List Nat}, InvP L out path → runP M (out, path) = some (out', path') → InvP (L ++ M) out' path'
  | [], L, _, _, _, _, h, e => by
    cases e
    rw [List.append_nil]
    exact h
  | x :: t, L, out, path, out', path', h, e => by
    have e2 : (stepP (out, path) x).bind (runP t) = some (out', path') := e
    cases hs : stepP (out, path) x with
    | none => rw [hs] at e2; cases e2
    | some z =>
      rw [hs] at e2
      have := InvP.run t (L ++ [x]) (h.step (x := x) (out' := z.1) (path' := z.2) hs) e2
      rw [List.append_assoc] at this
      exact this

/-- the tree with a text -/
def parseT (s : List UInt8) : Option (List Bx) :=
  match runP (splitB 10 s) ([], []) with
  | none => none
  | some st => if vldB st.1 = true then some st.1 else none
theorem run_text {s : List UInt8} {out : List Bx} {path : List Nat} (h : runP (splitB 10 s) ([], []) = some (out, path)) : treeT out = s ∧ 1 ≤ out.length := by
  have hi := InvP.run _ [] InvP.nil h
  rw [List.nil_append] at hi
  have hlen : 1 ≤ out.length := by
    rw [← hi.len]
    exact List.length_pos_iff.2 (splitB_ne 10 s)
  refine ⟨?_, hlen⟩
  rw [← lines_join hlen]
  unfold linesTo
  rw [← hi.lines]
  exact join_split 10 s
theorem parse_text {s : List UInt8} {out : List Bx} (h : parseT s = some out) : treeT out = s ∧ vldB out = true := by
  unfold parseT at h
  cases hr : runP (splitB 10 s) ([], []) with
  | none => rw [hr] at h; cases h
  | some st =>
    rw [hr] at h
    dsimp only at h
    split at h
    · rename_i hv
      cases h
      exact ⟨(run_text (path := st.2) hr).1, hv⟩
    · cases h
theorem run_tree {l : List Bx} (hv : Valid l) : ∀ k, k ≤ l.length → ∃ path, runP ((List.range k).map (lineT l)) ([], []) = some (l.take k, path) ∧ path = if k = 0 then [] else (anc l (k - 1)).reverse
  | 0, _ => ⟨[], rfl, rfl⟩
  | k + 1, hk => by
    obtain ⟨path, h1, h2⟩ := run_tree hv k (by omega)
    have hkl : k < l.length := by omega
    have hdash : dashes (lineT l k) = dep l k := dashes_line _ _
    have hdrop : (lineT l k).drop (dep l k) = boxT (bx l k) := drop_line _ _
    have hpb : pB (boxT (bx l k)) = some ((bx l k).at 0) := pB_iff (b := (bx l k).at 0) (hv.ok k hkl) rfl rfl
    have hl : (l.take k).length = k := by rw [List.length_take]; omega
    have htk : l.take (k + 1) = l.take k ++ [bx l k] := by
      rw [List.take_add_one, bx_get hkl]
      rfl
    refine ⟨path.take (dep l k) ++ [k], ?_, ?_⟩
    · rw [List.range_succ, List.map_append, List.map_singleton, runP_app, h1]
      show stepP (l.take k, path) (lineT l k) = _
      unfold stepP
      rw [hdash, hdrop, hpb]
      dsimp only
      rw [hl]
      by_cases h0 : k = 0
      · subst h0
        have hd0 : dep l 0 = 0 := by
          unfold dep
          rw [anc_root (hv.down hkl) (by rw [hv.root]; decide)]
          rfl
        rw [hd0, if_neg (by omega), htk]
        have e : (bx l 0).at (parOf path 0) = bx l 0 := by
          have := hv.root
          unfold par at this
          unfold Bx.at parOf
          rw [if_pos rfl, ← this]
        show some (l.take 0 ++ [(bx l 0).at (parOf path 0)], _) = _
        rw [e]
      · obtain ⟨a1, a2, a3, a4, a5⟩ := open_par hv (by omega) hkl
        rw [if_neg h0] at h2
        have hpl : path.length = (anc l (k - 1)).length := by rw [h2, List.length_reverse]
        rw [if_neg (by omega), htk]
        have e : (bx l k).at (parOf path (dep l k)) = bx l k := by
          have h6 := (hv.par k (by omega) hkl).1
          have : parOf path (dep l k) = par l k := by
            unfold parOf
            rw [if_neg (by omega), List.getD_eq_getElem?_getD, h2, a2]
            simp only [Option.getD_some]
            omega
          rw [this]
          rfl
        show some (l.take k ++ [(bx l k).at (parOf path (dep l k))], _) = _
        rw [e]
    · rw [if_neg (by omega), Nat.add_sub_cancel]
      by_cases h0 : k = 0
      · subst h0
        rw [if_pos rfl] at h2
        rw [h2, anc_root (hv.down hkl) (by rw [hv.root]; decide)]
        simp
      · rw [if_neg h0] at h2
        rw [h2]
        exact (open_par hv (by omega) hkl).2.2.1
theorem parse_tree {l : List Bx} (hv : Valid l) (hb : vldB l = true) : parseT (treeT l) = some l := by
  obtain ⟨path, h, _⟩ := run_tree hv l.length (Nat.le_refl _)
  unfold parseT
  rw [split_tree hv.lo, h, List.take_length]
  exact if_pos hb
end Go.Proofs.YtdlggpphfkjidaaGreatDoor
