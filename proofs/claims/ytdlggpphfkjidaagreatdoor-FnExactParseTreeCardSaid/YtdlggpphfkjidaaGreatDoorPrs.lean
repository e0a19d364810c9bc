/-
  Plain laws: texts of trees are read back: splitting, numbers, words, lines.
-/
import Derived.Test.YtdlggpphfkjidaaGreatDoorTxt
import Derived.Test.YtdlggpphfkjidaaGreatDoorNat
namespace Go.Proofs.YtdlggpphfkjidaaGreatDoor
open Go Go.RowKit

/-! ### splitting at a byte -/
def splitB (c : UInt8) : List UInt8 → List (List UInt8)
  | [] => [[]]
  | x :: t => if x = c then [] :: splitB c t else
    match splitB c t with
    | [] => [[x]]
    | h :: r => (x :: h) :: r
theorem splitB_ne (c : UInt8) : ∀ s, splitB c s ≠ []
  | [] => by simp [splitB]
  | x :: t => by
    unfold splitB
    split
    · simp
    · split <;> simp
theorem splitB_app (c : UInt8) (t : List UInt8) : ∀ x : List UInt8, (∀ y, y ∈ x → y ≠ c) → splitB c (x ++ c :: t) = x :: splitB c t
  | [], _ => by
    show splitB c (c :: t) = _
    conv => lhs; unfold splitB
    rw [if_pos rfl]
  | y :: x, h => by
    have hy := h y List.mem_cons_self
    have ih := splitB_app c t x fun z hz => h z (List.mem_cons_of_mem _ hz)
    show splitB c (y :: (x ++ c :: t)) = _
    conv => lhs; unfold splitB
    rw [if_neg hy, ih]
theorem splitB_word (c : UInt8) : ∀ x : List UInt8, (∀ y, y ∈ x → y ≠ c) → splitB c x = [x]
  | [], _ => rfl
  | y :: x, h => by
    have hy := h y List.mem_cons_self
    have ih := splitB_word c x fun z hz => h z (List.mem_cons_of_mem _ hz)
    unfold splitB
    rw [if_neg hy, ih]
theorem splitB_join (c : UInt8) : ∀ (l : List (List UInt8)), l ≠ [] → (∀ x, x ∈ l → ∀ y, y ∈ x → y ≠ c) → splitB c (Lib.join l [c]) = l
  | [], h, _ => absurd rfl h
  | [x], _, hx => by
    rw [join_flat]
    simp only [List.map_nil, List.flatten_nil, List.append_nil]
    exact splitB_word c x (hx x List.mem_cons_self)
  | x :: y :: r, _, hx => by
    have ih := splitB_join c (y :: r) (by simp) fun z hz => hx z (List.mem_cons_of_mem _ hz)
    rw [join_flat] at ih ⊢
    rw [List.map_cons, List.flatten_cons, show [c] ++ y ++ (r.map ([c] ++ ·)).flatten = c :: (y ++ (r.map ([c] ++ ·)).flatten) by simp, splitB_app c _ x (hx x List.mem_cons_self), ih]
theorem split_box (b : Bx) : splitB 32 (boxT b) = kindT b.kind :: restW b := by
  rw [show boxT b = Lib.join (kindT b.kind :: restW b) [32] from (join_words _ _).symm]
  refine splitB_join 32 _ (by simp) fun x hx y hy => ?_
  rcases List.mem_cons.1 hx with rfl | hx
  · exact ((kind_isW _).2 y hy).1
  · exact ((rest_isW b x hx).2 y hy).1
theorem split_tree {l : List Bx} (h : 1 ≤ l.length) : splitB 10 (treeT l) = (List.range l.length).map (lineT l) := by
  obtain ⟨k, hk⟩ : ∃ k, l.length = k + 1 := ⟨l.length - 1, by omega⟩
  unfold treeT
  rw [hk, ← join_lines l k]
  refine splitB_join 10 _ (by simp) fun x hx y hy => ?_
  obtain ⟨i, _, rfl⟩ := List.mem_map.1 hx
  exact line_nl l i y hy

/-! ### numbers -/
/-- the number of a list of digits -/
def decVal (s : List UInt8) : Nat := s.foldl (fun v c => 10 * v + (c.toNat - 48)) 0
theorem decVal_app (s : List UInt8) (c : UInt8) : decVal (s ++ [c]) = 10 * decVal s + (c.toNat - 48) := by
  unfold decVal
  rw [List.foldl_append]
  rfl
theorem digit_val {d : Nat} (h : d < 10) : (UInt8.ofNat (48 + d)).toNat - 48 = d := by
  rw [UInt8.toNat_ofNat']
  omega
theorem decVal_dec (n : Nat) : decVal (Lib.decDigits n) = n := by
  induction n using Nat.strongRecOn with
  | _ n ih =>
    rw [Lib.decDigits]
    split
    · rename_i h
      show 10 * 0 + ((UInt8.ofNat (48 + n)).toNat - 48) = n
      rw [digit_val h]
      omega
    · rw [decVal_app, ih (n / 10) (by omega), digit_val (by omega)]
      omega
theorem dec_inj {n m : Nat} (h : Lib.decDigits n = Lib.decDigits m) : n = m := by
  rw [← decVal_dec n, h, decVal_dec]
theorem num_inj {n m : Int} (hn : 0 ≤ n) (hm : 0 ≤ m) (h : numT n = numT m) : n = m := by
  have := dec_inj h
  omega

/-! ### words tell the box -/
theorem sty_inj {name : List UInt8} {n m : Int} {R S : List (List UInt8)} (hn : 0 ≤ n) (hm : 0 ≤ m) (hR : R.head? ≠ some name) (hS : S.head? ≠ some name) (h : styT name n ++ R = styT name m ++ S) : n = m ∧ R = S := by
  unfold styT at h
  split at h
  · rename_i h1
    split at h
    · rename_i h2
      exact ⟨by omega, h⟩
    · exact absurd (by rw [show R = [name, numT m] ++ S from h]; rfl) hR
  · split at h
    · exact absurd (by rw [show S = [name, numT n] ++ R from h.symm]; rfl) hS
    · have h3 := (List.cons.inj h).2
      obtain ⟨h4, h5⟩ := List.cons.inj h3
      exact ⟨num_inj hn hm h4, h5⟩
theorem sty_head {name other : List UInt8} {n : Int} {R : List (List UInt8)} (hne : name ≠ other) (hR : R.head? ≠ some other) : (styT name n ++ R).head? ≠ some other := by
  unfold styT
  split
  · exact hR
  · intro h
    exact hne (Option.some.inj h)
theorem kind_inj {k j : Int} (hk : 0 ≤ k ∧ k ≤ 3) (hj : 0 ≤ j ∧ j ≤ 3) (h : kindT k = kindT j) : k = j := by
  have e1 : k = 0 ∨ k = 1 ∨ k = 2 ∨ k = 3 := by omega
  have e2 : j = 0 ∨ j = 1 ∨ j = 2 ∨ j = 3 := by omega
  rcases e1 with rfl | rfl | rfl | rfl <;> rcases e2 with rfl | rfl | rfl | rfl <;> first | rfl | (exact absurd h (by decide))
/-- two boxes with one text are the same but for the box around them -/
theorem box_inj {b d : Bx} (hb : okB b = true) (hd : okB d = true) (h : boxT b = boxT d) : b = { d with parent := b.parent } := by
  have h1 := split_box b
  rw [h, split_box d] at h1
  obtain ⟨hk, hr⟩ := List.cons.inj h1
  have b1 := okB_bounds hb
  have d1 := okB_bounds hd
  have hkind := kind_inj (by omega) (by omega) hk
  have b2 : b.kind ≠ 0 → b.w = 0 ∧ b.h = 0 := fun e => by
    have := hb
    rw [okB_eq] at this
    simp only [Bool.and_eq_true, Bool.or_eq_true, beq_iff_eq] at this
    rcases this.2 with h | h
    · exact absurd h e
    · exact h
  have d2 : d.kind ≠ 0 → d.w = 0 ∧ d.h = 0 := fun e => by
    have := hd
    rw [okB_eq] at this
    simp only [Bool.and_eq_true, Bool.or_eq_true, beq_iff_eq] at this
    rcases this.2 with h | h
    · exact absurd h e
    · exact h
  have hwh : b.w = d.w ∧ b.h = d.h ∧ styT padT d.pad ++ (styT gapT d.gap ++ (styT growT d.grow ++ (styT shrinkT d.shrink ++ styT justifyT d.justify))) = styT padT b.pad ++ (styT gapT b.gap ++ (styT growT b.grow ++ (styT shrinkT b.shrink ++ styT justifyT b.justify))) := by
    unfold restW at hr
    by_cases hz : b.kind = 0
    · rw [if_pos hz, if_pos (hkind.trans hz)] at hr
      obtain ⟨h5, h6⟩ := List.cons.inj hr
      obtain ⟨h7, h8⟩ := List.cons.inj h6
      exact ⟨(num_inj (by omega) (by omega) h5).symm, (num_inj (by omega) (by omega) h7).symm, h8⟩
    · rw [if_neg hz, if_neg (fun e => hz (hkind.symm.trans e))] at hr
      have := b2 hz
      have := d2 (fun e => hz (hkind.symm.trans e))
      exact ⟨by omega, by omega, hr⟩
  obtain ⟨hw, hh, hs⟩ := hwh
  have nj : ∀ (n : Int) (o : List UInt8), justifyT ≠ o → (styT justifyT n).head? ≠ some o := fun n o hne => by
    have := sty_head (R := []) (n := n) hne (by simp)
    rwa [List.append_nil] at this
  have ns : ∀ (n m : Int) (o : List UInt8), shrinkT ≠ o → justifyT ≠ o → (styT shrinkT n ++ styT justifyT m).head? ≠ some o := fun n m o h1 h2 => sty_head h1 (nj m o h2)
  have ng : ∀ (n m q : Int) (o : List UInt8), growT ≠ o → shrinkT ≠ o → justifyT ≠ o → (styT growT n ++ (styT shrinkT m ++ styT justifyT q)).head? ≠ some o := fun n m q o h0 h1 h2 => sty_head h0 (ns m q o h1 h2)
  have na : ∀ (n m q r : Int) (o : List UInt8), gapT ≠ o → growT ≠ o → shrinkT ≠ o → justifyT ≠ o → (styT gapT n ++ (styT growT m ++ (styT shrinkT q ++ styT justifyT r))).head? ≠ some o := fun n m q r o h9 h0 h1 h2 => sty_head h9 (ng m q r o h0 h1 h2)
  obtain ⟨e1, hs⟩ := sty_inj (by omega) (by omega) (na _ _ _ _ _ (by decide) (by decide) (by decide) (by decide)) (na _ _ _ _ _ (by decide) (by decide) (by decide) (by decide)) hs
  obtain ⟨e2, hs⟩ := sty_inj (by omega) (by omega) (ng _ _ _ _ (by decide) (by decide) (by decide)) (ng _ _ _ _ (by decide) (by decide) (by decide)) hs
  obtain ⟨e3, hs⟩ := sty_inj (by omega) (by omega) (ns _ _ _ (by decide) (by decide)) (ns _ _ _ (by decide) (by decide)) hs
  obtain ⟨e4, hs⟩ := sty_inj (by omega) (by omega) (nj _ _ (by decide)) (nj _ _ (by decide)) hs
  obtain ⟨e5, _⟩ := sty_inj (n := d.justify) (m := b.justify) (R := []) (S := []) (by omega) (by omega) (by simp) (by simp) (by rw [List.append_nil, List.append_nil]; exact hs)
  cases b
  cases d
  simp only at *
  subst hkind hw hh e1 e2 e3 e4 e5
  rfl

/-! ### a line tells its depth and its box -/
theorem box_head (b : Bx) : ∃ c t, boxT b = c :: t ∧ c ≠ 45 := by
  unfold boxT
  have h := kind_head b.kind
  cases hk : kindT b.kind with
  | nil =>
    rw [hk] at h
    cases h
  | cons a t =>
    rw [hk] at h
    refine ⟨a, t ++ ((restW b).map wordT).flatten, rfl, ?_⟩
    have := Option.some.inj h
    subst this
    unfold kindC
    split
    · decide
    · split
      · decide
      · split <;> decide
/-- the minus signs at the beginning of a text -/
def dashes : List UInt8 → Nat
  | [] => 0
  | c :: t => if c = 45 then dashes t + 1 else 0
theorem dashes_line (n : Nat) (b : Bx) : dashes (List.replicate n 45 ++ boxT b) = n := by
  induction n with
  | zero =>
    obtain ⟨c, t, h, hc⟩ := box_head b
    rw [List.replicate_zero, List.nil_append, h]
    unfold dashes
    rw [if_neg hc]
  | succ n ih =>
    rw [List.replicate_succ, List.cons_append]
    unfold dashes
    rw [if_pos rfl, ih]
theorem drop_line (n : Nat) (b : Bx) : (List.replicate n 45 ++ boxT b).drop n = boxT b := by
  exact List.drop_left' (List.length_replicate ..)
end Go.Proofs.YtdlggpphfkjidaaGreatDoor
