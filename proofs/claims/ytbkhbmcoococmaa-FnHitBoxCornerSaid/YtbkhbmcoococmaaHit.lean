/-
  Plain laws: points in boxes, the innermost box at a point, boxes that are seen, parts laid out alone.
-/
import Derived.Test.YtbkhbmcoococmaaAf
namespace Go.Proofs.Ytbkhbmcoococmaa
open Go Go.RowKit

/-! ### points -/
def hasB (r : Rc) (x y : Int) : Bool := decide (r.x ≤ x) && (decide (x < r.x + r.w) && (decide (r.y ≤ y) && decide (y < r.y + r.h)))
theorem hasB_iff {r : Rc} {x y : Int} : hasB r x y = true ↔ (r.x ≤ x ∧ x < r.x + r.w) ∧ (r.y ≤ y ∧ y < r.y + r.h) := by
  unfold hasB
  simp only [Bool.and_eq_true, decide_eq_true_eq, and_assoc]
/-- a box is at a point -/
def hitB (l : List Bx) (sw sh x y : Int) (i : Nat) : Bool := (anc l i).all fun p => hasB (rect l sw sh p) x y
/-- the greatest of the first n boxes at a point, -1 for none -/
def hitTo (l : List Bx) (sw sh x y : Int) : Nat → Int
  | 0 => -1
  | n + 1 => if hitB l sw sh x y n then (n : Int) else hitTo l sw sh x y n
def hitI (l : List Bx) (sw sh x y : Int) : Int := if scrB l sw sh then hitTo l sw sh x y l.length else -1
theorem hitTo_ge (l : List Bx) (sw sh x y : Int) : ∀ n, -1 ≤ hitTo l sw sh x y n ∧ hitTo l sw sh x y n < n
  | 0 => by simp [hitTo]
  | n + 1 => by
    have := hitTo_ge l sw sh x y n
    unfold hitTo
    split <;> omega
theorem hitTo_hit {l : List Bx} {sw sh x y : Int} : ∀ {n k : Nat}, hitTo l sw sh x y n = (k : Int) → k < n ∧ hitB l sw sh x y k = true
  | 0, k, h => by unfold hitTo at h; omega
  | n + 1, k, h => by
    unfold hitTo at h
    split at h
    · rename_i hh
      obtain rfl : n = k := by omega
      exact ⟨by omega, hh⟩
    · have := hitTo_hit h
      exact ⟨by omega, this.2⟩
theorem hitTo_max {l : List Bx} {sw sh x y : Int} : ∀ {n j : Nat}, j < n → hitB l sw sh x y j = true → (j : Int) ≤ hitTo l sw sh x y n
  | 0, j, h, _ => by omega
  | n + 1, j, h, hh => by
    unfold hitTo
    split
    · omega
    · rename_i hn
      have : j ≠ n := fun e => by subst e; exact hn hh
      exact hitTo_max (by omega) hh
/-- all boxes from j on are not at the point -/
theorem hitTo_skip {l : List Bx} {sw sh x y : Int} : ∀ {n j : Nat}, j ≤ n → (∀ i, j ≤ i → i < n → hitB l sw sh x y i = false) → hitTo l sw sh x y n = hitTo l sw sh x y j
  | 0, j, h, _ => by
    obtain rfl : j = 0 := by omega
    rfl
  | n + 1, j, h, hh => by
    by_cases e : j = n + 1
    · rw [e]
    · have h1 := hh n (by omega) (by omega)
      conv => lhs; unfold hitTo
      rw [h1]
      exact hitTo_skip (by omega) fun i hi hn => hh i hi (by omega)
theorem hitTo_at {l : List Bx} {sw sh x y : Int} {n j : Nat} (hj : j < n) (hh : hitB l sw sh x y j = true) (ha : ∀ i, j < i → i < n → hitB l sw sh x y i = false) : hitTo l sw sh x y n = (j : Int) := by
  rw [hitTo_skip (j := j + 1) (by omega) fun i hi hn => ha i (by omega) hn]
  unfold hitTo
  rw [if_pos hh]
theorem hitB_iff {l : List Bx} {sw sh x y : Int} {i : Nat} : hitB l sw sh x y i = true ↔ ∀ p, p ∈ anc l i → hasB (rect l sw sh p) x y = true := by
  unfold hitB
  rw [List.all_eq_true]
theorem hit_screen {l : List Bx} (hv : Valid l) (sw sh x y : Int) : decide (hitTo l sw sh x y l.length = -1) = !(hasB ⟨0, 0, sw, sh⟩ x y) := by
  have h0 := hv.lo
  cases hh : hasB ⟨0, 0, sw, sh⟩ x y with
  | true =>
    have : hitB l sw sh x y 0 = true := by
      rw [hitB_iff, anc_root (hv.down h0) (by have := hv.root; omega)]
      intro p hp
      rw [List.mem_singleton] at hp
      subst hp
      rw [rect_root hv]
      exact hh
    have := hitTo_max h0 this
    apply decide_eq_false
    omega
  | false =>
    apply decide_eq_true
    have hg := hitTo_ge l sw sh x y l.length
    by_cases e : hitTo l sw sh x y l.length = -1
    · exact e
    · obtain ⟨k, hk⟩ := Int.eq_ofNat_of_zero_le (show 0 ≤ hitTo l sw sh x y l.length by omega)
      obtain ⟨h1, h2⟩ := hitTo_hit hk
      have := hitB_iff.1 h2 0 (anc_zero hv k h1)
      rw [rect_root hv, hh] at this
      cases this
theorem hit_kid {l : List Bx} (hv : Valid l) {sw sh x y : Int} {k c : Nat} (hk : hitTo l sw sh x y l.length = (k : Int)) (hc : c ∈ kid l (k : Int)) : hasB (rect l sw sh c) x y = false := by
  obtain ⟨h1, h2⟩ := hitTo_hit hk
  obtain ⟨h3, h4⟩ := mem_kid_iff.1 hc
  cases hh : hasB (rect l sw sh c) x y with
  | false => rfl
  | true =>
    have hlt := (hv.down h3) c (Nat.le_refl _)
    have : hitB l sw sh x y c = true := by
      rw [hitB_iff, anc_up (hv.down h3) h4]
      intro p hp
      rcases List.mem_cons.1 hp with rfl | hp
      · exact hh
      · exact hitB_iff.1 h2 p hp
    have := hitTo_max h3 this
    omega

/-! ### common points -/
theorem meet_has {r s : Rc} {x y : Int} (h1 : hasB r x y = true) (h2 : hasB s x y = true) : meetB r s = true := by
  rw [hasB_iff] at h1 h2
  unfold meetB
  rw [Bool.and_eq_true, decide_eq_true_eq, decide_eq_true_eq]
  omega
theorem meet_self {r : Rc} (h1 : 0 < r.w) (h2 : 0 < r.h) : meetB r r = true := by
  unfold meetB
  rw [Bool.and_eq_true, decide_eq_true_eq, decide_eq_true_eq]
  omega
/-- the boxes of which something is seen -/
def seenTo (l : List Bx) (sw sh : Int) (v : Rc) (n : Nat) : List Nat := (List.range n).filter fun i => meetB (rect l sw sh i) v
theorem seenTo_succ (l : List Bx) (sw sh : Int) (v : Rc) (n : Nat) : seenTo l sw sh v (n + 1) = if meetB (rect l sw sh n) v = true then seenTo l sw sh v n ++ [n] else seenTo l sw sh v n := by
  unfold seenTo
  rw [List.range_succ, List.filter_append]
  cases h : meetB (rect l sw sh n) v
  · rw [if_neg (by simp)]
    simp [h]
  · rw [if_pos rfl]
    simp [h]
theorem seenTo_mem {l : List Bx} {sw sh : Int} {v : Rc} {n i : Nat} : i ∈ seenTo l sw sh v n ↔ i < n ∧ meetB (rect l sw sh i) v = true := by
  unfold seenTo
  simp
theorem seenTo_length (l : List Bx) (sw sh : Int) (v : Rc) (n : Nat) : (seenTo l sw sh v n).length ≤ n := by
  unfold seenTo
  have := List.length_filter_le (fun i => meetB (rect l sw sh i) v) (List.range n)
  rwa [List.length_range] at this

/-! ### corners -/
theorem inset_in {r : Rc} {e : Int} (he : 0 ≤ e) (hw : 0 ≤ r.w) (hh : 0 ≤ r.h) : r.x ≤ (insetR r e).x ∧ r.y ≤ (insetR r e).y ∧ ((insetR r e).w = 0 ∨ (insetR r e).x + (insetR r e).w ≤ r.x + r.w) ∧ ((insetR r e).h = 0 ∨ (insetR r e).y + (insetR r e).h ≤ r.y + r.h) := by
  unfold insetR
  dsimp only
  omega
/-- a box that does not spill, and has points, lies in the box around it -/
theorem spill_in {l : List Bx} (hv : Valid l) {sw sh : Int} (hsw : 0 ≤ sw ∧ sw ≤ 10000) (hsh : 0 ≤ sh ∧ sh ≤ 10000) {i p : Nat} (hi : i < l.length) (hp : par l i = (p : Int)) (hs : spillB l sw sh i = false) {x y : Int} (hx : hasB (rect l sw sh i) x y = true) : hasB (rect l sw sh p) x y = true := by
  have hlt := (hv.down hi) i (Nat.le_refl _)
  have hb := okB_bounds (hv.ok p (by omega))
  have hpos := rect_pos hv hsw hsh (k := p) (by omega)
  have hpos2 := rect_pos hv hsw hsh (k := i) hi
  have hin := inset_in (r := rect l sw sh p) (e := (bx l p).pad) (by omega) hpos.1 hpos.2
  unfold spillB at hs
  rw [hp, Int.toNat_natCast] at hs
  unfold bynd at hs
  rw [Bool.or_eq_false_iff, Bool.or_eq_false_iff, Bool.or_eq_false_iff] at hs
  simp only [decide_eq_false_iff_not] at hs
  rw [hasB_iff] at hx ⊢
  omega
theorem corner_hit {l : List Bx} (hv : Valid l) {sw sh : Int} (hsw : 0 ≤ sw ∧ sw ≤ 10000) (hsh : 0 ≤ sh ∧ sh ≤ 10000) {x y : Int} : ∀ (d i : Nat), i ≤ d → i < l.length → (∀ p, p ∈ anc l i → 0 < p → spillB l sw sh p = false) → hasB (rect l sw sh i) x y = true → hitB l sw sh x y i = true
  | 0, i, hd, hi, hs, hx => by
    obtain rfl : i = 0 := by omega
    rw [hitB_iff, anc_root (hv.down hi) (by have := hv.root; omega)]
    intro p hp
    rw [List.mem_singleton] at hp
    subst hp
    exact hx
  | d + 1, i, hd, hi, hs, hx => by
    by_cases h0 : i = 0
    · exact corner_hit hv hsw hsh d i (by omega) hi hs hx
    · have hpp := hv.par i (by omega) hi
      obtain ⟨p, hp⟩ : ∃ p : Nat, par l i = p := ⟨(par l i).toNat, by omega⟩
      have ha := anc_up (hv.down hi) hp
      have hx2 := spill_in hv hsw hsh hi hp (hs i (anc_self (hv.down hi)) (by omega)) hx
      have ih := corner_hit hv hsw hsh d p (by omega) (by omega) (fun q hq => hs q (by rw [ha]; exact List.mem_cons_of_mem _ hq)) hx2
      rw [hitB_iff, ha]
      intro q hq
      rcases List.mem_cons.1 hq with rfl | hq
      · exact hx
      · exact hitB_iff.1 ih q hq
theorem hit_sib {l : List Bx} (hv : Valid l) {sw sh : Int} (hsw : 0 ≤ sw ∧ sw ≤ 10000) (hsh : 0 ≤ sh ∧ sh ≤ 10000) {x y : Int} {i k p : Nat} (hi : i < l.length) (h1 : hitB l sw sh x y i = true) (hk : k < l.length) (hik : i < k) (h2 : hitB l sw sh x y k = true) (hp : par l k = (p : Int)) (hlt : p < i) : False := by
  have hpk : p ∈ anc l k := by
    rw [anc_up (hv.down hk) hp]
    exact List.mem_cons_of_mem _ (anc_self (hv.down (by omega)))
  have hpi : p ∈ anc l i := between hv (k - i) i (by omega) (by omega) (by rw [show i + (k - i) = k by omega]; exact hpk)
  obtain ⟨a, ha, hai⟩ := anc_kid hv i i (Nat.le_refl _) hi hpi (by omega)
  obtain ⟨h3, h4⟩ := mem_kid_iff.1 ha
  have hle := anc_le i (hv.down hi) a hai
  have hlt2 := (hv.down h3) a (Nat.le_refl _)
  have hm := meet_has (hitB_iff.1 h2 k (anc_self (hv.down hk))) (hitB_iff.1 h1 a hai)
  rw [rect_apart hv hsw hsh hk (show 0 < a by omega) (show a < k by omega) (by rw [hp, h4])] at hm
  cases hm
/-- two boxes at one point are around each other -/
theorem hit_chain {l : List Bx} (hv : Valid l) {sw sh : Int} (hsw : 0 ≤ sw ∧ sw ≤ 10000) (hsh : 0 ≤ sh ∧ sh ≤ 10000) {x y : Int} {i : Nat} (hi : i < l.length) (h1 : hitB l sw sh x y i = true) : ∀ (d k : Nat), k ≤ d → k < l.length → i ≤ k → hitB l sw sh x y k = true → i ∈ anc l k
  | 0, k, hd, hk, hle, h2 => by
    obtain rfl : i = k := by omega
    exact anc_self (hv.down hi)
  | d + 1, k, hd, hk, hle, h2 => by
    by_cases e : i = k
    · subst e
      exact anc_self (hv.down hi)
    · have hpp := hv.par k (by omega) hk
      obtain ⟨p, hp⟩ : ∃ p : Nat, par l k = p := ⟨(par l k).toNat, by omega⟩
      have ha := anc_up (hv.down hk) hp
      have hup : hitB l sw sh x y p = true := by
        rw [hitB_iff] at h2 ⊢
        intro q hq
        exact h2 q (by rw [ha]; exact List.mem_cons_of_mem _ hq)
      rcases Nat.lt_or_ge p i with hlt | hge
      · exfalso
        exact hit_sib hv hsw hsh hi h1 hk (by omega) h2 hp hlt
      · have ih := hit_chain hv hsw hsh hi h1 d p (by omega) (by omega) hge hup
        rw [ha]
        exact List.mem_cons_of_mem _ ih
theorem corner_around {l : List Bx} (hv : Valid l) {sw sh : Int} (hsw : 0 ≤ sw ∧ sw ≤ 10000) (hsh : 0 ≤ sh ∧ sh ≤ 10000) {i : Nat} (hi : i < l.length) (hs : ∀ p, p ∈ anc l i → 0 < p → spillB l sw sh p = false) (hw : 0 < (rect l sw sh i).w) (hh : 0 < (rect l sw sh i).h) :
    ∃ k : Nat, hitTo l sw sh (rect l sw sh i).x (rect l sw sh i).y l.length = (k : Int) ∧ k < l.length ∧ i ∈ anc l k := by
  have hit := corner_hit hv hsw hsh (x := (rect l sw sh i).x) (y := (rect l sw sh i).y) i i (Nat.le_refl _) hi hs (by rw [hasB_iff]; omega)
  have hm := hitTo_max hi hit
  obtain ⟨k, hk⟩ := Int.eq_ofNat_of_zero_le (show 0 ≤ hitTo l sw sh (rect l sw sh i).x (rect l sw sh i).y l.length by omega)
  obtain ⟨h1, h2⟩ := hitTo_hit hk
  exact ⟨k, hk, h1, hit_chain hv hsw hsh hi hit k k (Nat.le_refl _) h1 (by omega) h2⟩

/-! ### parts are laid out alone -/
def shR (a : Rc) (r : Rc) : Rc := ⟨a.x + r.x, a.y + r.y, a.w, a.h⟩
theorem inset_sh (a r : Rc) (e : Int) : insetR (shR a r) e = shR (insetR a e) r := by
  unfold insetR shR
  dsimp only
  congr 1 <;> omega
theorem part_sty (l : List Bx) (a j : Nat) : (partBx l a j).pad = (bx l (a + j)).pad ∧ (partBx l a j).gap = (bx l (a + j)).gap ∧ (partBx l a j).justify = (bx l (a + j)).justify ∧ (partBx l a j).grow = (bx l (a + j)).grow ∧ (partBx l a j).shrink = (bx l (a + j)).shrink := by
  unfold partBx
  split
  · rename_i h
    subst h
    exact ⟨rfl, rfl, rfl, rfl, rfl⟩
  · exact ⟨rfl, rfl, rfl, rfl, rfl⟩
theorem part_flxs {l : List Bx} (hv : Valid l) (row : Bool) {a q : Nat} (ha : a < l.length) (hq : q < cntS l a) : flxsOf row (partL l a) q = flxsOf row l (a + q) := by
  unfold flxsOf
  rw [part_kid hv ha hq, List.map_map]
  apply List.map_congr_left
  intro k hk
  have hkl := (mem_kid_iff.1 hk).1
  rw [partL_length] at hkl
  obtain ⟨_, _, _, h4, h5⟩ := part_sty l a k
  have hb := partL_bx (l := l) (a := a) hkl
  unfold flxOf along
  simp only [Function.comp_apply]
  rw [part_nat hv ha hkl, hb, h4, h5]
theorem part_len {l : List Bx} (hv : Valid l) {a q : Nat} (ha : a < l.length) (hq : q < cntS l a) : (kid (partL l a) (q : Int)).length = (kid l ((a + q : Nat) : Int)).length := by
  rw [part_kid hv ha hq, List.length_map]
theorem part_szs {l : List Bx} (hv : Valid l) (row : Bool) {a q : Nat} (ha : a < l.length) (hq : q < cntS l a) (space : Int) : szs row (partL l a) q space = szs row l (a + q) space := by
  obtain ⟨_, h2, _⟩ := part_sty l a q
  unfold szs spc
  rw [part_flxs hv row ha hq, partL_bx hq, h2, part_len hv ha hq]
theorem part_off {l : List Bx} (hv : Valid l) (row : Bool) {a q : Nat} (ha : a < l.length) (hq : q < cntS l a) (space : Int) (j : Nat) : offK row (partL l a) q space j = offK row l (a + q) space j := by
  obtain ⟨_, h2, h3, _⟩ := part_sty l a q
  unfold offK
  rw [part_szs hv row ha hq, partL_bx hq, h2, h3]
theorem part_blk {l : List Bx} (hv : Valid l) {a q : Nat} (ha : a < l.length) (hq : q < cntS l a) (j : Nat) : blkO (partL l a) q j = blkO l (a + q) j := by
  obtain ⟨_, h2, _⟩ := part_sty l a q
  unfold blkO
  rw [partL_bx hq, h2, part_kid hv ha hq, ← List.map_take, List.map_map]
  congr 2
  apply List.map_congr_left
  intro k hk
  have hkl := (mem_kid_iff.1 (List.mem_of_mem_take hk)).1
  rw [partL_length] at hkl
  exact congrArg Prod.snd (part_nat hv ha hkl)
theorem part_place {l : List Bx} (hv : Valid l) {a q j k : Nat} (ha : a < l.length) (hq : q < cntS l a) (hk : k < cntS l a) (R r : Rc) : placeR l (a + q) j (shR R r) (a + k) = shR (placeR (partL l a) q j R k) r := by
  obtain ⟨h1, _⟩ := part_sty l a q
  have hkd := partBx_kind l a q
  have e : (shR (insetR R (bx l (a + q)).pad) r).w = (insetR R (bx l (a + q)).pad).w := rfl
  have e2 : (shR (insetR R (bx l (a + q)).pad) r).h = (insetR R (bx l (a + q)).pad).h := rfl
  unfold placeR
  rw [partL_bx hq, h1, hkd, inset_sh, e, e2]
  simp only [part_szs hv _ ha hq, part_off hv _ ha hq, part_blk hv ha hq, part_nat hv ha hk]
  unfold shR
  split
  · dsimp only
    congr 1
    omega
  · split
    · dsimp only
      congr 1
      omega
    · dsimp only
      congr 1
      omega
theorem part_rect {l : List Bx} (hv : Valid l) {a : Nat} (ha : a < l.length) {w h : Int} : ∀ (d j : Nat), j ≤ d → j < cntS l a → rect l w h (a + j) = shR (rect (partL l a) (rect l w h a).w (rect l w h a).h j) (rect l w h a)
  | 0, j, hd, hj => by
    obtain rfl : j = 0 := by omega
    rw [rect_root (part_valid hv ha)]
    unfold shR
    simp
  | d + 1, j, hd, hj => by
    by_cases h0 : j = 0
    · exact part_rect hv ha d j (by omega) hj
    · have hpv := part_valid hv ha
      have hjl : j < (partL l a).length := by rw [partL_length]; exact hj
      have hpp := hpv.par j (by omega) hjl
      obtain ⟨q, hq⟩ : ∃ q : Nat, par (partL l a) j = q := ⟨(par (partL l a) j).toNat, by omega⟩
      have hk2 := posK_get hjl
      rw [hq] at hk2
      have hql : q < cntS l a := by omega
      have hk3 : (kid l ((a + q : Nat) : Int))[posK (partL l a) j]? = some (a + j) := by
        rw [part_kid hv ha hql, List.getElem?_map, hk2]
        rfl
      rw [rect_kid hpv hk2, rect_kid hv hk3, part_rect hv ha d q (by omega) hql, part_place hv ha hql hj]
end Go.Proofs.Ytbkhbmcoococmaa
