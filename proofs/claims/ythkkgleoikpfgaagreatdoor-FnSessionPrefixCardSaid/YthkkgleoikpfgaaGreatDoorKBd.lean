/-
  Parts of the proof: SesA SesX.
-/
import Derived.Deep.Cut
import Derived.Deep.CutRange
import Derived.Deep.CutBlock
import Derived.IntWalk
import Derived.Laws.EntriesVeiled
import Derived.StillTailTactics
import Derived.Test.YthkkgleoikpfgaaGreatDoorKAv
import Derived.Test.YthkkgleoikpfgaaGreatDoorKAt
import Derived.Test.YthkkgleoikpfgaaGreatDoorKAu
import Derived.Test.YthkkgleoikpfgaaGreatDoorKBb
import Derived.Test.YthkkgleoikpfgaaGreatDoorKBc
import Derived.Test.YthkkgleoikpfgaaGreatDoorKAg
namespace Go.Proofs.YthkkgleoikpfgaaGreatDoor
open Go Go.RowKit
theorem mt62 : Tryz.prog.underlying 62 = some (.map 9 61) := by kernel_rfl
theorem mt69 : Tryz.prog.underlying 69 = some (.map 9 68) := by kernel_rfl
theorem mtS : Tryz.prog.underlying 9 = some .string := by kernel_rfl
theorem mz61 (w : World) : (zeroValue 61).run Tryz.prog w = .ok .nilFunc w := by kernel_rfl
theorem mz68 (w : World) : (zeroValue 68).run Tryz.prog w = .ok (.agg #[.int .i64 0, .nilFunc]) w := by kernel_rfl
theorem mapExt {w0 w w' : World} {m : Nat} (h : Ext w0 w) (hx : ExtR m w w') (hm : w0.heap.size ≤ m) : Ext w0 w' := by
 have h1 := afterR (bel_of h) hx (Nat.le_refl _)
 exact below_of_bel h1 hm
/-- the two edits -/
def edits : List (List UInt8 × Value) := [(addT, .func (.func 29) #[] #[]), (styT2, .func (.func 30) #[] #[])]
theorem MapIs.ext {w w' : World} {m : Nat} {l : List (List UInt8 × Value)} (h : MapIs w m l) (hx : Ext w w') : MapIs w' m l := by
 obtain ⟨es, clock, hb, he⟩ := h
 exact ⟨es, clock, (hx.block m (Array.getElem?_eq_some_iff.1 hb).1).trans hb, he⟩
theorem look_edits (x : List UInt8) : look edits x = if x = addT then some (.func (.func 29) #[] #[]) else if x = styT2 then some (.func (.func 30) #[] #[]) else none := by
 unfold edits look look look
 simp only [eq_comm]
/-- the words behind the edits -/
def tailW (st : St) (ws : List (List UInt8)) : List UInt8 × St :=
 let x := ws.headD []
 let n := fun k => prI (ws.getD k [])
 if x = remT ∧ ws.length = 2 then (yesT (remS st (n 1)).1, (remS st (n 1)).2)
 else if x = sizT ∧ ws.length = 3 then (yesT (sizS st (n 1) (n 2)).1, (sizS st (n 1) (n 2)).2)
 else if x = recT ∧ ws.length = 2 then (recS st (n 1), st)
 else if x = hitT ∧ ws.length = 3 then (dcZ (hitI st.tree st.w st.h (n 1) (n 2)), st)
 else if x = cntT ∧ ws.length = 1 then (dcZ st.tree.length, st)
 else (whaT, st)
theorem word_else (st : St) (ws : List (List UInt8)) (h : 2 < ws.length → ws.headD [] ≠ addT ∧ ws.headD [] ≠ styT2) : wordS st ws = tailW st ws := by
 unfold wordS
 rw [if_neg (fun q => (h q.2).1 q.1), if_neg (fun q => (h q.2).2 q.1)]
 rfl
/-- a command: how many numbers, and the method -/
def cmdV (g K : Nat) (n : Int) : Value := .agg #[.int .i64 n, .func (.func K) #[.pointer (some ⟨g, 0, none⟩)] #[]]
def cmds (g : Nat) : List (List UInt8 × Value) := [(remT, cmdV g 33 1), (sizT, cmdV g 34 2), (recT, cmdV g 35 1), (hitT, cmdV g 36 2), (cntT, cmdV g 37 0)]
theorem look_cmds (g : Nat) (x : List UInt8) : look (cmds g) x = if x = remT then some (cmdV g 33 1) else if x = sizT then some (cmdV g 34 2) else if x = recT then some (cmdV g 35 1) else if x = hitT then some (cmdV g 36 2) else if x = cntT then some (cmdV g 37 0) else none := by
 unfold cmds look look look look look look
 simp only [eq_comm]
theorem look_cases (g : Nat) (x : List UInt8) : look (cmds g) x = none ∨ ∃ K n, look (cmds g) x = some (cmdV g K n) ∧ 0 ≤ n ∧ n ≤ 2 := by
 rw [look_cmds]
 by_cases h1 : x = remT
 ·exact .inr ⟨_, _, if_pos h1, by omega, by omega⟩
 rw [if_neg h1]
 by_cases h1 : x = sizT
 ·exact .inr ⟨_, _, if_pos h1, by omega, by omega⟩
 rw [if_neg h1]
 by_cases h1 : x = recT
 ·exact .inr ⟨_, _, if_pos h1, by omega, by omega⟩
 rw [if_neg h1]
 by_cases h1 : x = hitT
 ·exact .inr ⟨_, _, if_pos h1, by omega, by omega⟩
 rw [if_neg h1]
 by_cases h1 : x = cntT
 ·exact .inr ⟨_, _, if_pos h1, by omega, by omega⟩
 rw [if_neg h1]
 exact .inl rfl
theorem cmdV_inj {g K K' : Nat} {n n' : Int} (h : some (cmdV g K n) = some (cmdV g K' n')) : K = K' ∧ n = n' := by
 unfold cmdV at h
 simp at h
 exact ⟨h.2, h.1⟩
/-- no command: 'what' -/
theorem tail_none (st : St) (g : Nat) (x : List UInt8) (r : List (List UInt8)) (h : look (cmds g) x = none) : tailW st (x :: r) = (whaT, st) := by
 rw [look_cmds] at h
 unfold tailW
 have q : ∀ {c : Prop} [Decidable c] {v : Value} {o : Option Value}, (if c then some v else o) = none → ¬ c ∧ o = none := fun {c} _ {v o} e => by
  by_cases hc : c
  ·rw [if_pos hc] at e; cases e
  ·rw [if_neg hc] at e; exact ⟨hc, e⟩
 obtain ⟨h1, h⟩ := q h
 obtain ⟨h2, h⟩ := q h
 obtain ⟨h3, h⟩ := q h
 obtain ⟨h4, h⟩ := q h
 obtain ⟨h5, h⟩ := q h
 simp only [List.headD_cons, h1, h2, h3, h4, h5, false_and, if_false]
theorem tail_what (st : St) (ws : List (List UInt8)) (h1 : ¬ (ws.headD [] = remT ∧ ws.length = 2)) (h2 : ¬ (ws.headD [] = sizT ∧ ws.length = 3)) (h3 : ¬ (ws.headD [] = recT ∧ ws.length = 2)) (h4 : ¬ (ws.headD [] = hitT ∧ ws.length = 3)) (h5 : ¬ (ws.headD [] = cntT ∧ ws.length = 1)) : tailW st ws = (whaT, st) := by
 unfold tailW
 rw [if_neg h1, if_neg h2, if_neg h3, if_neg h4, if_neg h5]
theorem tail_short (st : St) (g K : Nat) (n : Int) (x : List UInt8) (r : List (List UInt8)) (h : look (cmds g) x = some (cmdV g K n)) (hl : (r.length : Int) ≠ n) : tailW st (x :: r) = (whaT, st) := by
 rw [look_cmds] at h
 by_cases h1 : x = remT
 ·subst h1
  rw [if_pos rfl] at h
  have := (cmdV_inj h).2
  have h2 : ¬ r.length + 1 = 2 := by omega
  refine tail_what st _ ?_ ?_ ?_ ?_ ?_ <;> first | exact fun q => h2 q.2 | exact fun q => absurd ((List.headD_cons ..).symm.trans q.1) (by decide)
 rw [if_neg h1] at h
 by_cases h1 : x = sizT
 ·subst h1
  rw [if_pos rfl] at h
  have := (cmdV_inj h).2
  have h2 : ¬ r.length + 1 = 3 := by omega
  refine tail_what st _ ?_ ?_ ?_ ?_ ?_ <;> first | exact fun q => h2 q.2 | exact fun q => absurd ((List.headD_cons ..).symm.trans q.1) (by decide)
 rw [if_neg h1] at h
 by_cases h1 : x = recT
 ·subst h1
  rw [if_pos rfl] at h
  have := (cmdV_inj h).2
  have h2 : ¬ r.length + 1 = 2 := by omega
  refine tail_what st _ ?_ ?_ ?_ ?_ ?_ <;> first | exact fun q => h2 q.2 | exact fun q => absurd ((List.headD_cons ..).symm.trans q.1) (by decide)
 rw [if_neg h1] at h
 by_cases h1 : x = hitT
 ·subst h1
  rw [if_pos rfl] at h
  have := (cmdV_inj h).2
  have h2 : ¬ r.length + 1 = 3 := by omega
  refine tail_what st _ ?_ ?_ ?_ ?_ ?_ <;> first | exact fun q => h2 q.2 | exact fun q => absurd ((List.headD_cons ..).symm.trans q.1) (by decide)
 rw [if_neg h1] at h
 by_cases h1 : x = cntT
 ·subst h1
  rw [if_pos rfl] at h
  have := (cmdV_inj h).2
  have h2 : ¬ r.length + 1 = 1 := by omega
  refine tail_what st _ ?_ ?_ ?_ ?_ ?_ <;> first | exact fun q => h2 q.2 | exact fun q => absurd ((List.headD_cons ..).symm.trans q.1) (by decide)
 rw [if_neg h1] at h
 cases h
theorem look_K (g K : Nat) (n : Int) (x : List UInt8) (h : look (cmds g) x = some (cmdV g K n)) : K = 33 ∨ K = 34 ∨ K = 35 ∨ K = 36 ∨ K = 37 := by
 rw [look_cmds] at h
 have q : ∀ {c : Prop} [Decidable c] {v v' : Value} {o : Option Value}, (if c then some v' else o) = some v → some v' = some v ∨ o = some v := fun {c} _ {v v' o} e => by
  by_cases hc : c
  ·rw [if_pos hc] at e; exact .inl e
  ·rw [if_neg hc] at e; exact .inr e
 rcases q h with h | h
 ·exact .inl (cmdV_inj h).1.symm
 rcases q h with h | h
 ·exact .inr (.inl (cmdV_inj h).1.symm)
 rcases q h with h | h
 ·exact .inr (.inr (.inl (cmdV_inj h).1.symm))
 rcases q h with h | h
 ·exact .inr (.inr (.inr (.inl (cmdV_inj h).1.symm)))
 rcases q h with h | h
 ·exact .inr (.inr (.inr (.inr (cmdV_inj h).1.symm)))
 cases h
/-- a command that was found, with its numbers -/
theorem cmd_any {g K : Nat} {No : Nat → Prop} {st : St} {v : Value} {n : Int} {x : List UInt8} {r : List (List UInt8)} (w : World) (hA : ∀ k, No k → k < w.heap.size) (hk : look (cmds g) x = some (cmdV g K n)) (hl : (r.length : Int) = n) (h : SesA 45 g No st w) (hok : OkS st) (ht : Tab w) (hv : Own w 0 1 v (Is (r.map prI))) (hvg : blk v ≠ some g) :
 Calls Tryz.prog K #[.pointer (some ⟨g, 0, none⟩), v] w fun e w' => e = .returned (sv (tailW st (x :: r)).1) ∧ SesA 45 g No (tailW st (x :: r)).2 w' ∧ ExtR g w w' := by
 rw [look_cmds] at hk
 by_cases h1 : x = remT
 ·subst h1
  rw [if_pos rfl] at hk
  obtain ⟨rfl, rfl⟩ := cmdV_inj hk
  obtain ⟨a, rfl⟩ := List.length_eq_one_iff.1 (show r.length = 1 by omega)
  exact remove_m (prI a) w hA h hv.rd
 rw [if_neg h1] at hk
 by_cases h1 : x = sizT
 ·subst h1
  rw [if_pos rfl] at hk
  obtain ⟨rfl, rfl⟩ := cmdV_inj hk
  obtain ⟨a, b, rfl⟩ := len_two (show r.length = 2 by omega)
  exact size_m (prI a) (prI b) w h hv hvg
 rw [if_neg h1] at hk
 by_cases h1 : x = recT
 ·subst h1
  rw [if_pos rfl] at hk
  obtain ⟨rfl, rfl⟩ := cmdV_inj hk
  obtain ⟨a, rfl⟩ := List.length_eq_one_iff.1 (show r.length = 1 by omega)
  refine (rect_m (prI a) w h hok ht hv.rd).mono ?_
  rintro e w' ⟨rfl, hx⟩
  exact ⟨rfl, h.ext hx, extR_ext hx⟩
 rw [if_neg h1] at hk
 by_cases h1 : x = hitT
 ·subst h1
  rw [if_pos rfl] at hk
  obtain ⟨rfl, rfl⟩ := cmdV_inj hk
  obtain ⟨a, b, rfl⟩ := len_two (show r.length = 2 by omega)
  refine (hit_m (prI a) (prI b) w h hok ht hv.rd).mono ?_
  rintro e w' ⟨rfl, hx⟩
  exact ⟨rfl, h.ext hx, extR_ext hx⟩
 rw [if_neg h1] at hk
 by_cases h1 : x = cntT
 ·subst h1
  rw [if_pos rfl] at hk
  obtain ⟨rfl, rfl⟩ := cmdV_inj hk
  obtain rfl := List.length_eq_zero_iff.1 (show r.length = 0 by omega)
  refine (count_m w h hok ht).mono ?_
  rintro e w' ⟨rfl, hx⟩
  exact ⟨rfl, h.ext hx, extR_ext hx⟩
 rw [if_neg h1] at hk
 cases hk
set_option maxRecDepth 100000 in
set_option maxHeartbeats 1000000 in
theorem answer_any {g : Nat} {No : Nat → Prop} {st : St} (ln : List UInt8) (w : World) (hA : ∀ k, No k → k < w.heap.size) (h : SesA 45 g No st w) (hok : OkS st) (hl : LaidP w) (hln : ln.length ≤ 2000000) :
 Calls Tryz.prog 24 #[.pointer (some ⟨g, 0, none⟩), .string ⟨ln.toArray⟩] w fun e w' => e = .returned (sv (lineS st ln).1) ∧ SesA 45 g No (lineS st ln).2 w' ∧ ExtR g w w' := by
 have HG := Lib.hid (fun w => splitN3_any ln 32 w hln)
 have HG2 := Lib.hid (fun w => split_any ln 32 w hln)
 have H3 := Lib.hid (split_three 32 ln)
 have HLE := Lib.hid (fun x => splitB_le 32 ln x)
 have HLE3 := Lib.hid (fun x => splitK_le 32 2 ln x)
 have hmm := @run_makeMap Tryz.prog
 go_enter Tryz.func24, Tryz.ntmps24
 have hm1 := MapIs.made w
 have hx1 : Ext w (w.alloc (.map #[] 0)) := Below.of_alloc w _
 go_wp2_with (refine wpList_ins _ rfl _ _ _ _ rfl mt62 mtS hm1 rfl _ rfl _ rfl rfl ?_; intro w1 hm1 hxn; replace hx1 := mapExt hx1 hxn (Nat.le_refl _); clear hxn)
 replace hm1 : MapIs w1 w.heap.size edits := hm1
 refine (HG.out _).mono ?_
 rintro e w2 ⟨N, hN, rfl, kx, hx2, hlN⟩
 clear HG
 replace hm1 := hm1.ext hx2
 replace hx1 := after hx1 hx2 (Nat.le_refl _)
 clear hx2
 generalize splitK 32 2 ln = P3 at *
 obtain ⟨ws, hws⟩ : ∃ ws, ws = splitB 32 ln := ⟨_, rfl⟩
 have hws0 : ws ≠ [] := by
  rw [hws]
  exact splitB_ne 32 ln
 rw [← hws] at H3 HG2 HLE
 have HW : Hid (lineS st ln = wordS st ws) := by
  rw [hws]
  exact rfl
 obtain ⟨n3, hn3⟩ : ∃ n, n = P3.length := ⟨_, rfl⟩
 rw [← hn3]
 generalize w1.heap.size = m3 at *
 replace hws : Hid (ws = splitB 32 ln) := hws
 clear hmm
 go_upto_if 22 with fail
 go_cut [] from 16 to 95 (fun wx => Ext w wx ∧ (2 < ws.length → ws.headD [] ≠ addT ∧ ws.headD [] ≠ styT2))
 case first =>
  by_cases hlen : 2 < ws.length
  ·have e3 := H3.out
   rw [if_pos hlen] at e3
   subst e3
   replace hlN : 3 ≤ N := hlN
   obtain rfl : N = 3 := by omega
   replace hn3 : n3 = 3 := hn3
   subst hn3
   clear H3 hlN hN
   obtain ⟨a, b, r, rfl⟩ : ∃ a b r, ws = a :: b :: r := by
    match ws, hlen with
    | a :: b :: r, _ => exact ⟨a, b, r, rfl⟩
   have hr : r ≠ [] := fun e => by rw [e] at hlen; simp at hlen
   have d0 : w2.cell? ⟨m3, 0, none⟩ = some (.string ⟨a.toArray⟩) := kx.cell 0
   have d1 : w2.cell? ⟨m3, 1, none⟩ = some (.string ⟨b.toArray⟩) := kx.cell 1
   have d2 : w2.cell? ⟨m3, 2, none⟩ = some (.string ⟨(Lib.join r [32]).toArray⟩) := kx.cell 2
   have hlb : b.length ≤ 2000000 := Nat.le_trans (HLE.out b (by simp)) hln
   have hlr : (Lib.join r [32]).length ≤ 2000000 := Nat.le_trans (HLE3.out (Lib.join r [32]) (by simp)) hln
   have HLK := look_edits a
   by_cases ha : a = addT
   ·rw [if_pos ha] at HLK
    replace ha : Hid (a = addT) := ha
    go_wp2_with (at_lookup; refine wpList_hit _ rfl _ _ _ rfl mt62 mtS (mz61 _) hm1 rfl a rfl _ HLK ?_)
    go_still_tail 8, (by kernel_rfl)
    repeat still_step
    try refine wpStill_nil ?_
    change wpList _ _ _ _ _ w2.drew
    have HS : Hid (∀ w', Ext w w' → SesA 45 g No st w') := fun w' hw => h.ext hw
    have HL : Hid (∀ w', Ext w w' → LaidP w') := fun w' hw => hl.below hw
    have HA : Hid (∀ w', Ext w w' → ∀ k, No k → k < w'.heap.size) := fun w' hw k hk => Nat.lt_of_lt_of_le (hA k hk) hw.size
    replace hx1 : Ext w w2.drew := hx1.drew
    clear kx d0 d1 d2 hm1 HLK h hl
    generalize w2.drew = wd at *
    go_wp2_with (fail)
    refine (edit_add b (Lib.join r [32]) _ (HA.out _ hx1) (HS.out _ hx1) hlb hlr (HL.out _ hx1)).mono ?_
    rintro e w3 ⟨rfl, hs3, hx3⟩
    have HX := Lib.hid (ext_extR hx1 hx3)
    rw [word_add st a b _ r rfl hr ha.out] at HW
    unfold sv
    generalize yesT _ = out at *
    go_wp2
    go_ret
    exact ⟨by rw [HW.out]; rfl, by rw [HW.out]; exact hs3, HX.out⟩
   ·rw [if_neg ha] at HLK
    by_cases ha2 : a = styT2
    ·rw [if_pos ha2] at HLK
     clear ha
     replace ha : Hid (a = styT2) := ha2
     clear ha2
     go_wp2_with (at_lookup; refine wpList_hit _ rfl _ _ _ rfl mt62 mtS (mz61 _) hm1 rfl a rfl _ HLK ?_)
     go_still_tail 8, (by kernel_rfl)
     repeat still_step
     try refine wpStill_nil ?_
     change wpList _ _ _ _ _ w2.drew
     have HS : Hid (∀ w', Ext w w' → SesA 45 g No st w') := fun w' hw => h.ext hw
     have HL : Hid (∀ w', Ext w w' → LaidP w') := fun w' hw => hl.below hw
     have HA : Hid (∀ w', Ext w w' → ∀ k, No k → k < w'.heap.size) := fun w' hw k hk => Nat.lt_of_lt_of_le (hA k hk) hw.size
     replace hx1 : Ext w w2.drew := hx1.drew
     clear kx d0 d1 d2 hm1 HLK h hl
     generalize w2.drew = wd at *
     go_wp2_with (fail)
     refine (edit_sty b (Lib.join r [32]) _ (HA.out _ hx1) (HS.out _ hx1) hlb hlr (HL.out _ hx1)).mono ?_
     rintro e w3 ⟨rfl, hs3, hx3⟩
     have HX := Lib.hid (ext_extR hx1 hx3)
     rw [word_sty st a b _ r rfl hr ha.out] at HW
     unfold sv
     generalize yesT _ = out at *
     go_wp2
     go_ret
     exact ⟨by rw [HW.out]; rfl, by rw [HW.out]; exact hs3, HX.out⟩
    ·rw [if_neg ha2] at HLK
     replace ha : Hid (a ≠ addT) := ha
     replace ha2 : Hid (a ≠ styT2) := ha2
     go_wp2_with (at_lookup; refine wpList_miss _ rfl _ _ _ rfl mt62 mtS (mz61 _) hm1 rfl a rfl HLK ?_)
     go_meet
     case rel => exact ⟨hx1, fun _ => ⟨ha.out, ha2.out⟩⟩
  ·have hn : ((n3 : Int) == 3) = false := by
    have e3 := H3.out
    rw [if_neg hlen] at e3
    rw [hn3, e3]
    exact beq_eq_false_iff_ne.2 (by omega)
   replace hlen : Hid (¬ 2 < ws.length) := hlen
   go_wp2
   go_meet
   case rel => exact ⟨hx1, fun h => absurd h hlen.out⟩
 case rest =>
  obtain ⟨hxc, hne⟩ := hcut
  rw [word_else st ws hne] at HW
  obtain ⟨x, r, rfl⟩ : ∃ x r, ws = x :: r := by
   match ws, hws0 with
   | x :: r, _ => exact ⟨x, r, rfl⟩
  have hxl : x.length ≤ 2000000 := Nat.le_trans (HLE.out x (by simp)) hln
  have hrl : ∀ y ∈ r, y.length ≤ 2000000 := fun y hy => Nat.le_trans (HLE.out y (by simp [hy])) hln
  have hrn : (r.length : Int) ≤ 2000000 := by
   have h1 := splitB_num 32 ln
   have h2 := List.count_le_length (a := (32 : UInt8)) (l := ln)
   rw [← hws.out, List.length_cons] at h1
   omega
  clear hne H3 HLE HLE3 hlN kx hn3 hN hx1 hm1
  have hmm := @run_makeMap Tryz.prog
  have hm1 := MapIs.made wc
  have hx1 : Ext w (wc.alloc (.map #[] 0)) := hxc.alloc hxc.size _
  have hsz := hxc.size
  go_wp2_with (refine wpList_ins _ rfl _ _ _ _ rfl mt69 mtS hm1 rfl _ rfl _ rfl rfl ?_; intro w1 hm1 hxn; replace hx1 := mapExt hx1 hxn hsz; clear hxn)
  replace hm1 : MapIs w1 wc.heap.size (cmds g) := hm1
  generalize wc.heap.size = m5 at *
  refine (HG2.out _).mono ?_
  rintro e w5 ⟨rfl, kx, hx5⟩
  replace hm1 := hm1.ext hx5
  have hb6 := hx1.size
  replace hx1 := after hx1 hx5 (Nat.le_refl _)
  generalize w1.heap.size = m6 at *
  have d0 : w5.cell? ⟨m6, 0, none⟩ = some (.string ⟨x.toArray⟩) := kx.cell 0
  have hl1 : (x :: r).length = r.length + 1 := rfl
  rw [hl1]
  clear hx5 HG2 hmm
  rcases look_cases g x with HLK | ⟨K, n, HLK, hn0, hn2⟩
  ·have HT := Lib.hid (tail_none st g x r HLK)
   go_wp2_with (at_lookup; refine wpList_miss _ rfl _ _ _ rfl mt69 mtS (mz68 _) hm1 rfl x rfl HLK ?_)
   go_ret
   replace hx1 : Ext w (w5.alloc (.cells #[.int .i64 0, .nilFunc] 68)) := hx1.alloc hx1.size _
   exact ⟨by rw [HW.out, HT.out]; rfl, by rw [HW.out, HT.out]; exact h.ext hx1, extR_ext hx1⟩
  ·have HLK2 := Lib.hid HLK
   unfold cmdV at HLK
   have kc := Keep.new w5 (.cells #[.int .i64 n, .func (.func K) #[.pointer (some ⟨g, 0, none⟩)] #[]] 68)
   have hx2 := Below.of_alloc w5 (.cells #[.int .i64 n, .func (.func K) #[.pointer (some ⟨g, 0, none⟩)] #[]] 68)
   replace hx1 := after hx1 hx2 (Nat.le_refl _)
   replace kx := keepE kx hx2
   go_upto_region 10 with (at_lookup; refine wpList_hit _ rfl _ _ _ rfl mt69 mtS (mz68 _) hm1 rfl x rfl _ HLK ?_)
   clear hx2 d0 HLK hm1
   generalize w5.alloc (.cells #[.int .i64 n, .func (.func K) #[.pointer (some ⟨g, 0, none⟩)] #[]] 68) = W0 at *
   generalize w5.heap.size = gc at *
   have c0 := kc.cell 0
   by_cases hn : (r.length : Int) = n
   ·subst hn
    have hB6 := kx.lt
    have hBc := kc.lt
    have hBg : g < W0.heap.size := by
     have h1 := h.lt
     have h2 := hx1.size
     omega
    have HN := Lib.hid (fun x w => inumber_any x w)
    have hq : ((r.length : Int) != r.length) = false := by simp
    by_cases hr0 : r = []
    ·subst hr0
     have hx0 : Ext w (W0.alloc (.cells #[] 3)) := hx1.alloc hx1.size _
     have kc0 := kc.alloc (.cells #[] 3)
     have c1 := kc0.cell 1
     go_wp2
     go_loopw [13, 82] (fun v i wr => v = .slice (some ⟨W0.heap.size, 0, none⟩) 0 0 ∧ i = .int .i64 0 ∧ wr = W0.alloc (.cells #[] 3)) (fun _ _ _ => 0)
     case atStart => exact ⟨rfl, rfl, rfl⟩
     case round =>
      obtain ⟨rfl, rfl, rfl⟩ := hrel
      generalize W0.alloc (.cells #[] 3) = W1 at *
      have hvg : blk (.slice (some ⟨W0.heap.size, 0, none⟩) 0 0) ≠ some g := fun e => by simp [blk] at e
      have HCM := Lib.hid (cmd_any (v := .slice (some ⟨W0.heap.size, 0, none⟩) 0 0) _ (fun k hk => Nat.lt_of_lt_of_le (hA k hk) hx0.size) HLK2.out rfl (h.ext hx0) hok (hl.below hx0).1 (Own.empty _ _ _ _) hvg)
      have hKs := look_K g K _ x HLK2.out
      clear HLK2 hl h hok hrl HN
      rcases hKs with rfl | rfl | rfl | rfl | rfl <;>
      ·go_wp2_with (fail)
       refine HCM.out.mono ?_
       rintro e w9 ⟨rfl, hs9, hx9⟩
       have HX := Lib.hid (ext_extR hx0 hx9)
       unfold sv
       go_wp2
       go_ret
       exact ⟨by rw [HW.out]; rfl, by rw [HW.out]; exact hs9, HX.out⟩
    ·have hl0 : (0 : Int) < r.length := by
      have := List.length_pos_iff.2 hr0
      omega
     have hl2 : (1 : Int) ≤ (r.length : Int) + 1 := by omega
     go_wp2
     go_loopw [13, 82] (fun v i wr => ∃ k : Nat, i = .int .i64 k ∧ k ≤ r.length ∧ Own wr W0.heap.size 1 v (Is ((r.take k).map prI)) ∧ Ext W0 wr) (fun _ i _ => r.length - (intOf i).toNat)
     case atStart => exact ⟨0, rfl, Nat.zero_le _, Own.empty _ _ _ _, Below.of_alloc _ _⟩
     case round =>
      obtain ⟨k, rfl, hkl, ho, hxr⟩ := hrel
      by_cases hk : k < r.length
      ·have hki : (k : Int) < r.length := by omega
       have hk0 : (0 : Int) ≤ k := by omega
       have e0 : wr.cell? ⟨m6, 1 + k, none⟩ = some (.string ⟨r[k].toArray⟩) := by
        rw [(keepE kx hxr).cell]
        show (Ss (x :: r)).toArray[1 + k]? = _
        rw [Nat.add_comm]
        unfold Ss
        simp [hk]
        rfl
       have HTK := Lib.hid (List.take_succ_eq_append_getElem hk)
       have hyl : r[k].length ≤ 2000000 := hrl _ (List.getElem_mem hk)
       generalize r[k] = y at *
       go_wp2_with (fail)
       refine (HN.out y _ hyl).mono ?_
       rintro e w7 ⟨rfl, hx7⟩
       replace ho := ho.below hx7 (Nat.le_refl _)
       replace hxr := after hxr hx7 (Nat.le_refl _)
       clear hx7 e0 c0
       go_wp2_with (at_builtin; refine wpList_app rfl _ _ _ rfl el_int rfl (ho.alloc _) rfl (Rd.oneAt _ _ (by simp)) (Is_one [prI y]) ?hl ?hb ?hK)
       case hl => simp [Is]; omega
       case hb => have := hxr.size; simp; omega
       intro v2 w8 ho2 hg2 hf2
       have hx8 := below_app (hxr.alloc hxr.size _) (ho.alloc _) hg2 (by have := hxr.size; simp; omega) (Nat.le_refl _)
       replace ho2 : Own w8 W0.heap.size 1 v2 (Is ((r.take (k + 1)).map prI)) := by
        rw [HTK.out, List.map_append]
        simpa [Is] using ho2
       clear ho hxr hg2 hf2
       go_wp2
       go_roundw
       case rel => exact ⟨k + 1, by go_num, by omega, ho2, hx8⟩
       case measure => simp [intOf]; omega
      ·obtain rfl : k = r.length := by omega
       rw [List.take_length] at ho
       have c1 := (keepE kc hxr).cell 1
       have hx0 := after hx1 hxr (Nat.le_refl _)
       have hvg : blk u13 ≠ some g := fun e => by
        have := (ho.lt _ e).1
        omega
       have HCM := Lib.hid (cmd_any _ (fun k hk => Nat.lt_of_lt_of_le (hA k hk) hx0.size) HLK2.out rfl (h.ext hx0) hok (hl.below hx0).1 (ho.weak (Nat.zero_le _)) hvg)
       have hKs := look_K g K _ x HLK2.out
       clear HLK2 hl h hok hrl HN
       obtain ⟨av, nv, cv, rfl, _⟩ := ho
       rcases hKs with rfl | rfl | rfl | rfl | rfl <;>
       ·go_wp2_with (fail)
        refine HCM.out.mono ?_
        rintro e w9 ⟨rfl, hs9, hx9⟩
        have HX := Lib.hid (ext_extR hx0 hx9)
        unfold sv
        go_wp2
        go_ret
        exact ⟨by rw [HW.out]; rfl, by rw [HW.out]; exact hs9, HX.out⟩
   ·have HT := Lib.hid (tail_short st g K n x r HLK2.out hn)
    have hq : ((r.length : Int) != n) = true := bne_iff_ne.2 hn
    go_wp2
    go_ret
    exact ⟨by rw [HW.out, HT.out]; rfl, by rw [HW.out, HT.out]; exact h.ext hx1, extR_ext hx1⟩
/-- the builder's writes leave the session alone, if its tree shuns them -/
theorem SesA.two {t : TypeId} {g b : Nat} {v : Value} {No : Nat → Prop} {st : St} {w w' : World} (h : SesA t g No st w) (h2 : Two b v w w') (hgb : g ≠ b) (hgv : v.ownBlock ≠ some g) (hb : No b) (hv : ∀ k, v.ownBlock = some k → No k) : SesA t g No st w' := by
 obtain ⟨vt, k, ho, hg, hn⟩ := h
 refine ⟨vt, (h2.block g k.lt hgb hgv).trans k, ?_, hg, hn⟩
 obtain ⟨a, n, c, rfl, hl, hnc, hc, hown⟩ := ho
 refine ⟨a, n, c, rfl, hl, hnc, hc, ?_⟩
 rcases hown with rfl | ⟨q, off, cur, e, rfl, hq, hh, hs, ht⟩
 ·exact .inl rfl
 ·by_cases hc0 : c = 0
  ·exact .inl hc0
  ·have hbq : blk (.slice (some ⟨q, off, none⟩) n c) = some q := by
    show (if c = 0 then none else some q) = some q
    rw [if_neg hc0]
   have hql := (Array.getElem?_eq_some_iff.1 hh).1
   exact .inr ⟨q, off, cur, e, rfl, hq, (h2.block q hql (fun e => hn b hb (by rw [hbq, e])) (fun e => hn q (hv q e) hbq)).trans hh, hs, ht⟩
theorem Two.below {b B : Nat} {v : Value} {w0 w w' : World} (h : Two b v w w') (hw : Below B w0 w) (hB : B ≤ w.heap.size) (hb : B ≤ b) (hv : ∀ k, v.ownBlock = some k → B ≤ k) : Below B w0 w' :=
 ⟨h.os.trans hw.os, h.tape.trans hw.tape, h.output.trans hw.output, Nat.le_trans hw.size h.size, fun k hk => (h.block k (by omega) (by omega) (fun e => by have := hv k e; omega)).trans (hw.block k hk)⟩
theorem BldV.extR {B b g : Nat} {v p : Value} {bs : List Value} {w w' : World} (h : BldV B b v p bs w) (hx : ExtR g w w') (hgb : g ≠ b) (hgv : v.ownBlock ≠ some g) : BldV B b v p bs w' := by
 obtain ⟨hB, hb, ⟨hl, hown⟩, hne⟩ := h
 refine ⟨hB, (hx.block b (Array.getElem?_eq_some_iff.1 hb).1 (Ne.symm hgb)).trans hb, ⟨hl, ?_⟩, hne⟩
 rcases hown with h0 | ⟨q, cap, cur, rfl, h1, h2, h3⟩
 ·exact .inl h0
 ·have hqg : q ≠ g := fun e => hgv (by rw [← e]; rfl)
  exact .inr ⟨q, cap, cur, rfl, h1, (hx.block q (Array.getElem?_eq_some_iff.1 h2).1 hqg).trans h2, h3⟩
theorem BldV.blocks {B b : Nat} {v p : Value} {bs : List Value} {w : World} (h : BldV B b v p bs w) : b < w.heap.size ∧ ∀ k, v.ownBlock = some k → B ≤ k ∧ k < w.heap.size := by
 obtain ⟨hB, hb, ⟨hl, hown⟩, hne⟩ := h
 refine ⟨(Array.getElem?_eq_some_iff.1 hb).1, fun k hk => ?_⟩
 rcases hown with ⟨rfl, _⟩ | ⟨q, cap, cur, rfl, h1, h2, h3⟩
 ·cases hk
 ·obtain rfl : q = k := Option.some.inj hk
  exact ⟨h1, (Array.getElem?_eq_some_iff.1 h2).1⟩
theorem SesA.shun {t : TypeId} {g : Nat} {No No' : Nat → Prop} {st : St} {w : World} (h : SesA t g No st w) (hg : No' g) (hn : ∀ k, No' k → No k ∨ w.heap.size ≤ k) : SesA t g No' st w := by
 obtain ⟨vt, k, ho, _, h2⟩ := h
 refine ⟨vt, k, ho, hg, fun q hq e => ?_⟩
 rcases hn q hq with h3 | h3
 ·exact h2 q h3 e
 ·have := (ho.lt q e).2
  omega
theorem cells_str (l : List UInt8) : Lib.strCells ⟨l.toArray⟩ = Lib.byteCells l := by simp [Lib.strCells, Lib.byteCells]
theorem cells_app (l m : List UInt8) : Lib.byteCells (l ++ m) = Lib.byteCells l ++ Lib.byteCells m := by simp [Lib.byteCells]
/-- what the builder's calls must leave alone -/
abbrev NoT (g b : Nat) (v : Value) : Nat → Prop := fun q => q = g ∨ q = b ∨ v.ownBlock = some q
/-- the round's state -/
def RunI (w0 : World) (g b : Nat) (L : List (List UInt8)) (wr : World) : Prop :=
 ∃ v p, BldV b b v p (Lib.byteCells (runS L st0)) wr ∧ (p = .pointer none ∨ p = .pointer (some ⟨b, 0, none⟩)) ∧ SesA 45 g (NoT g b v) (endS L st0) wr ∧ Below w0.heap.size w0 wr
/-- a text behind the others: the session shuns the new row too -/
theorem SesA.wrote {t : TypeId} {g b : Nat} {v v1 : Value} {st : St} {w w' : World} (h : SesA t g (NoT g b v) st w) (h2 : Two b v w w') (hst : v1.ownBlock = v.ownBlock ∨ ∃ k, v1.ownBlock = some k ∧ w.heap.size ≤ k) (hgb : g ≠ b) (hgv : v.ownBlock ≠ some g) : SesA t g (NoT g b v1) st w' := by
 have h3 : SesA t g (fun q => NoT g b v q ∨ NoT g b v1 q) st w := h.shun (.inl (.inl rfl)) fun k hk => by
  rcases hk with hk | hk | hk | hk
  ·exact .inl hk
  ·exact .inl (.inl hk)
  ·exact .inl (.inr (.inl hk))
  ·rcases hst with hst | ⟨q, hq, hq2⟩
   ·exact .inl (.inr (.inr (by rw [← hst]; exact hk)))
   ·rw [hq] at hk
    obtain rfl := Option.some.inj hk
    exact .inr hq2
 exact (h3.two h2 hgb hgv (.inl (.inr (.inl rfl))) (fun k hk => .inl (.inr (.inr hk)))).shun (.inl rfl) fun k hk => .inl (.inr hk)
set_option maxRecDepth 100000 in
set_option maxHeartbeats 1000000 in
theorem RunSession_any {v : Value} (lines : List (List UInt8)) (w : World) (hv : Rd w 1 v (Ss lines)) (hl : LaidP w) (hlen : ∀ x, x ∈ lines → x.length ≤ 2000000) :
 Calls Tryz.prog 10 #[v] w fun e w' => e = .returned (sv (runS (lines.take 20) st0)) ∧ Ext w w' := by
 obtain ⟨a, n, c, rfl, hn, hnc, hc, hcells⟩ := hv
 have hn' : lines.length = n := by
  have : (Ss lines).length = lines.length := by simp [Ss]
  omega
 clear hn
 have HT : Hid (∃ T : List (List UInt8), T = lines.take 20 ∧ T.length = min n 20 ∧ (∀ x, x ∈ T → x.length ≤ 2000000) ∧ ∀ (k : Nat) (ln : List UInt8), T[k]? = some ln → (Ss lines)[k]? = some (sv ln)) := by
  refine ⟨_, rfl, by rw [List.length_take]; omega, fun x hx => hlen x (List.mem_of_mem_take hx), fun k ln hk => ?_⟩
  have hk2 : lines[k]? = some ln := by
   rw [List.getElem?_take] at hk
   split at hk
   ·exact hk
   ·cases hk
  simp [Ss, hk2]
 obtain ⟨T, hT, hTl, hTn, hTc⟩ := HT.out
 have HTE := Lib.hid hT
 clear hT HT
 have HS : Hid (RunI w (w.heap.size + 1) (w.heap.size + 2) [] (((w.alloc (.cells #[.int .i64 (-1), .int .i64 1, .int .i64 0, .int .i64 0, .int .i64 0, .int .i64 0, .int .i64 0, .int .i64 0, .int .i64 0] 39)).alloc (.cells #[.slice (some ⟨w.heap.size, 0, none⟩) 1 1, .int .i64 100, .int .i64 100] 45)).alloc (.cells #[.pointer none, .slice none 0 0] 48))) := by
  have hx1 := Below.of_alloc w (.cells #[.int .i64 (-1), .int .i64 1, .int .i64 0, .int .i64 0, .int .i64 0, .int .i64 0, .int .i64 0, .int .i64 0, .int .i64 0] 39)
  have ho := Own.made w #[.int .i64 (-1), .int .i64 1, .int .i64 0, .int .i64 0, .int .i64 0, .int .i64 0, .int .i64 0, .int .i64 0, .int .i64 0] 39 0 9 1 1 (Nat.zero_le _) (Nat.le_refl _) (by unfold maxLen; omega) rfl
  have hsz : (w.alloc (.cells #[.int .i64 (-1), .int .i64 1, .int .i64 0, .int .i64 0, .int .i64 0, .int .i64 0, .int .i64 0, .int .i64 0, .int .i64 0] 39)).heap.size = w.heap.size + 1 := World.size_alloc ..
  generalize w.alloc (.cells #[.int .i64 (-1), .int .i64 1, .int .i64 0, .int .i64 0, .int .i64 0, .int .i64 0, .int .i64 0, .int .i64 0, .int .i64 0] 39) = W1 at *
  have hx2 := Below.of_alloc W1 (.cells #[.slice (some ⟨w.heap.size, 0, none⟩) 1 1, .int .i64 100, .int .i64 100] 45)
  have k2 := Keep.new W1 (.cells #[.slice (some ⟨w.heap.size, 0, none⟩) 1 1, .int .i64 100, .int .i64 100] 45)
  replace ho := ho.alloc (.cells #[.slice (some ⟨w.heap.size, 0, none⟩) 1 1, .int .i64 100, .int .i64 100] 45)
  have hsz2 : (W1.alloc (.cells #[.slice (some ⟨w.heap.size, 0, none⟩) 1 1, .int .i64 100, .int .i64 100] 45)).heap.size = W1.heap.size + 1 := World.size_alloc ..
  generalize W1.alloc (.cells #[.slice (some ⟨w.heap.size, 0, none⟩) 1 1, .int .i64 100, .int .i64 100] 45) = W2 at *
  have hx3 := Below.of_alloc W2 (.cells #[.pointer none, .slice none 0 0] 48)
  have k3 := Keep.new W2 (.cells #[.pointer none, .slice none 0 0] 48)
  rw [show w.heap.size + 1 = W1.heap.size by omega, show w.heap.size + 2 = W2.heap.size by omega]
  refine ⟨.slice none 0 0, .pointer none, ⟨Nat.le_refl _, k3, ⟨rfl, .inl ⟨rfl, rfl⟩⟩, by simp [Value.ownBlock]⟩, .inl rfl, ⟨_, keepE k2 hx3, ho.alloc _, .inl rfl, fun k hk e => ?_⟩, after (after hx1 hx2 (Nat.le_refl _)) hx3 (Nat.le_refl _)⟩
  have e2 : w.heap.size = k := Option.some.inj e
  rcases hk with rfl | rfl | hk
  ·omega
  ·omega
  ·cases hk
 go_enter Tryz.func10, Tryz.ntmps10
 go_wp2
 generalize (((w.alloc (.cells #[.int .i64 (-1), .int .i64 1, .int .i64 0, .int .i64 0, .int .i64 0, .int .i64 0, .int .i64 0, .int .i64 0, .int .i64 0] 39)).alloc (.cells #[.slice (some ⟨w.heap.size, 0, none⟩) 1 1, .int .i64 100, .int .i64 100] 45)).alloc (.cells #[.pointer none, .slice none 0 0] 48)) = W3 at *
 obtain ⟨g, hg⟩ : ∃ g, w.heap.size + 1 = g := ⟨_, rfl⟩
 obtain ⟨b, hb⟩ : ∃ b, w.heap.size + 2 = b := ⟨_, rfl⟩
 rw [hg, hb] at HS
 rw [hg, show g + 1 = b by omega]
 have hgb : g ≠ b := by omega
 have hgb2 : g < b := by omega
 have hbw : w.heap.size ≤ b := by omega
 have hgw0 : w.heap.size ≤ g := by omega
 clear hg hb
 go_loopw [17] (fun i wr => ∃ k : Nat, i = .int .i64 k ∧ k ≤ T.length ∧ RunI w g b (T.take k) wr) (fun i _ => 20 - (intOf i).toNat)
 case atStart => exact ⟨0, rfl, Nat.zero_le _, HS.out⟩
 case round =>
  obtain ⟨k, rfl, hkl, hI⟩ := hrel
  by_cases hk : k < T.length
  ·obtain ⟨v, p, hbl, hp, hses, hx⟩ := hI
   have hln : T[k]? = some T[k] := List.getElem?_eq_getElem hk
   have hll : T[k].length ≤ 2000000 := hTn _ (List.getElem_mem hk)
   have HTK := Lib.hid (List.take_succ_eq_append_getElem hk)
   have hcc := hTc k _ hln
   generalize T[k] = ln at *
   obtain ⟨bl, off, rfl, hcl⟩ := hcells.resolve_left (fun e => by rw [e] at hcc; cases hcc)
   have e0 : wr.cell? ⟨bl, off + k, none⟩ = some (.string ⟨ln.toArray⟩) := cellB hx (hcl k _ hcc)
   have hki : (k : Int) < max (min (n : Int) 20) 0 := by omega
   have hkn : k < (min (n : Int) 20).toNat := by omega
   have hk0 : (0 : Int) ≤ k := by omega
   have hst0 := endS_ok (T.take k) st0_ok
   have hlL := runS_len (T.take k) st0_ok
   have hlk : (T.take k).length = k := by rw [List.length_take]; omega
   have hbk := hbl.blocks
   have hgv : v.ownBlock ≠ some g := fun e => by
    have := (hbk.2 g e).1
    omega
   have hgl := hses.lt
   have hA : ∀ q, NoT g b v q → q < wr.heap.size := fun q hq => by
    rcases hq with rfl | rfl | hq
    ·exact hgl
    ·exact hbk.1
    ·exact (hbk.2 q hq).2
   have hgw : w.heap.size ≤ g := hgw0
   have HRUN : Hid (runS (T.take (k + 1)) st0 = runS (T.take k) st0 ++ ((lineS (endS (T.take k) st0) ln).1 ++ [10]) ∧ endS (T.take (k + 1)) st0 = (lineS (endS (T.take k) st0) ln).2) := by
    rw [HTK.out, runS_app, endS_app]
    exact ⟨rfl, rfl⟩
   have hl1 := (line_ok hst0 ln).2
   clear hcl hcc hln HTK
   generalize hRe : runS (T.take k) st0 = R at *
   generalize hEe : endS (T.take k) st0 = E at *
   clear hRe hEe
   go_wp2_with (fail)
   refine (answer_any ln _ hA hses hst0 (hl.below hx) hll).mono ?_
   rintro e w1 ⟨rfl, hs1, hx1⟩
   have hbl1 := hbl.extR hx1 hgb hgv
   have hx1b := below_of_bel (afterR (bel_of hx) hx1 (Nat.le_refl _)) hgw
   clear hses hx1 hA hbl e0
   generalize hLe : lineS E ln = LE at *
   obtain ⟨tx, E1⟩ := LE
   replace hl1 : tx.length ≤ 1000 := hl1
   have hcR : (Lib.byteCells R).length = R.length := by simp [Lib.byteCells]
   go_wp2_with (fail)
   refine (WriteString_any ⟨tx.toArray⟩ _ hbl1 hp ?hsl ?hbw).mono ?_
   case hsl =>
    show (Lib.byteCells R).length + tx.length ≤ _
    rw [hcR]
    omega
   case hbw => exact Nat.le_of_lt hbl1.blocks.1
   rintro e w2 ⟨v2, rfl, hbl2, h2, hst2⟩
   have hs2 := hs1.wrote (v1 := v2) h2 (hst2.elim .inl (fun e => .inr ⟨_, e, Nat.le_refl _⟩)) hgb hgv
   have hx2 := h2.below hx1b hx1b.size hbw (fun q hq => by have := (hbl1.blocks.2 q hq).1; omega)
   have hgv2 : v2.ownBlock ≠ some g := fun e => by
    have := (hbl2.blocks.2 g e).1
    omega
   clear hbl1 hs1 h2 hst2 hx1b
   go_wp2_with (fail)
   refine (WriteByte_any 10 _ hbl2 (.inr rfl) ?hsl ?hbw).mono ?_
   case hsl =>
    rw [List.length_append, Lib.strCells_length, hcR]
    show R.length + tx.length + 1 ≤ _
    omega
   case hbw => exact Nat.le_of_lt hbl2.blocks.1
   rintro e w3 ⟨v3, rfl, hbl3, h3, hst3⟩
   have hs3 := hs2.wrote (v1 := v3) h3 hst3 hgb hgv2
   have hx3 := h3.below hx2 hx2.size hbw (fun q hq => by have := (hbl2.blocks.2 q hq).1; omega)
   clear hbl2 hs2 h3 hst3 hx2
   go_wp2
   go_roundw
   case rel =>
    refine ⟨k + 1, by go_num, by omega, v3, _, ?_, .inr rfl, ?_, hx3⟩
    ·rw [HRUN.out.1, cells_app, cells_app]
     rw [List.append_assoc, cells_str] at hbl3
     exact hbl3
    ·rw [HRUN.out.2]
     exact hs3
   case measure => simp [intOf]; omega
  ·obtain rfl : k = T.length := by omega
   rw [List.take_length] at hI
   obtain ⟨v, p, hbl, hp, hses, hx⟩ := hI
   have hki : ¬ ((T.length : Int) < max (min (n : Int) 20) 0) := by omega
   have hbs := hbl.blocks
   rw [HTE.out] at hbl
   obtain ⟨R, hR⟩ : ∃ R, R = runS (lines.take 20) st0 := ⟨_, rfl⟩
   rw [← hR] at hbl
   replace hR := Lib.hid hR
   go_wp2_with (fail)
   refine (Tryz.Builder_String_any b b R _ ?hb (Nat.le_of_lt hbs.1)).mono ?_
   case hb =>
    rcases hp with rfl | rfl
    ·exact .inl hbl.at
    ·exact .inr hbl.at
   rintro e w9 ⟨rfl, hx9⟩
   have hx8 : Ext w w9 := hx.trans (hx9.mono hbw)
   go_wp2
   go_ret
   exact ⟨by rw [← hR.out]; rfl, hx8⟩
end Go.Proofs.YthkkgleoikpfgaaGreatDoor
