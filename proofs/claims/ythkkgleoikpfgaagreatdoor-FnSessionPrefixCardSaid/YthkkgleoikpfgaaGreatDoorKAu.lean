/-
  Parts of the proof: Ses SesI SesM SesE.
-/
import Derived.Test.YthkkgleoikpfgaaGreatDoorKAf
import Derived.Test.YthkkgleoikpfgaaGreatDoorKAi
import Derived.Test.YthkkgleoikpfgaaGreatDoorKAn
import Derived.Test.YthkkgleoikpfgaaGreatDoorKAo
import Derived.Test.YthkkgleoikpfgaaGreatDoorKAl
import Derived.Test.YthkkgleoikpfgaaGreatDoorKAd
import Derived.Deep.Cut
import Derived.IntWalk
import Derived.StillTailTactics
import Derived.Test.YthkkgleoikpfgaaGreatDoorKAp
import Derived.Test.YthkkgleoikpfgaaGreatDoorKAr
import Derived.Test.YthkkgleoikpfgaaGreatDoorKAj
import Derived.Test.YthkkgleoikpfgaaGreatDoorKAt
namespace Go.Proofs.YthkkgleoikpfgaaGreatDoor
open Go Go.RowKit
/-- a session: the tree and the screen -/
structure St where
 tree : List Bx
 w : Int
 h : Int
def st0 : St := ⟨[⟨-1, 1, 0, 0, 0, 0, 0, 0, 0⟩], 100, 100⟩
def addT : List UInt8 := [97, 100, 100]
def styT2 : List UInt8 := [115, 116, 121, 108, 101]
def remT : List UInt8 := [114, 101, 109, 111, 118, 101]
def sizT : List UInt8 := [115, 105, 122, 101]
def recT : List UInt8 := [114, 101, 99, 116]
def hitT : List UInt8 := [104, 105, 116]
def cntT : List UInt8 := [99, 111, 117, 110, 116]
def whaT : List UInt8 := [119, 104, 97, 116]
def rcT (r : Rc) : List UInt8 := Lib.join [dcZ r.x, dcZ r.y, dcZ r.w, dcZ r.h] [32]
def addS (st : St) (i : Int) (s : List UInt8) : Bool × St :=
 match pB s with
 | none => (false, st)
 | some b => if addOk st.tree i b then (true, ⟨addL st.tree i.toNat b, st.w, st.h⟩) else (false, st)
def styS (st : St) (i : Int) (s : List UInt8) : Bool × St :=
 match pB s with
 | none => (false, st)
 | some b => if styleOk st.tree i b then (true, ⟨styleL st.tree i b, st.w, st.h⟩) else (false, st)
def remS (st : St) (i : Int) : Bool × St := if remB st.tree i then (true, ⟨remL st.tree i.toNat, st.w, st.h⟩) else (false, st)
def sizS (st : St) (w h : Int) : Bool × St := if inR w 0 10000 && inR h 0 10000 then (true, ⟨st.tree, w, h⟩) else (false, st)
def recS (st : St) (i : Int) : List UInt8 := if roB st.tree st.w st.h i then rcT (roR st.tree st.w st.h i) else yesT false
/-- the answer to a line's words -/
def wordS (st : St) (ws : List (List UInt8)) : List UInt8 × St :=
 let x := ws.headD []
 let n := fun k => prI (ws.getD k [])
 if x = addT ∧ 2 < ws.length then (yesT (addS st (n 1) (Lib.join (ws.drop 2) [32])).1, (addS st (n 1) (Lib.join (ws.drop 2) [32])).2)
 else if x = styT2 ∧ 2 < ws.length then (yesT (styS st (n 1) (Lib.join (ws.drop 2) [32])).1, (styS st (n 1) (Lib.join (ws.drop 2) [32])).2)
 else if x = remT ∧ ws.length = 2 then (yesT (remS st (n 1)).1, (remS st (n 1)).2)
 else if x = sizT ∧ ws.length = 3 then (yesT (sizS st (n 1) (n 2)).1, (sizS st (n 1) (n 2)).2)
 else if x = recT ∧ ws.length = 2 then (recS st (n 1), st)
 else if x = hitT ∧ ws.length = 3 then (dcZ (hitI st.tree st.w st.h (n 1) (n 2)), st)
 else if x = cntT ∧ ws.length = 1 then (dcZ st.tree.length, st)
 else (whaT, st)
def lineS (st : St) (ln : List UInt8) : List UInt8 × St := wordS st (splitB 32 ln)
def runS : List (List UInt8) → St → List UInt8
 | [], _ => []
 | ln :: t, st => (lineS st ln).1 ++ 10 :: runS t (lineS st ln).2
def endS : List (List UInt8) → St → St
 | [], st => st
 | ln :: t, st => endS t (lineS st ln).2
theorem runS_app (L M : List (List UInt8)) : ∀ st, runS (L ++ M) st = runS L st ++ runS M (endS L st) := by
 induction L with
 | nil => intro st; rfl
 | cons a t ih =>
  intro st
  show (lineS st a).1 ++ 10 :: runS (t ++ M) (lineS st a).2 = _
  rw [ih]
  simp [runS, endS]
/-- block g holds a session (of type t); the tree lies in none of the blocks No -/
def SesA (t : TypeId) (g : Nat) (No : Nat → Prop) (st : St) (w : World) : Prop :=
 ∃ vt, Keep g (.cells #[vt, .int .i64 st.w, .int .i64 st.h] t) w ∧ Own w 0 9 vt (Bs st.tree) ∧ (No g ∧ ∀ k, No k → blk vt ≠ some k)
theorem SesA.ext {t : TypeId} {g : Nat} {No : Nat → Prop} {st : St} {w w' : World} (h : SesA t g No st w) (hx : Ext w w') : SesA t g No st w' := by
 obtain ⟨vt, k, ho, hn⟩ := h
 exact ⟨vt, keepE k hx, ho.below hx (Nat.le_refl _), hn⟩
theorem SesA.lt {t : TypeId} {g : Nat} {No : Nat → Prop} {st : St} {w : World} (h : SesA t g No st w) : g < w.heap.size := by
 obtain ⟨vt, k, _⟩ := h
 exact k.lt
theorem SesA.turn {t : TypeId} {g : Nat} {No : Nat → Prop} {st : St} {w : World} (h : SesA t g No st w) {v' : Value} {l' : List Bx} (ho : Own w 0 9 v' (Bs l')) (hn : ∀ k, No k → blk v' ≠ some k) : SesA t g No ⟨l', st.w, st.h⟩ (w.setCell ⟨g, 0, none⟩ v') := by
 obtain ⟨vt, k, _, hg, _⟩ := h
 exact ⟨v', k.store 0 v', ho.setOther (p := ⟨g, 0, none⟩) (hn g hg) v', hg, hn⟩
theorem extR_ext {g : Nat} {w w' : World} (hx : Ext w w') : ExtR g w w' := bel_of hx
theorem extR_trans {g : Nat} {w w1 w2 : World} (h : ExtR g w w1) (h2 : ExtR g w1 w2) : ExtR g w w2 := afterR h h2 (Nat.le_refl _)
theorem ext_extR {g : Nat} {w w1 w2 : World} (h : Ext w w1) (h2 : ExtR g w1 w2) : ExtR g w w2 := extR_trans (extR_ext h) h2
set_option maxRecDepth 100000 in
theorem become_any {g : Nat} {No : Nat → Prop} {st : St} {v' : Value} {l' : List Bx} (ok : Bool) (w : World) (h : SesA 45 g No st w) (ho : Own w 0 9 v' (Bs l')) (hn : ∀ k, No k → blk v' ≠ some k) :
 Calls Tryz.prog 58 #[.pointer (some ⟨g, 0, none⟩), v', .bool ok] w fun e w' => e = .returned (sv (yesT ok)) ∧ SesA 45 g No (if ok then ⟨l', st.w, st.h⟩ else st) w' ∧ ExtR g w w' := by
 have HS := Lib.hid h
 obtain ⟨vt, k, _, _⟩ := h
 have c0 := k.cell 0
 have f0 := k.frozen 0
 cases ok with
 | true =>
  have HT := Lib.hid (HS.out.turn ho hn)
  obtain ⟨a, n, c, rfl, _⟩ := ho
  have HB : Hid (ExtR g w (w.setCell ⟨g, 0, none⟩ (.slice a n c))) := bel_setOne g w _
  clear k HS hn
  go_enter Tryz.func58, Tryz.ntmps58
  go_wp2_with (fail)
  refine (yes_any true _).mono ?_
  rintro e w1 ⟨rfl, rfl⟩
  unfold sv
  go_wp2
  go_ret
  exact ⟨rfl, HT.out, HB.out⟩
 | false =>
  clear k c0 f0
  go_enter Tryz.func58, Tryz.ntmps58
  go_wp2_with (fail)
  refine (yes_any false _).mono ?_
  rintro e w1 ⟨rfl, rfl⟩
  unfold sv
  go_wp2
  go_ret
  exact ⟨rfl, HS.out, Bel.refl _ _ _⟩
/-- a session that is well -/
def OkS (st : St) : Prop := Valid st.tree ∧ (0 ≤ st.w ∧ st.w ≤ 10000) ∧ (0 ≤ st.h ∧ st.h ≤ 10000)
theorem cell_other {w : World} {g : Nat} {p : Addr} (hg : p.block ≠ g) (f : Nat) (u : Value) : (w.setCell ⟨g, f, none⟩ u).cell? p = w.cell? p := World.cell?_of_block (Below.heap_setCell _ _ _ _ hg)
set_option maxRecDepth 100000 in
set_option maxHeartbeats 1000000 in
theorem count_m {g : Nat} {No : Nat → Prop} {st : St} {v : Value} (w : World) (h : SesA 45 g No st w) (hok : OkS st) (ht : Tab w) :
 Calls Tryz.prog 37 #[.pointer (some ⟨g, 0, none⟩), v] w fun e w' => e = .returned (sv (dcZ st.tree.length)) ∧ Ext w w' := by
 obtain ⟨vt, k, ho, _⟩ := h
 have hhi := hok.1.hi
 obtain ⟨a, c, rfl, hn, hc, _⟩ := ho.rd.boxes
 unfold maxLen at hc
 have c0 : w.cell? ⟨g, 0, none⟩ = some (.slice a st.tree.length c) := k.cell 0
 have HT := Lib.hid ht
 clear k ho hok ht
 go_enter Tryz.func37, Tryz.ntmps37
 go_wp2_with (fail)
 change Calls _ _ _ (w.alloc (.cells #[.int .i64 st.tree.length] 3)) _
 have hx := Below.of_alloc w (.cells #[.int .i64 st.tree.length] 3)
 refine (told_any (l := [(st.tree.length : Int)]) _ (Rd.oneAt _ _ (by simp)) (by simp) (by simp) (fun n hn => by simp at hn; omega) (HT.out.below hx (Nat.le_refl _))).mono ?_
 rintro e w2 ⟨rfl, hx2⟩
 rw [show ([(st.tree.length : Int)].map dcZ) = [dcZ st.tree.length] from rfl, Lib.join_one]
 unfold sv
 replace hx := after hx hx2 (Nat.le_refl _)
 clear hx2
 go_wp2
 go_ret
 exact ⟨rfl, hx⟩
set_option maxRecDepth 100000 in
set_option maxHeartbeats 1000000 in
theorem size_m {g : Nat} {No : Nat → Prop} {st : St} {v : Value} (a b : Int) (w : World) (h : SesA 45 g No st w) (hv : Own w 0 1 v (Is [a, b])) (hvg : blk v ≠ some g) :
 Calls Tryz.prog 34 #[.pointer (some ⟨g, 0, none⟩), v] w fun e w' => e = .returned (sv (yesT (sizS st a b).1)) ∧ SesA 45 g No (sizS st a b).2 w' ∧ ExtR g w w' := by
 have HA := Lib.hid (fun w hv => allIn_any (v := v) (l := [a, b]) 0 10000 w hv)
 have hall : ([a, b].all fun m => inR m 0 10000) = (inR a 0 10000 && inR b 0 10000) := by simp
 rw [hall] at HA
 obtain ⟨bn, off, n, c, rfl, hln, hbk, _, _, hce, _⟩ := hv.cells (by simp [Is])
 rw [hbk] at hvg
 have hbg : bn ≠ g := fun e => hvg (by rw [e])
 obtain rfl : n = 2 := by simpa [Is] using hln.symm
 have hrd := hv.rd
 clear hv hbk hvg hall hce hln
 go_enter Tryz.func34, Tryz.ntmps34
 go_wp2_with (fail)
 refine (HA.out _ hrd).mono ?_
 rintro e w2 ⟨rfl, hx2⟩
 replace hrd := hrd.below hx2 (Nat.le_refl _)
 replace h := h.ext hx2
 have HS : Hid (sizS st a b = if (inR a 0 10000 && inR b 0 10000) = true then (true, ⟨st.tree, a, b⟩) else (false, st)) := rfl
 cases hq : (inR a 0 10000 && inR b 0 10000) with
 | true =>
  rw [hq] at HS
  replace HS : Hid (sizS st a b = (true, ⟨st.tree, a, b⟩)) := HS
  obtain ⟨vt, k, ho, hvt⟩ := h
  obtain ⟨_, _, e0, _, _, hC⟩ := hrd.ints
  obtain ⟨b', off', e1, hC'⟩ := hC 0 a rfl
  simp only [Value.slice.injEq] at e0
  obtain ⟨rfl, _, rfl⟩ := e0
  cases e1
  have e0 : w2.cell? ⟨bn, off, none⟩ = some (.int .i64 a) := hC' 0 a rfl
  have e1 : w2.cell? ⟨bn, off + 1, none⟩ = some (.int .i64 b) := hC' 1 b rfl
  clear hC hC' HA hq
  go_upto_region 3 with fail
  refine wp_region_held_drew (S := fun w' => w'.cell? ⟨bn, off, none⟩ = some (.int .i64 a) ∧ w'.cell? ⟨bn, off + 1, none⟩ = some (.int .i64 b)) (by kernel_rfl) ⟨e0, e1⟩ (fun hS => ?_)
  replace k : Keep g _ w2.drew := k
  replace ho := ho.drew
  have hxd : Ext w w2.drew := hx2.drew
  clear e0 e1 hrd hx2
  generalize w2.drew = wd at *
  refine hTk hS 0 9 rfl (v := ?_) ?_ ?_
  rotate_left
  ·intro _ _; go_simp; first | done | with_reducible rfl
  simp only [Act.put, lsA, ls0, ls1]
  refine hTk hS 1 10 rfl (v := ?_) ?_ ?_
  rotate_left
  ·intro _ _; go_simp; first | done | with_reducible rfl
  simp only [Act.put, lsA, ls0, ls1]
  refine hTk hS 2 11 rfl (v := ?_) ?_ ?_
  rotate_left
  ·intro _ _; go_simp; first | done | with_reducible rfl
  simp only [Act.put, lsA, ls0, ls1]
  refine hTk hS 3 12 rfl (v := ?_) ?_ ?_
  rotate_left
  ·intro _ _; go_simp; first | done | with_reducible rfl
  simp only [Act.put, lsA, ls0, ls1]
  refine hTk hS 4 13 rfl (v := ?_) ?_ ?_
  rotate_left
  ·intro w9 hS9; have q := hS9.1; go_simp; first | done | with_reducible rfl
  simp only [Act.put, lsA, ls0, ls1]
  refine hTk hS 5 14 rfl (v := ?_) ?_ ?_
  rotate_left
  ·intro _ _; go_simp; first | done | with_reducible rfl
  simp only [Act.put, lsA, ls0, ls1]
  refine hTk hS 6 15 rfl (v := ?_) ?_ ?_
  rotate_left
  ·intro _ _; go_simp; first | done | with_reducible rfl
  simp only [Act.put, lsA, ls0, ls1]
  refine hTk hS 7 16 rfl (v := ?_) ?_ ?_
  rotate_left
  ·intro w9 hS9; have q := hS9.2; go_simp; first | done | with_reducible rfl
  simp only [Act.put, lsA, ls0, ls1]
  have d1 : wd.cell? ⟨g, 1, none⟩ = some (.int .i64 st.w) := k.cell 1
  have f1 := k.frozen 1
  have k1 : Keep g (.cells #[vt, .int .i64 a, .int .i64 st.h] 45) (wd.setCell ⟨g, 1, none⟩ (.int .i64 a)) := k.store 1 _
  have d2 : (wd.setCell ⟨g, 1, none⟩ (.int .i64 a)).cell? ⟨g, 2, none⟩ = some (.int .i64 st.h) := k1.cell 2
  have f2 := k1.frozen 2
  have k2 : Keep g (.cells #[vt, .int .i64 a, .int .i64 b] 45) ((wd.setCell ⟨g, 1, none⟩ (.int .i64 a)).setCell ⟨g, 2, none⟩ (.int .i64 b)) := k1.store 2 _
  have ho2 := (ho.setOther (p := ⟨g, 1, none⟩) (hvt.2 g hvt.1) (.int .i64 a)).setOther (p := ⟨g, 2, none⟩) (hvt.2 g hvt.1) (.int .i64 b)
  have HB : Hid (ExtR g w ((wd.setCell ⟨g, 1, none⟩ (.int .i64 a)).setCell ⟨g, 2, none⟩ (.int .i64 b))) := extR_trans (extR_ext hxd) ⟨rfl, rfl, rfl, by simp [World.setCell], fun q _ hq => (Below.heap_setCell _ _ _ _ hq).trans (Below.heap_setCell _ _ _ _ hq)⟩
  clear k k1 ho
  refine hTk hS 8 17 rfl (v := ?_) ?_ ?_
  rotate_left
  ·intro _ _; go_simp; first | done | with_reducible rfl
  simp only [Act.put, lsA, ls0, ls1]
  refine hTk hS 9 18 rfl (v := ?_) ?_ ?_
  rotate_left
  ·intro _ _; go_simp; first | done | with_reducible rfl
  simp only [Act.put, lsA, ls0, ls1]
  refine wpAnyH_ready (rs := [10]) (by kernel_rfl) (by simp) ?_
  refine AllReadyH.cons (o := _) rfl (fun K9 hK9 => ?_) AllReadyH.nil
  go_simp
  refine hK9.out _ _ ⟨(cell_other hbg 1 _).trans hS.1, (cell_other hbg 1 _).trans hS.2⟩ (fun hS => ?_)
  clear hK9 K9
  try simp only [Act.put, lsA, ls0, ls1]
  refine hTk hS 11 19 rfl (v := ?_) ?_ ?_
  rotate_left
  ·intro _ _; go_simp; first | done | with_reducible rfl
  simp only [Act.put, lsA, ls0, ls1]
  refine hTk hS 12 20 rfl (v := ?_) ?_ ?_
  rotate_left
  ·intro _ _; go_simp; first | done | with_reducible rfl
  simp only [Act.put, lsA, ls0, ls1]
  refine wpAnyH_ready (rs := [13]) (by kernel_rfl) (by simp) ?_
  refine AllReadyH.cons (o := _) rfl (fun K9 hK9 => ?_) AllReadyH.nil
  go_simp
  refine hK9.out _ _ ⟨(cell_other hbg 2 _).trans hS.1, (cell_other hbg 2 _).trans hS.2⟩ (fun hS => ?_)
  clear hK9 K9
  try simp only [Act.put, lsA, ls0, ls1]
  refine wpAnyH_done (by kernel_rfl) ?_ _
  clear hS d1 f1 d2 f2
  generalize (wd.setCell ⟨g, 1, none⟩ (.int .i64 a)).setCell ⟨g, 2, none⟩ (.int .i64 b) = W9 at *
  go_wp2_with (fail)
  refine (yes_any true _).mono ?_
  rintro e w3 ⟨rfl, rfl⟩
  unfold sv
  go_wp2
  go_ret
  exact ⟨by rw [HS.out]; rfl, by rw [HS.out]; exact ⟨vt, k2, ho2, hvt⟩, HB.out⟩
 | false =>
  rw [hq] at HS
  replace HS : Hid (sizS st a b = (false, st)) := HS
  clear HA hq
  go_wp2_with (fail)
  refine (yes_any false _).mono ?_
  rintro e w3 ⟨rfl, rfl⟩
  unfold sv
  go_wp2
  go_ret
  exact ⟨by rw [HS.out]; rfl, by rw [HS.out]; exact h, extR_ext hx2⟩
set_option maxRecDepth 100000 in
set_option maxHeartbeats 1000000 in
theorem remove_m {g : Nat} {No : Nat → Prop} {st : St} {v : Value} (n : Int) (w : World) (hA : ∀ k, No k → k < w.heap.size) (h : SesA 45 g No st w) (hv : Rd w 1 v (Is [n])) :
 Calls Tryz.prog 33 #[.pointer (some ⟨g, 0, none⟩), v] w fun e w' => e = .returned (sv (yesT (remS st n).1)) ∧ SesA 45 g No (remS st n).2 w' ∧ ExtR g w w' := by
 obtain ⟨a, c, rfl, _, _, hC⟩ := hv.ints
 obtain ⟨bn, off, rfl, hC'⟩ := hC 0 n rfl
 have e0 : w.cell? ⟨bn, off, none⟩ = some (.int .i64 n) := hC' 0 n rfl
 have hsv := h
 obtain ⟨vt, k, ho, hvt⟩ := hsv
 obtain ⟨a1, c1, rfl, _, _, _⟩ := ho.rd.boxes
 clear hC hC' hv
 go_enter Tryz.func33, Tryz.ntmps33
 go_upto_region 1 with fail
 refine wp_region_held_drew (S := fun _ => True) (by kernel_rfl) trivial (fun hS => ?_)
 replace h : SesA 45 g No st w.drew := by
  obtain ⟨vt, k, ho, hvt⟩ := h
  exact ⟨vt, k, ho.drew, hvt⟩
 replace ho := ho.drew
 have hxd : ExtR g w w.drew := extR_ext (Below.refl _ _).drew
 have hgl : g < w.drew.heap.size := k.lt
 have c0 : w.drew.cell? ⟨g, 0, none⟩ = some (.slice a1 st.tree.length c1) := k.cell 0
 replace e0 : w.drew.cell? ⟨bn, off, none⟩ = some (.int .i64 n) := e0
 clear k
 generalize w.drew = wd at *
 refine hTk hS 0 5 rfl (v := ?_) ?_ ?_
 rotate_left
 ·intro _ _; go_simp; first | done | with_reducible rfl
 simp only [Act.put, lsA, ls0, ls1]
 refine hTk hS 1 6 rfl (v := ?_) ?_ ?_
 rotate_left
 ·intro _ _; go_simp; first | done | with_reducible rfl
 simp only [Act.put, lsA, ls0, ls1]
 refine hTk hS 2 7 rfl (v := ?_) ?_ ?_
 rotate_left
 ·intro _ _; go_simp; first | done | with_reducible rfl
 simp only [Act.put, lsA, ls0, ls1]
 refine hTk hS 3 8 rfl (v := ?_) ?_ ?_
 rotate_left
 ·intro _ _; go_simp; first | done | with_reducible rfl
 simp only [Act.put, lsA, ls0, ls1]
 refine hTk hS 5 10 rfl (v := ?_) ?_ ?_
 rotate_left
 ·intro _ _; go_simp; first | done | with_reducible rfl
 simp only [Act.put, lsA, ls0, ls1]
 refine hTk hS 6 11 rfl (v := ?_) ?_ ?_
 rotate_left
 ·intro _ _; go_simp; first | done | with_reducible rfl
 simp only [Act.put, lsA, ls0, ls1]
 refine wpAnyH_ready (rs := [4, 7]) (by kernel_rfl) (by simp) ?_
 refine AllReadyH.cons (o := _) rfl (fun K9 hK9 => ?_) (AllReadyH.cons (o := _) rfl (fun K9 hK9 => ?_) AllReadyH.nil)
 ·go_simp
  refine hK9.out _ _ trivial (fun hS => ?_)
  clear hK9 K9
  try simp only [Act.put, lsA, ls0, ls1]
  refine wpAnyH_ready (rs := [7]) (by kernel_rfl) (by simp) ?_
  refine AllReadyH.cons (o := _) rfl (fun K9 hK9 => ?_) AllReadyH.nil
  go_simp
  refine hK9.out _ _ trivial (fun hS => ?_)
  clear hK9 K9
  try simp only [Act.put, lsA, ls0, ls1]
  clear c0 e0
  refine wpAnyH_ready (rs := [8]) (by kernel_rfl) (by simp) ?_
  refine AllReadyH.cons (o := _) rfl (fun K9 hK9 => ?_) AllReadyH.nil
  go_simp
  refine (RemoveBox_any (l := st.tree) n _ ho.rd).mono ?_
  rintro e w3 ⟨v3, rfl, ho3, hx3⟩
  have hn3 : ∀ q, No q → blk v3 ≠ some q := fun q hq e => by
   have h1 := (ho3.lt _ e).1
   have h2 := hA q hq
   have h3 := hxd.size
   omega
  try go_wp2_with fail
  refine hK9.out _ _ trivial (fun hS => ?_)
  clear hK9 K9
  try simp only [Act.put, lsA, ls0, ls1]
  refine hTk hS 9 14 rfl (v := ?_) ?_ ?_
  rotate_left
  ·intro _ _; go_simp; first | done | with_reducible rfl
  simp only [Act.put, lsA, ls0, ls1]
  refine hTk hS 10 15 rfl (v := ?_) ?_ ?_
  rotate_left
  ·intro _ _; go_simp; first | done | with_reducible rfl
  simp only [Act.put, lsA, ls0, ls1]
  refine wpAnyH_ready (rs := [11]) (by kernel_rfl) (by simp) ?_
  refine AllReadyH.cons (o := _) rfl (fun K9 hK9 => ?_) AllReadyH.nil
  go_simp
  refine (become_any (remB st.tree n) _ (h.ext hx3) (ho3.weak (Nat.zero_le _)) hn3).mono ?_
  rintro e w4 ⟨rfl, hs4, hx4⟩
  unfold sv
  try go_wp2_with fail
  refine hK9.out _ _ trivial (fun hS => ?_)
  clear hK9 K9
  try simp only [Act.put, List.setIfInBounds_toArray]
  refine hTk hS 12 4 rfl (v := ?_) ?_ ?_
  rotate_left
  ·intro _ _; go_simp; first | done | with_reducible rfl
  simp only [Act.put, lsA, ls0, ls1]
  refine wpAnyH_done (by kernel_rfl) ?_ _
  have HX := Lib.hid (extR_trans (extR_trans hxd (extR_ext hx3)) hx4)
  clear h ho ho3 hx3 hx4 hxd hn3
  have HR : Hid (yesT (remB st.tree n) = yesT (remS st n).1 ∧ SesA 45 g No (remS st n).2 w4) := by
   unfold remS
   cases hq : remB st.tree n with
   | true =>
    rw [hq] at hs4
    exact ⟨rfl, hs4⟩
   | false =>
    rw [hq] at hs4
    exact ⟨rfl, hs4⟩
  generalize yesT (remB st.tree n) = out at *
  go_wp2
  go_ret
  exact ⟨by rw [← HR.out.1]; rfl, HR.out.2, HX.out⟩
 ·go_simp
  refine hK9.out _ _ trivial (fun hS => ?_)
  clear hK9 K9
  try simp only [Act.put, lsA, ls0, ls1]
  refine wpAnyH_ready (rs := [4]) (by kernel_rfl) (by simp) ?_
  refine AllReadyH.cons (o := _) rfl (fun K9 hK9 => ?_) AllReadyH.nil
  go_simp
  refine hK9.out _ _ trivial (fun hS => ?_)
  clear hK9 K9
  try simp only [Act.put, lsA, ls0, ls1]
  clear c0 e0
  refine wpAnyH_ready (rs := [8]) (by kernel_rfl) (by simp) ?_
  refine AllReadyH.cons (o := _) rfl (fun K9 hK9 => ?_) AllReadyH.nil
  go_simp
  refine (RemoveBox_any (l := st.tree) n _ ho.rd).mono ?_
  rintro e w3 ⟨v3, rfl, ho3, hx3⟩
  have hn3 : ∀ q, No q → blk v3 ≠ some q := fun q hq e => by
   have h1 := (ho3.lt _ e).1
   have h2 := hA q hq
   have h3 := hxd.size
   omega
  try go_wp2_with fail
  refine hK9.out _ _ trivial (fun hS => ?_)
  clear hK9 K9
  try simp only [Act.put, lsA, ls0, ls1]
  refine hTk hS 9 14 rfl (v := ?_) ?_ ?_
  rotate_left
  ·intro _ _; go_simp; first | done | with_reducible rfl
  simp only [Act.put, lsA, ls0, ls1]
  refine hTk hS 10 15 rfl (v := ?_) ?_ ?_
  rotate_left
  ·intro _ _; go_simp; first | done | with_reducible rfl
  simp only [Act.put, lsA, ls0, ls1]
  refine wpAnyH_ready (rs := [11]) (by kernel_rfl) (by simp) ?_
  refine AllReadyH.cons (o := _) rfl (fun K9 hK9 => ?_) AllReadyH.nil
  go_simp
  refine (become_any (remB st.tree n) _ (h.ext hx3) (ho3.weak (Nat.zero_le _)) hn3).mono ?_
  rintro e w4 ⟨rfl, hs4, hx4⟩
  unfold sv
  try go_wp2_with fail
  refine hK9.out _ _ trivial (fun hS => ?_)
  clear hK9 K9
  try simp only [Act.put, List.setIfInBounds_toArray]
  refine hTk hS 12 4 rfl (v := ?_) ?_ ?_
  rotate_left
  ·intro _ _; go_simp; first | done | with_reducible rfl
  simp only [Act.put, lsA, ls0, ls1]
  refine wpAnyH_done (by kernel_rfl) ?_ _
  have HX := Lib.hid (extR_trans (extR_trans hxd (extR_ext hx3)) hx4)
  clear h ho ho3 hx3 hx4 hxd hn3
  have HR : Hid (yesT (remB st.tree n) = yesT (remS st n).1 ∧ SesA 45 g No (remS st n).2 w4) := by
   unfold remS
   cases hq : remB st.tree n with
   | true =>
    rw [hq] at hs4
    exact ⟨rfl, hs4⟩
   | false =>
    rw [hq] at hs4
    exact ⟨rfl, hs4⟩
  generalize yesT (remB st.tree n) = out at *
  go_wp2
  go_ret
  exact ⟨by rw [← HR.out.1]; rfl, HR.out.2, HX.out⟩
theorem Keep.c9b {k : Nat} {x : Bx} {e : TypeId} {w : World} (h : Keep k (.cells x.arr e) w) : w.cell? ⟨k, 0, none⟩ = some (.int .i64 x.parent) ∧ w.cell? ⟨k, 1, none⟩ = some (.int .i64 x.kind) ∧ w.cell? ⟨k, 2, none⟩ = some (.int .i64 x.w) ∧ w.cell? ⟨k, 3, none⟩ = some (.int .i64 x.h) ∧ w.cell? ⟨k, 4, none⟩ = some (.int .i64 x.pad) ∧ w.cell? ⟨k, 5, none⟩ = some (.int .i64 x.gap) ∧ w.cell? ⟨k, 6, none⟩ = some (.int .i64 x.grow) ∧ w.cell? ⟨k, 7, none⟩ = some (.int .i64 x.shrink) ∧ w.cell? ⟨k, 8, none⟩ = some (.int .i64 x.justify) :=
 ⟨h.cell 0, h.cell 1, h.cell 2, h.cell 3, h.cell 4, h.cell 5, h.cell 6, h.cell 7, h.cell 8⟩
set_option maxRecDepth 100000 in
set_option maxHeartbeats 1600000 in
theorem edit_add {g : Nat} {No : Nat → Prop} {st : St} (xw tx : List UInt8) (w : World) (hA : ∀ k, No k → k < w.heap.size) (h : SesA 45 g No st w) (hxw : xw.length ≤ 2000000) (htx : tx.length ≤ 2000000) (hlaid : LaidP w) :
 Calls Tryz.prog 32 #[.pointer (some ⟨g, 0, none⟩), .string ⟨xw.toArray⟩, .string ⟨tx.toArray⟩, .func (.func 29) #[] #[]] w fun e w' => e = .returned (sv (yesT (addS st (prI xw) tx).1)) ∧ SesA 45 g No (addS st (prI xw) tx).2 w' ∧ ExtR g w w' := by
 go_enter Tryz.func32, Tryz.ntmps32
 go_wp2_with (fail)
 refine (boxOf_any tx _ htx hlaid).mono ?_
 rintro e w2 ⟨rfl, hx2⟩
 replace h := h.ext hx2
 clear hlaid
 cases hp : pB tx with
 | none =>
  have hx3 := after hx2 (Below.of_alloc w2 (.cells zb.arr 39)) (Nat.le_refl _)
  have HS : Hid (addS st (prI xw) tx = (false, st)) := by
   show _ = _
   unfold addS
   rw [hp]
  replace h := h.ext (Below.of_alloc w2 (.cells zb.arr 39))
  unfold resB Bx.agg
  unfold zb at h hx3 ⊢
  clear hp
  go_upto_region 2 with fail
  change Code.wp _ _ _ _ (w2.alloc (.cells (⟨0, 0, 0, 0, 0, 0, 0, 0, 0⟩ : Bx).arr 39))
  generalize w2.alloc (.cells (⟨0, 0, 0, 0, 0, 0, 0, 0, 0⟩ : Bx).arr 39) = W3 at *
  go_wp2
  go_ret
  exact ⟨by rw [HS.out]; rfl, by rw [HS.out]; exact h, extR_ext hx3⟩
 | some b =>
  have hxd := after hx2 (Below.of_alloc w2 (.cells b.arr 39)) (Nat.le_refl _)
  have HPB := Lib.hid hp
  have kx := Keep.new w2 (.cells b.arr 39)
  replace h := h.ext (Below.of_alloc w2 (.cells b.arr 39))
  unfold resB Bx.agg
  clear hp hx2
  go_upto_region 4 with fail
  change Code.wp _ _ _ _ (w2.alloc (.cells b.arr 39))
  generalize w2.alloc (.cells b.arr 39) = W3 at *
  generalize w2.heap.size = g9 at *
  refine wp_region_held_drew (S := fun _ => True) (by kernel_rfl) trivial (fun hS => ?_)
  replace h : SesA 45 g No st W3.drew := by
   obtain ⟨vt, k, ho, hvt⟩ := h
   exact ⟨vt, k, ho.drew, hvt⟩
  replace kx : Keep g9 (.cells b.arr 39) W3.drew := kx
  replace hxd := hxd.drew
  generalize W3.drew = wd at *
  have HSS : Hid (∀ w', Ext wd w' → SesA 45 g No st w') := fun w' hw => h.ext hw
  have HD : Hid (∀ w', Ext wd w' → _) := fun w' hw => (keepE kx hw).c9b
  obtain ⟨vt, k, ho, hvt⟩ := h
  obtain ⟨a1, c1, rfl, _, _, _⟩ := ho.rd.boxes
  have HC : Hid (∀ w', Ext wd w' → w'.cell? ⟨g, 0, none⟩ = some (.slice a1 st.tree.length c1)) := fun w' hw => (keepE k hw).cell 0
  have HO : Hid (∀ w', Ext wd w' → Rd w' 9 (.slice a1 st.tree.length c1) (Bs st.tree)) := fun w' hw => ho.rd.below hw (Nat.le_refl _)
  have hgl := k.lt
  have hcur : Ext wd wd := Below.refl _ _
  clear k ho hvt kx
  change wpAnyH _ _ _ _ _ _ _ _ wd
  refine hTk hS 0 18 rfl (v := ?_) ?_ ?_
  rotate_left
  ·intro _ _; go_simp; first | done | with_reducible rfl
  simp only [Act.put, lsA, ls0, ls1]
  refine hTk hS 1 19 rfl (v := ?_) ?_ ?_
  rotate_left
  ·intro _ _; go_simp; first | done | with_reducible rfl
  simp only [Act.put, lsA, ls0, ls1]
  refine hTk hS 2 20 rfl (v := ?_) ?_ ?_
  rotate_left
  ·intro _ _; go_simp; first | done | with_reducible rfl
  simp only [Act.put, lsA, ls0, ls1]
  refine hTk hS 3 21 rfl (v := ?_) ?_ ?_
  rotate_left
  ·intro _ _; go_simp; first | done | with_reducible rfl
  simp only [Act.put, lsA, ls0, ls1]
  refine hTk hS 4 22 rfl (v := ?_) ?_ ?_
  rotate_left
  ·intro _ _; go_simp; first | done | with_reducible rfl
  simp only [Act.put, lsA, ls0, ls1]
  refine hTk hS 6 24 rfl (v := ?_) ?_ ?_
  rotate_left
  ·intro _ _; go_simp; first | done | with_reducible rfl
  simp only [Act.put, lsA, ls0, ls1]
  refine wpAnyH_ready (rs := [5, 7, 8]) (by kernel_rfl) (by simp) ?_
  refine AllReadyH.cons (o := _) rfl (fun K9 hK9 => ?_) (AllReadyH.cons (o := _) rfl (fun K9 hK9 => ?_) (AllReadyH.cons (o := _) rfl (fun K9 hK9 => ?_) AllReadyH.nil))
  ·
   have c0 := HC.out _ hcur
   go_simp
   refine hK9.out _ _ trivial (fun hS => ?_)
   clear hK9 K9
   try simp only [Act.put, lsA, ls0, ls1]
   clear c0
   refine wpAnyH_ready (rs := [7, 8]) (by kernel_rfl) (by simp) ?_
   refine AllReadyH.cons (o := _) rfl (fun K9 hK9 => ?_) (AllReadyH.cons (o := _) rfl (fun K9 hK9 => ?_) AllReadyH.nil)
   ·
    go_simp
    refine (inumber_any xw _ hxw).mono ?_
    rintro e wn ⟨rfl, hxn⟩
    try go_wp2_with fail
    replace hcur := after hcur hxn (Nat.le_refl _)
    clear hxn
    refine hK9.out _ _ trivial (fun hS => ?_)
    clear hK9 K9
    try simp only [Act.put, lsA, ls0, ls1]
    refine wpAnyH_ready (rs := [8]) (by kernel_rfl) (by simp) ?_
    refine AllReadyH.cons (o := _) rfl (fun K9 hK9 => ?_) AllReadyH.nil
    obtain ⟨d0, d1, d2, d3, d4, d5, d6, d7, d8⟩ := HD.out _ hcur
    go_simp
    refine hK9.out _ _ trivial (fun hS => ?_)
    clear hK9 K9
    try simp only [Act.put, lsA, ls0, ls1]
    clear d0 d1 d2 d3 d4 d5 d6 d7 d8
    refine wpAnyH_ready (rs := [9]) (by kernel_rfl) (by simp) ?_
    refine AllReadyH.cons (o := _) rfl (fun K9 hK9 => ?_) AllReadyH.nil
    go_simp
    change Calls _ _ #[_, _, b.agg] _ _
    refine (AddBox_any (l := st.tree) (prI xw) b _ (HO.out _ hcur)).mono ?_
    rintro e w3 ⟨v3, rfl, ho3, hx3⟩
    have hn3 : ∀ q, No q → blk v3 ≠ some q := fun q hq e => by
     have h1 := (ho3.lt _ e).1
     have h2 := hcur.size
     have h3 := hA q hq
     have h4 := hxd.size
     omega
    try go_wp2_with fail
    refine hK9.out _ _ trivial (fun hS => ?_)
    clear hK9 K9
    try simp only [Act.put, lsA, ls0, ls1]
    refine hTk hS 10 28 rfl (v := ?_) ?_ ?_
    rotate_left
    ·intro _ _; go_simp; first | done | with_reducible rfl
    simp only [Act.put, lsA, ls0, ls1]
    refine hTk hS 11 29 rfl (v := ?_) ?_ ?_
    rotate_left
    ·intro _ _; go_simp; first | done | with_reducible rfl
    simp only [Act.put, lsA, ls0, ls1]
    refine wpAnyH_ready (rs := [12]) (by kernel_rfl) (by simp) ?_
    refine AllReadyH.cons (o := _) rfl (fun K9 hK9 => ?_) AllReadyH.nil
    go_simp
    replace hcur := after hcur hx3 (Nat.le_refl _)
    refine (become_any (addOk st.tree (prI xw) b) _ (HSS.out _ hcur) (ho3.weak (Nat.zero_le _)) hn3).mono ?_
    rintro e w4 ⟨rfl, hs4, hx4⟩
    unfold sv
    try go_wp2_with fail
    refine hK9.out _ _ trivial (fun hS => ?_)
    clear hK9 K9
    try simp only [Act.put, List.setIfInBounds_toArray]
    refine hTk hS 13 8 rfl (v := ?_) ?_ ?_
    rotate_left
    ·intro _ _; go_simp; first | done | with_reducible rfl
    simp only [Act.put, lsA, ls0, ls1]
    refine wpAnyH_done (by kernel_rfl) ?_ _
    have HX := Lib.hid (extR_trans (ext_extR hxd (extR_ext hcur)) hx4)
    clear hx4 hx3 ho3 hn3 hcur
    have HR : Hid (yesT (addOk st.tree (prI xw) b) = yesT (addS st (prI xw) tx).1 ∧ SesA 45 g No (addS st (prI xw) tx).2 w4) := by
     unfold addS
     rw [HPB.out]
     dsimp only
     cases hq : addOk st.tree (prI xw) b with
     | true =>
      rw [hq] at hs4
      exact ⟨rfl, hs4⟩
     | false =>
      rw [hq] at hs4
      exact ⟨rfl, hs4⟩
    clear hs4
    generalize yesT (addOk st.tree (prI xw) b) = out at *
    go_wp2
    go_ret
    exact ⟨by rw [← HR.out.1]; rfl, HR.out.2, HX.out⟩
   ·
    obtain ⟨d0, d1, d2, d3, d4, d5, d6, d7, d8⟩ := HD.out _ hcur
    go_simp
    refine hK9.out _ _ trivial (fun hS => ?_)
    clear hK9 K9
    try simp only [Act.put, lsA, ls0, ls1]
    clear d0 d1 d2 d3 d4 d5 d6 d7 d8
    refine wpAnyH_ready (rs := [7]) (by kernel_rfl) (by simp) ?_
    refine AllReadyH.cons (o := _) rfl (fun K9 hK9 => ?_) AllReadyH.nil
    go_simp
    refine (inumber_any xw _ hxw).mono ?_
    rintro e wn ⟨rfl, hxn⟩
    try go_wp2_with fail
    replace hcur := after hcur hxn (Nat.le_refl _)
    clear hxn
    refine hK9.out _ _ trivial (fun hS => ?_)
    clear hK9 K9
    try simp only [Act.put, lsA, ls0, ls1]
    refine wpAnyH_ready (rs := [9]) (by kernel_rfl) (by simp) ?_
    refine AllReadyH.cons (o := _) rfl (fun K9 hK9 => ?_) AllReadyH.nil
    go_simp
    change Calls _ _ #[_, _, b.agg] _ _
    refine (AddBox_any (l := st.tree) (prI xw) b _ (HO.out _ hcur)).mono ?_
    rintro e w3 ⟨v3, rfl, ho3, hx3⟩
    have hn3 : ∀ q, No q → blk v3 ≠ some q := fun q hq e => by
     have h1 := (ho3.lt _ e).1
     have h2 := hcur.size
     have h3 := hA q hq
     have h4 := hxd.size
     omega
    try go_wp2_with fail
    refine hK9.out _ _ trivial (fun hS => ?_)
    clear hK9 K9
    try simp only [Act.put, lsA, ls0, ls1]
    refine hTk hS 10 28 rfl (v := ?_) ?_ ?_
    rotate_left
    ·intro _ _; go_simp; first | done | with_reducible rfl
    simp only [Act.put, lsA, ls0, ls1]
    refine hTk hS 11 29 rfl (v := ?_) ?_ ?_
    rotate_left
    ·intro _ _; go_simp; first | done | with_reducible rfl
    simp only [Act.put, lsA, ls0, ls1]
    refine wpAnyH_ready (rs := [12]) (by kernel_rfl) (by simp) ?_
    refine AllReadyH.cons (o := _) rfl (fun K9 hK9 => ?_) AllReadyH.nil
    go_simp
    replace hcur := after hcur hx3 (Nat.le_refl _)
    refine (become_any (addOk st.tree (prI xw) b) _ (HSS.out _ hcur) (ho3.weak (Nat.zero_le _)) hn3).mono ?_
    rintro e w4 ⟨rfl, hs4, hx4⟩
    unfold sv
    try go_wp2_with fail
    refine hK9.out _ _ trivial (fun hS => ?_)
    clear hK9 K9
    try simp only [Act.put, List.setIfInBounds_toArray]
    refine hTk hS 13 8 rfl (v := ?_) ?_ ?_
    rotate_left
    ·intro _ _; go_simp; first | done | with_reducible rfl
    simp only [Act.put, lsA, ls0, ls1]
    refine wpAnyH_done (by kernel_rfl) ?_ _
    have HX := Lib.hid (extR_trans (ext_extR hxd (extR_ext hcur)) hx4)
    clear hx4 hx3 ho3 hn3 hcur
    have HR : Hid (yesT (addOk st.tree (prI xw) b) = yesT (addS st (prI xw) tx).1 ∧ SesA 45 g No (addS st (prI xw) tx).2 w4) := by
     unfold addS
     rw [HPB.out]
     dsimp only
     cases hq : addOk st.tree (prI xw) b with
     | true =>
      rw [hq] at hs4
      exact ⟨rfl, hs4⟩
     | false =>
      rw [hq] at hs4
      exact ⟨rfl, hs4⟩
    clear hs4
    generalize yesT (addOk st.tree (prI xw) b) = out at *
    go_wp2
    go_ret
    exact ⟨by rw [← HR.out.1]; rfl, HR.out.2, HX.out⟩
  ·
   go_simp
   refine (inumber_any xw _ hxw).mono ?_
   rintro e wn ⟨rfl, hxn⟩
   try go_wp2_with fail
   replace hcur := after hcur hxn (Nat.le_refl _)
   clear hxn
   refine hK9.out _ _ trivial (fun hS => ?_)
   clear hK9 K9
   try simp only [Act.put, lsA, ls0, ls1]
   refine wpAnyH_ready (rs := [5, 8]) (by kernel_rfl) (by simp) ?_
   refine AllReadyH.cons (o := _) rfl (fun K9 hK9 => ?_) (AllReadyH.cons (o := _) rfl (fun K9 hK9 => ?_) AllReadyH.nil)
   ·
    have c0 := HC.out _ hcur
    go_simp
    refine hK9.out _ _ trivial (fun hS => ?_)
    clear hK9 K9
    try simp only [Act.put, lsA, ls0, ls1]
    clear c0
    refine wpAnyH_ready (rs := [8]) (by kernel_rfl) (by simp) ?_
    refine AllReadyH.cons (o := _) rfl (fun K9 hK9 => ?_) AllReadyH.nil
    obtain ⟨d0, d1, d2, d3, d4, d5, d6, d7, d8⟩ := HD.out _ hcur
    go_simp
    refine hK9.out _ _ trivial (fun hS => ?_)
    clear hK9 K9
    try simp only [Act.put, lsA, ls0, ls1]
    clear d0 d1 d2 d3 d4 d5 d6 d7 d8
    refine wpAnyH_ready (rs := [9]) (by kernel_rfl) (by simp) ?_
    refine AllReadyH.cons (o := _) rfl (fun K9 hK9 => ?_) AllReadyH.nil
    go_simp
    change Calls _ _ #[_, _, b.agg] _ _
    refine (AddBox_any (l := st.tree) (prI xw) b _ (HO.out _ hcur)).mono ?_
    rintro e w3 ⟨v3, rfl, ho3, hx3⟩
    have hn3 : ∀ q, No q → blk v3 ≠ some q := fun q hq e => by
     have h1 := (ho3.lt _ e).1
     have h2 := hcur.size
     have h3 := hA q hq
     have h4 := hxd.size
     omega
    try go_wp2_with fail
    refine hK9.out _ _ trivial (fun hS => ?_)
    clear hK9 K9
    try simp only [Act.put, lsA, ls0, ls1]
    refine hTk hS 10 28 rfl (v := ?_) ?_ ?_
    rotate_left
    ·intro _ _; go_simp; first | done | with_reducible rfl
    simp only [Act.put, lsA, ls0, ls1]
    refine hTk hS 11 29 rfl (v := ?_) ?_ ?_
    rotate_left
    ·intro _ _; go_simp; first | done | with_reducible rfl
    simp only [Act.put, lsA, ls0, ls1]
    refine wpAnyH_ready (rs := [12]) (by kernel_rfl) (by simp) ?_
    refine AllReadyH.cons (o := _) rfl (fun K9 hK9 => ?_) AllReadyH.nil
    go_simp
    replace hcur := after hcur hx3 (Nat.le_refl _)
    refine (become_any (addOk st.tree (prI xw) b) _ (HSS.out _ hcur) (ho3.weak (Nat.zero_le _)) hn3).mono ?_
    rintro e w4 ⟨rfl, hs4, hx4⟩
    unfold sv
    try go_wp2_with fail
    refine hK9.out _ _ trivial (fun hS => ?_)
    clear hK9 K9
    try simp only [Act.put, List.setIfInBounds_toArray]
    refine hTk hS 13 8 rfl (v := ?_) ?_ ?_
    rotate_left
    ·intro _ _; go_simp; first | done | with_reducible rfl
    simp only [Act.put, lsA, ls0, ls1]
    refine wpAnyH_done (by kernel_rfl) ?_ _
    have HX := Lib.hid (extR_trans (ext_extR hxd (extR_ext hcur)) hx4)
    clear hx4 hx3 ho3 hn3 hcur
    have HR : Hid (yesT (addOk st.tree (prI xw) b) = yesT (addS st (prI xw) tx).1 ∧ SesA 45 g No (addS st (prI xw) tx).2 w4) := by
     unfold addS
     rw [HPB.out]
     dsimp only
     cases hq : addOk st.tree (prI xw) b with
     | true =>
      rw [hq] at hs4
      exact ⟨rfl, hs4⟩
     | false =>
      rw [hq] at hs4
      exact ⟨rfl, hs4⟩
    clear hs4
    generalize yesT (addOk st.tree (prI xw) b) = out at *
    go_wp2
    go_ret
    exact ⟨by rw [← HR.out.1]; rfl, HR.out.2, HX.out⟩
   ·
    obtain ⟨d0, d1, d2, d3, d4, d5, d6, d7, d8⟩ := HD.out _ hcur
    go_simp
    refine hK9.out _ _ trivial (fun hS => ?_)
    clear hK9 K9
    try simp only [Act.put, lsA, ls0, ls1]
    clear d0 d1 d2 d3 d4 d5 d6 d7 d8
    refine wpAnyH_ready (rs := [5]) (by kernel_rfl) (by simp) ?_
    refine AllReadyH.cons (o := _) rfl (fun K9 hK9 => ?_) AllReadyH.nil
    have c0 := HC.out _ hcur
    go_simp
    refine hK9.out _ _ trivial (fun hS => ?_)
    clear hK9 K9
    try simp only [Act.put, lsA, ls0, ls1]
    clear c0
    refine wpAnyH_ready (rs := [9]) (by kernel_rfl) (by simp) ?_
    refine AllReadyH.cons (o := _) rfl (fun K9 hK9 => ?_) AllReadyH.nil
    go_simp
    change Calls _ _ #[_, _, b.agg] _ _
    refine (AddBox_any (l := st.tree) (prI xw) b _ (HO.out _ hcur)).mono ?_
    rintro e w3 ⟨v3, rfl, ho3, hx3⟩
    have hn3 : ∀ q, No q → blk v3 ≠ some q := fun q hq e => by
     have h1 := (ho3.lt _ e).1
     have h2 := hcur.size
     have h3 := hA q hq
     have h4 := hxd.size
     omega
    try go_wp2_with fail
    refine hK9.out _ _ trivial (fun hS => ?_)
    clear hK9 K9
    try simp only [Act.put, lsA, ls0, ls1]
    refine hTk hS 10 28 rfl (v := ?_) ?_ ?_
    rotate_left
    ·intro _ _; go_simp; first | done | with_reducible rfl
    simp only [Act.put, lsA, ls0, ls1]
    refine hTk hS 11 29 rfl (v := ?_) ?_ ?_
    rotate_left
    ·intro _ _; go_simp; first | done | with_reducible rfl
    simp only [Act.put, lsA, ls0, ls1]
    refine wpAnyH_ready (rs := [12]) (by kernel_rfl) (by simp) ?_
    refine AllReadyH.cons (o := _) rfl (fun K9 hK9 => ?_) AllReadyH.nil
    go_simp
    replace hcur := after hcur hx3 (Nat.le_refl _)
    refine (become_any (addOk st.tree (prI xw) b) _ (HSS.out _ hcur) (ho3.weak (Nat.zero_le _)) hn3).mono ?_
    rintro e w4 ⟨rfl, hs4, hx4⟩
    unfold sv
    try go_wp2_with fail
    refine hK9.out _ _ trivial (fun hS => ?_)
    clear hK9 K9
    try simp only [Act.put, List.setIfInBounds_toArray]
    refine hTk hS 13 8 rfl (v := ?_) ?_ ?_
    rotate_left
    ·intro _ _; go_simp; first | done | with_reducible rfl
    simp only [Act.put, lsA, ls0, ls1]
    refine wpAnyH_done (by kernel_rfl) ?_ _
    have HX := Lib.hid (extR_trans (ext_extR hxd (extR_ext hcur)) hx4)
    clear hx4 hx3 ho3 hn3 hcur
    have HR : Hid (yesT (addOk st.tree (prI xw) b) = yesT (addS st (prI xw) tx).1 ∧ SesA 45 g No (addS st (prI xw) tx).2 w4) := by
     unfold addS
     rw [HPB.out]
     dsimp only
     cases hq : addOk st.tree (prI xw) b with
     | true =>
      rw [hq] at hs4
      exact ⟨rfl, hs4⟩
     | false =>
      rw [hq] at hs4
      exact ⟨rfl, hs4⟩
    clear hs4
    generalize yesT (addOk st.tree (prI xw) b) = out at *
    go_wp2
    go_ret
    exact ⟨by rw [← HR.out.1]; rfl, HR.out.2, HX.out⟩
  ·
   obtain ⟨d0, d1, d2, d3, d4, d5, d6, d7, d8⟩ := HD.out _ hcur
   go_simp
   refine hK9.out _ _ trivial (fun hS => ?_)
   clear hK9 K9
   try simp only [Act.put, lsA, ls0, ls1]
   clear d0 d1 d2 d3 d4 d5 d6 d7 d8
   refine wpAnyH_ready (rs := [5, 7]) (by kernel_rfl) (by simp) ?_
   refine AllReadyH.cons (o := _) rfl (fun K9 hK9 => ?_) (AllReadyH.cons (o := _) rfl (fun K9 hK9 => ?_) AllReadyH.nil)
   ·
    have c0 := HC.out _ hcur
    go_simp
    refine hK9.out _ _ trivial (fun hS => ?_)
    clear hK9 K9
    try simp only [Act.put, lsA, ls0, ls1]
    clear c0
    refine wpAnyH_ready (rs := [7]) (by kernel_rfl) (by simp) ?_
    refine AllReadyH.cons (o := _) rfl (fun K9 hK9 => ?_) AllReadyH.nil
    go_simp
    refine (inumber_any xw _ hxw).mono ?_
    rintro e wn ⟨rfl, hxn⟩
    try go_wp2_with fail
    replace hcur := after hcur hxn (Nat.le_refl _)
    clear hxn
    refine hK9.out _ _ trivial (fun hS => ?_)
    clear hK9 K9
    try simp only [Act.put, lsA, ls0, ls1]
    refine wpAnyH_ready (rs := [9]) (by kernel_rfl) (by simp) ?_
    refine AllReadyH.cons (o := _) rfl (fun K9 hK9 => ?_) AllReadyH.nil
    go_simp
    change Calls _ _ #[_, _, b.agg] _ _
    refine (AddBox_any (l := st.tree) (prI xw) b _ (HO.out _ hcur)).mono ?_
    rintro e w3 ⟨v3, rfl, ho3, hx3⟩
    have hn3 : ∀ q, No q → blk v3 ≠ some q := fun q hq e => by
     have h1 := (ho3.lt _ e).1
     have h2 := hcur.size
     have h3 := hA q hq
     have h4 := hxd.size
     omega
    try go_wp2_with fail
    refine hK9.out _ _ trivial (fun hS => ?_)
    clear hK9 K9
    try simp only [Act.put, lsA, ls0, ls1]
    refine hTk hS 10 28 rfl (v := ?_) ?_ ?_
    rotate_left
    ·intro _ _; go_simp; first | done | with_reducible rfl
    simp only [Act.put, lsA, ls0, ls1]
    refine hTk hS 11 29 rfl (v := ?_) ?_ ?_
    rotate_left
    ·intro _ _; go_simp; first | done | with_reducible rfl
    simp only [Act.put, lsA, ls0, ls1]
    refine wpAnyH_ready (rs := [12]) (by kernel_rfl) (by simp) ?_
    refine AllReadyH.cons (o := _) rfl (fun K9 hK9 => ?_) AllReadyH.nil
    go_simp
    replace hcur := after hcur hx3 (Nat.le_refl _)
    refine (become_any (addOk st.tree (prI xw) b) _ (HSS.out _ hcur) (ho3.weak (Nat.zero_le _)) hn3).mono ?_
    rintro e w4 ⟨rfl, hs4, hx4⟩
    unfold sv
    try go_wp2_with fail
    refine hK9.out _ _ trivial (fun hS => ?_)
    clear hK9 K9
    try simp only [Act.put, List.setIfInBounds_toArray]
    refine hTk hS 13 8 rfl (v := ?_) ?_ ?_
    rotate_left
    ·intro _ _; go_simp; first | done | with_reducible rfl
    simp only [Act.put, lsA, ls0, ls1]
    refine wpAnyH_done (by kernel_rfl) ?_ _
    have HX := Lib.hid (extR_trans (ext_extR hxd (extR_ext hcur)) hx4)
    clear hx4 hx3 ho3 hn3 hcur
    have HR : Hid (yesT (addOk st.tree (prI xw) b) = yesT (addS st (prI xw) tx).1 ∧ SesA 45 g No (addS st (prI xw) tx).2 w4) := by
     unfold addS
     rw [HPB.out]
     dsimp only
     cases hq : addOk st.tree (prI xw) b with
     | true =>
      rw [hq] at hs4
      exact ⟨rfl, hs4⟩
     | false =>
      rw [hq] at hs4
      exact ⟨rfl, hs4⟩
    clear hs4
    generalize yesT (addOk st.tree (prI xw) b) = out at *
    go_wp2
    go_ret
    exact ⟨by rw [← HR.out.1]; rfl, HR.out.2, HX.out⟩
   ·
    go_simp
    refine (inumber_any xw _ hxw).mono ?_
    rintro e wn ⟨rfl, hxn⟩
    try go_wp2_with fail
    replace hcur := after hcur hxn (Nat.le_refl _)
    clear hxn
    refine hK9.out _ _ trivial (fun hS => ?_)
    clear hK9 K9
    try simp only [Act.put, lsA, ls0, ls1]
    refine wpAnyH_ready (rs := [5]) (by kernel_rfl) (by simp) ?_
    refine AllReadyH.cons (o := _) rfl (fun K9 hK9 => ?_) AllReadyH.nil
    have c0 := HC.out _ hcur
    go_simp
    refine hK9.out _ _ trivial (fun hS => ?_)
    clear hK9 K9
    try simp only [Act.put, lsA, ls0, ls1]
    clear c0
    refine wpAnyH_ready (rs := [9]) (by kernel_rfl) (by simp) ?_
    refine AllReadyH.cons (o := _) rfl (fun K9 hK9 => ?_) AllReadyH.nil
    go_simp
    change Calls _ _ #[_, _, b.agg] _ _
    refine (AddBox_any (l := st.tree) (prI xw) b _ (HO.out _ hcur)).mono ?_
    rintro e w3 ⟨v3, rfl, ho3, hx3⟩
    have hn3 : ∀ q, No q → blk v3 ≠ some q := fun q hq e => by
     have h1 := (ho3.lt _ e).1
     have h2 := hcur.size
     have h3 := hA q hq
     have h4 := hxd.size
     omega
    try go_wp2_with fail
    refine hK9.out _ _ trivial (fun hS => ?_)
    clear hK9 K9
    try simp only [Act.put, lsA, ls0, ls1]
    refine hTk hS 10 28 rfl (v := ?_) ?_ ?_
    rotate_left
    ·intro _ _; go_simp; first | done | with_reducible rfl
    simp only [Act.put, lsA, ls0, ls1]
    refine hTk hS 11 29 rfl (v := ?_) ?_ ?_
    rotate_left
    ·intro _ _; go_simp; first | done | with_reducible rfl
    simp only [Act.put, lsA, ls0, ls1]
    refine wpAnyH_ready (rs := [12]) (by kernel_rfl) (by simp) ?_
    refine AllReadyH.cons (o := _) rfl (fun K9 hK9 => ?_) AllReadyH.nil
    go_simp
    replace hcur := after hcur hx3 (Nat.le_refl _)
    refine (become_any (addOk st.tree (prI xw) b) _ (HSS.out _ hcur) (ho3.weak (Nat.zero_le _)) hn3).mono ?_
    rintro e w4 ⟨rfl, hs4, hx4⟩
    unfold sv
    try go_wp2_with fail
    refine hK9.out _ _ trivial (fun hS => ?_)
    clear hK9 K9
    try simp only [Act.put, List.setIfInBounds_toArray]
    refine hTk hS 13 8 rfl (v := ?_) ?_ ?_
    rotate_left
    ·intro _ _; go_simp; first | done | with_reducible rfl
    simp only [Act.put, lsA, ls0, ls1]
    refine wpAnyH_done (by kernel_rfl) ?_ _
    have HX := Lib.hid (extR_trans (ext_extR hxd (extR_ext hcur)) hx4)
    clear hx4 hx3 ho3 hn3 hcur
    have HR : Hid (yesT (addOk st.tree (prI xw) b) = yesT (addS st (prI xw) tx).1 ∧ SesA 45 g No (addS st (prI xw) tx).2 w4) := by
     unfold addS
     rw [HPB.out]
     dsimp only
     cases hq : addOk st.tree (prI xw) b with
     | true =>
      rw [hq] at hs4
      exact ⟨rfl, hs4⟩
     | false =>
      rw [hq] at hs4
      exact ⟨rfl, hs4⟩
    clear hs4
    generalize yesT (addOk st.tree (prI xw) b) = out at *
    go_wp2
    go_ret
    exact ⟨by rw [← HR.out.1]; rfl, HR.out.2, HX.out⟩
set_option maxRecDepth 100000 in
set_option maxHeartbeats 1600000 in
theorem edit_sty {g : Nat} {No : Nat → Prop} {st : St} (xw tx : List UInt8) (w : World) (hA : ∀ k, No k → k < w.heap.size) (h : SesA 45 g No st w) (hxw : xw.length ≤ 2000000) (htx : tx.length ≤ 2000000) (hlaid : LaidP w) :
 Calls Tryz.prog 32 #[.pointer (some ⟨g, 0, none⟩), .string ⟨xw.toArray⟩, .string ⟨tx.toArray⟩, .func (.func 30) #[] #[]] w fun e w' => e = .returned (sv (yesT (styS st (prI xw) tx).1)) ∧ SesA 45 g No (styS st (prI xw) tx).2 w' ∧ ExtR g w w' := by
 go_enter Tryz.func32, Tryz.ntmps32
 go_wp2_with (fail)
 refine (boxOf_any tx _ htx hlaid).mono ?_
 rintro e w2 ⟨rfl, hx2⟩
 replace h := h.ext hx2
 clear hlaid
 cases hp : pB tx with
 | none =>
  have hx3 := after hx2 (Below.of_alloc w2 (.cells zb.arr 39)) (Nat.le_refl _)
  have HS : Hid (styS st (prI xw) tx = (false, st)) := by
   show _ = _
   unfold styS
   rw [hp]
  replace h := h.ext (Below.of_alloc w2 (.cells zb.arr 39))
  unfold resB Bx.agg
  unfold zb at h hx3 ⊢
  clear hp
  go_upto_region 2 with fail
  change Code.wp _ _ _ _ (w2.alloc (.cells (⟨0, 0, 0, 0, 0, 0, 0, 0, 0⟩ : Bx).arr 39))
  generalize w2.alloc (.cells (⟨0, 0, 0, 0, 0, 0, 0, 0, 0⟩ : Bx).arr 39) = W3 at *
  go_wp2
  go_ret
  exact ⟨by rw [HS.out]; rfl, by rw [HS.out]; exact h, extR_ext hx3⟩
 | some b =>
  have hxd := after hx2 (Below.of_alloc w2 (.cells b.arr 39)) (Nat.le_refl _)
  have HPB := Lib.hid hp
  have kx := Keep.new w2 (.cells b.arr 39)
  replace h := h.ext (Below.of_alloc w2 (.cells b.arr 39))
  unfold resB Bx.agg
  clear hp hx2
  go_upto_region 4 with fail
  change Code.wp _ _ _ _ (w2.alloc (.cells b.arr 39))
  generalize w2.alloc (.cells b.arr 39) = W3 at *
  generalize w2.heap.size = g9 at *
  refine wp_region_held_drew (S := fun _ => True) (by kernel_rfl) trivial (fun hS => ?_)
  replace h : SesA 45 g No st W3.drew := by
   obtain ⟨vt, k, ho, hvt⟩ := h
   exact ⟨vt, k, ho.drew, hvt⟩
  replace kx : Keep g9 (.cells b.arr 39) W3.drew := kx
  replace hxd := hxd.drew
  generalize W3.drew = wd at *
  have HSS : Hid (∀ w', Ext wd w' → SesA 45 g No st w') := fun w' hw => h.ext hw
  have HD : Hid (∀ w', Ext wd w' → _) := fun w' hw => (keepE kx hw).c9b
  obtain ⟨vt, k, ho, hvt⟩ := h
  obtain ⟨a1, c1, rfl, _, _, _⟩ := ho.rd.boxes
  have HC : Hid (∀ w', Ext wd w' → w'.cell? ⟨g, 0, none⟩ = some (.slice a1 st.tree.length c1)) := fun w' hw => (keepE k hw).cell 0
  have HO : Hid (∀ w', Ext wd w' → Rd w' 9 (.slice a1 st.tree.length c1) (Bs st.tree)) := fun w' hw => ho.rd.below hw (Nat.le_refl _)
  have hgl := k.lt
  have hcur : Ext wd wd := Below.refl _ _
  clear k ho hvt kx
  change wpAnyH _ _ _ _ _ _ _ _ wd
  refine hTk hS 0 18 rfl (v := ?_) ?_ ?_
  rotate_left
  ·intro _ _; go_simp; first | done | with_reducible rfl
  simp only [Act.put, lsA, ls0, ls1]
  refine hTk hS 1 19 rfl (v := ?_) ?_ ?_
  rotate_left
  ·intro _ _; go_simp; first | done | with_reducible rfl
  simp only [Act.put, lsA, ls0, ls1]
  refine hTk hS 2 20 rfl (v := ?_) ?_ ?_
  rotate_left
  ·intro _ _; go_simp; first | done | with_reducible rfl
  simp only [Act.put, lsA, ls0, ls1]
  refine hTk hS 3 21 rfl (v := ?_) ?_ ?_
  rotate_left
  ·intro _ _; go_simp; first | done | with_reducible rfl
  simp only [Act.put, lsA, ls0, ls1]
  refine hTk hS 4 22 rfl (v := ?_) ?_ ?_
  rotate_left
  ·intro _ _; go_simp; first | done | with_reducible rfl
  simp only [Act.put, lsA, ls0, ls1]
  refine hTk hS 6 24 rfl (v := ?_) ?_ ?_
  rotate_left
  ·intro _ _; go_simp; first | done | with_reducible rfl
  simp only [Act.put, lsA, ls0, ls1]
  refine wpAnyH_ready (rs := [5, 7, 8]) (by kernel_rfl) (by simp) ?_
  refine AllReadyH.cons (o := _) rfl (fun K9 hK9 => ?_) (AllReadyH.cons (o := _) rfl (fun K9 hK9 => ?_) (AllReadyH.cons (o := _) rfl (fun K9 hK9 => ?_) AllReadyH.nil))
  ·
   have c0 := HC.out _ hcur
   go_simp
   refine hK9.out _ _ trivial (fun hS => ?_)
   clear hK9 K9
   try simp only [Act.put, lsA, ls0, ls1]
   clear c0
   refine wpAnyH_ready (rs := [7, 8]) (by kernel_rfl) (by simp) ?_
   refine AllReadyH.cons (o := _) rfl (fun K9 hK9 => ?_) (AllReadyH.cons (o := _) rfl (fun K9 hK9 => ?_) AllReadyH.nil)
   ·
    go_simp
    refine (inumber_any xw _ hxw).mono ?_
    rintro e wn ⟨rfl, hxn⟩
    try go_wp2_with fail
    replace hcur := after hcur hxn (Nat.le_refl _)
    clear hxn
    refine hK9.out _ _ trivial (fun hS => ?_)
    clear hK9 K9
    try simp only [Act.put, lsA, ls0, ls1]
    refine wpAnyH_ready (rs := [8]) (by kernel_rfl) (by simp) ?_
    refine AllReadyH.cons (o := _) rfl (fun K9 hK9 => ?_) AllReadyH.nil
    obtain ⟨d0, d1, d2, d3, d4, d5, d6, d7, d8⟩ := HD.out _ hcur
    go_simp
    refine hK9.out _ _ trivial (fun hS => ?_)
    clear hK9 K9
    try simp only [Act.put, lsA, ls0, ls1]
    clear d0 d1 d2 d3 d4 d5 d6 d7 d8
    refine wpAnyH_ready (rs := [9]) (by kernel_rfl) (by simp) ?_
    refine AllReadyH.cons (o := _) rfl (fun K9 hK9 => ?_) AllReadyH.nil
    go_simp
    change Calls _ _ #[_, _, b.agg] _ _
    refine (StyleBox_any (l := st.tree) (prI xw) b _ (HO.out _ hcur)).mono ?_
    rintro e w3 ⟨v3, rfl, ho3, hx3⟩
    have hn3 : ∀ q, No q → blk v3 ≠ some q := fun q hq e => by
     have h1 := (ho3.lt _ e).1
     have h2 := hcur.size
     have h3 := hA q hq
     have h4 := hxd.size
     omega
    try go_wp2_with fail
    refine hK9.out _ _ trivial (fun hS => ?_)
    clear hK9 K9
    try simp only [Act.put, lsA, ls0, ls1]
    refine hTk hS 10 28 rfl (v := ?_) ?_ ?_
    rotate_left
    ·intro _ _; go_simp; first | done | with_reducible rfl
    simp only [Act.put, lsA, ls0, ls1]
    refine hTk hS 11 29 rfl (v := ?_) ?_ ?_
    rotate_left
    ·intro _ _; go_simp; first | done | with_reducible rfl
    simp only [Act.put, lsA, ls0, ls1]
    refine wpAnyH_ready (rs := [12]) (by kernel_rfl) (by simp) ?_
    refine AllReadyH.cons (o := _) rfl (fun K9 hK9 => ?_) AllReadyH.nil
    go_simp
    replace hcur := after hcur hx3 (Nat.le_refl _)
    refine (become_any (styleOk st.tree (prI xw) b) _ (HSS.out _ hcur) (ho3.weak (Nat.zero_le _)) hn3).mono ?_
    rintro e w4 ⟨rfl, hs4, hx4⟩
    unfold sv
    try go_wp2_with fail
    refine hK9.out _ _ trivial (fun hS => ?_)
    clear hK9 K9
    try simp only [Act.put, List.setIfInBounds_toArray]
    refine hTk hS 13 8 rfl (v := ?_) ?_ ?_
    rotate_left
    ·intro _ _; go_simp; first | done | with_reducible rfl
    simp only [Act.put, lsA, ls0, ls1]
    refine wpAnyH_done (by kernel_rfl) ?_ _
    have HX := Lib.hid (extR_trans (ext_extR hxd (extR_ext hcur)) hx4)
    clear hx4 hx3 ho3 hn3 hcur
    have HR : Hid (yesT (styleOk st.tree (prI xw) b) = yesT (styS st (prI xw) tx).1 ∧ SesA 45 g No (styS st (prI xw) tx).2 w4) := by
     unfold styS
     rw [HPB.out]
     dsimp only
     cases hq : styleOk st.tree (prI xw) b with
     | true =>
      rw [hq] at hs4
      exact ⟨rfl, hs4⟩
     | false =>
      rw [hq] at hs4
      exact ⟨rfl, hs4⟩
    clear hs4
    generalize yesT (styleOk st.tree (prI xw) b) = out at *
    go_wp2
    go_ret
    exact ⟨by rw [← HR.out.1]; rfl, HR.out.2, HX.out⟩
   ·
    obtain ⟨d0, d1, d2, d3, d4, d5, d6, d7, d8⟩ := HD.out _ hcur
    go_simp
    refine hK9.out _ _ trivial (fun hS => ?_)
    clear hK9 K9
    try simp only [Act.put, lsA, ls0, ls1]
    clear d0 d1 d2 d3 d4 d5 d6 d7 d8
    refine wpAnyH_ready (rs := [7]) (by kernel_rfl) (by simp) ?_
    refine AllReadyH.cons (o := _) rfl (fun K9 hK9 => ?_) AllReadyH.nil
    go_simp
    refine (inumber_any xw _ hxw).mono ?_
    rintro e wn ⟨rfl, hxn⟩
    try go_wp2_with fail
    replace hcur := after hcur hxn (Nat.le_refl _)
    clear hxn
    refine hK9.out _ _ trivial (fun hS => ?_)
    clear hK9 K9
    try simp only [Act.put, lsA, ls0, ls1]
    refine wpAnyH_ready (rs := [9]) (by kernel_rfl) (by simp) ?_
    refine AllReadyH.cons (o := _) rfl (fun K9 hK9 => ?_) AllReadyH.nil
    go_simp
    change Calls _ _ #[_, _, b.agg] _ _
    refine (StyleBox_any (l := st.tree) (prI xw) b _ (HO.out _ hcur)).mono ?_
    rintro e w3 ⟨v3, rfl, ho3, hx3⟩
    have hn3 : ∀ q, No q → blk v3 ≠ some q := fun q hq e => by
     have h1 := (ho3.lt _ e).1
     have h2 := hcur.size
     have h3 := hA q hq
     have h4 := hxd.size
     omega
    try go_wp2_with fail
    refine hK9.out _ _ trivial (fun hS => ?_)
    clear hK9 K9
    try simp only [Act.put, lsA, ls0, ls1]
    refine hTk hS 10 28 rfl (v := ?_) ?_ ?_
    rotate_left
    ·intro _ _; go_simp; first | done | with_reducible rfl
    simp only [Act.put, lsA, ls0, ls1]
    refine hTk hS 11 29 rfl (v := ?_) ?_ ?_
    rotate_left
    ·intro _ _; go_simp; first | done | with_reducible rfl
    simp only [Act.put, lsA, ls0, ls1]
    refine wpAnyH_ready (rs := [12]) (by kernel_rfl) (by simp) ?_
    refine AllReadyH.cons (o := _) rfl (fun K9 hK9 => ?_) AllReadyH.nil
    go_simp
    replace hcur := after hcur hx3 (Nat.le_refl _)
    refine (become_any (styleOk st.tree (prI xw) b) _ (HSS.out _ hcur) (ho3.weak (Nat.zero_le _)) hn3).mono ?_
    rintro e w4 ⟨rfl, hs4, hx4⟩
    unfold sv
    try go_wp2_with fail
    refine hK9.out _ _ trivial (fun hS => ?_)
    clear hK9 K9
    try simp only [Act.put, List.setIfInBounds_toArray]
    refine hTk hS 13 8 rfl (v := ?_) ?_ ?_
    rotate_left
    ·intro _ _; go_simp; first | done | with_reducible rfl
    simp only [Act.put, lsA, ls0, ls1]
    refine wpAnyH_done (by kernel_rfl) ?_ _
    have HX := Lib.hid (extR_trans (ext_extR hxd (extR_ext hcur)) hx4)
    clear hx4 hx3 ho3 hn3 hcur
    have HR : Hid (yesT (styleOk st.tree (prI xw) b) = yesT (styS st (prI xw) tx).1 ∧ SesA 45 g No (styS st (prI xw) tx).2 w4) := by
     unfold styS
     rw [HPB.out]
     dsimp only
     cases hq : styleOk st.tree (prI xw) b with
     | true =>
      rw [hq] at hs4
      exact ⟨rfl, hs4⟩
     | false =>
      rw [hq] at hs4
      exact ⟨rfl, hs4⟩
    clear hs4
    generalize yesT (styleOk st.tree (prI xw) b) = out at *
    go_wp2
    go_ret
    exact ⟨by rw [← HR.out.1]; rfl, HR.out.2, HX.out⟩
  ·
   go_simp
   refine (inumber_any xw _ hxw).mono ?_
   rintro e wn ⟨rfl, hxn⟩
   try go_wp2_with fail
   replace hcur := after hcur hxn (Nat.le_refl _)
   clear hxn
   refine hK9.out _ _ trivial (fun hS => ?_)
   clear hK9 K9
   try simp only [Act.put, lsA, ls0, ls1]
   refine wpAnyH_ready (rs := [5, 8]) (by kernel_rfl) (by simp) ?_
   refine AllReadyH.cons (o := _) rfl (fun K9 hK9 => ?_) (AllReadyH.cons (o := _) rfl (fun K9 hK9 => ?_) AllReadyH.nil)
   ·
    have c0 := HC.out _ hcur
    go_simp
    refine hK9.out _ _ trivial (fun hS => ?_)
    clear hK9 K9
    try simp only [Act.put, lsA, ls0, ls1]
    clear c0
    refine wpAnyH_ready (rs := [8]) (by kernel_rfl) (by simp) ?_
    refine AllReadyH.cons (o := _) rfl (fun K9 hK9 => ?_) AllReadyH.nil
    obtain ⟨d0, d1, d2, d3, d4, d5, d6, d7, d8⟩ := HD.out _ hcur
    go_simp
    refine hK9.out _ _ trivial (fun hS => ?_)
    clear hK9 K9
    try simp only [Act.put, lsA, ls0, ls1]
    clear d0 d1 d2 d3 d4 d5 d6 d7 d8
    refine wpAnyH_ready (rs := [9]) (by kernel_rfl) (by simp) ?_
    refine AllReadyH.cons (o := _) rfl (fun K9 hK9 => ?_) AllReadyH.nil
    go_simp
    change Calls _ _ #[_, _, b.agg] _ _
    refine (StyleBox_any (l := st.tree) (prI xw) b _ (HO.out _ hcur)).mono ?_
    rintro e w3 ⟨v3, rfl, ho3, hx3⟩
    have hn3 : ∀ q, No q → blk v3 ≠ some q := fun q hq e => by
     have h1 := (ho3.lt _ e).1
     have h2 := hcur.size
     have h3 := hA q hq
     have h4 := hxd.size
     omega
    try go_wp2_with fail
    refine hK9.out _ _ trivial (fun hS => ?_)
    clear hK9 K9
    try simp only [Act.put, lsA, ls0, ls1]
    refine hTk hS 10 28 rfl (v := ?_) ?_ ?_
    rotate_left
    ·intro _ _; go_simp; first | done | with_reducible rfl
    simp only [Act.put, lsA, ls0, ls1]
    refine hTk hS 11 29 rfl (v := ?_) ?_ ?_
    rotate_left
    ·intro _ _; go_simp; first | done | with_reducible rfl
    simp only [Act.put, lsA, ls0, ls1]
    refine wpAnyH_ready (rs := [12]) (by kernel_rfl) (by simp) ?_
    refine AllReadyH.cons (o := _) rfl (fun K9 hK9 => ?_) AllReadyH.nil
    go_simp
    replace hcur := after hcur hx3 (Nat.le_refl _)
    refine (become_any (styleOk st.tree (prI xw) b) _ (HSS.out _ hcur) (ho3.weak (Nat.zero_le _)) hn3).mono ?_
    rintro e w4 ⟨rfl, hs4, hx4⟩
    unfold sv
    try go_wp2_with fail
    refine hK9.out _ _ trivial (fun hS => ?_)
    clear hK9 K9
    try simp only [Act.put, List.setIfInBounds_toArray]
    refine hTk hS 13 8 rfl (v := ?_) ?_ ?_
    rotate_left
    ·intro _ _; go_simp; first | done | with_reducible rfl
    simp only [Act.put, lsA, ls0, ls1]
    refine wpAnyH_done (by kernel_rfl) ?_ _
    have HX := Lib.hid (extR_trans (ext_extR hxd (extR_ext hcur)) hx4)
    clear hx4 hx3 ho3 hn3 hcur
    have HR : Hid (yesT (styleOk st.tree (prI xw) b) = yesT (styS st (prI xw) tx).1 ∧ SesA 45 g No (styS st (prI xw) tx).2 w4) := by
     unfold styS
     rw [HPB.out]
     dsimp only
     cases hq : styleOk st.tree (prI xw) b with
     | true =>
      rw [hq] at hs4
      exact ⟨rfl, hs4⟩
     | false =>
      rw [hq] at hs4
      exact ⟨rfl, hs4⟩
    clear hs4
    generalize yesT (styleOk st.tree (prI xw) b) = out at *
    go_wp2
    go_ret
    exact ⟨by rw [← HR.out.1]; rfl, HR.out.2, HX.out⟩
   ·
    obtain ⟨d0, d1, d2, d3, d4, d5, d6, d7, d8⟩ := HD.out _ hcur
    go_simp
    refine hK9.out _ _ trivial (fun hS => ?_)
    clear hK9 K9
    try simp only [Act.put, lsA, ls0, ls1]
    clear d0 d1 d2 d3 d4 d5 d6 d7 d8
    refine wpAnyH_ready (rs := [5]) (by kernel_rfl) (by simp) ?_
    refine AllReadyH.cons (o := _) rfl (fun K9 hK9 => ?_) AllReadyH.nil
    have c0 := HC.out _ hcur
    go_simp
    refine hK9.out _ _ trivial (fun hS => ?_)
    clear hK9 K9
    try simp only [Act.put, lsA, ls0, ls1]
    clear c0
    refine wpAnyH_ready (rs := [9]) (by kernel_rfl) (by simp) ?_
    refine AllReadyH.cons (o := _) rfl (fun K9 hK9 => ?_) AllReadyH.nil
    go_simp
    change Calls _ _ #[_, _, b.agg] _ _
    refine (StyleBox_any (l := st.tree) (prI xw) b _ (HO.out _ hcur)).mono ?_
    rintro e w3 ⟨v3, rfl, ho3, hx3⟩
    have hn3 : ∀ q, No q → blk v3 ≠ some q := fun q hq e => by
     have h1 := (ho3.lt _ e).1
     have h2 := hcur.size
     have h3 := hA q hq
     have h4 := hxd.size
     omega
    try go_wp2_with fail
    refine hK9.out _ _ trivial (fun hS => ?_)
    clear hK9 K9
    try simp only [Act.put, lsA, ls0, ls1]
    refine hTk hS 10 28 rfl (v := ?_) ?_ ?_
    rotate_left
    ·intro _ _; go_simp; first | done | with_reducible rfl
    simp only [Act.put, lsA, ls0, ls1]
    refine hTk hS 11 29 rfl (v := ?_) ?_ ?_
    rotate_left
    ·intro _ _; go_simp; first | done | with_reducible rfl
    simp only [Act.put, lsA, ls0, ls1]
    refine wpAnyH_ready (rs := [12]) (by kernel_rfl) (by simp) ?_
    refine AllReadyH.cons (o := _) rfl (fun K9 hK9 => ?_) AllReadyH.nil
    go_simp
    replace hcur := after hcur hx3 (Nat.le_refl _)
    refine (become_any (styleOk st.tree (prI xw) b) _ (HSS.out _ hcur) (ho3.weak (Nat.zero_le _)) hn3).mono ?_
    rintro e w4 ⟨rfl, hs4, hx4⟩
    unfold sv
    try go_wp2_with fail
    refine hK9.out _ _ trivial (fun hS => ?_)
    clear hK9 K9
    try simp only [Act.put, List.setIfInBounds_toArray]
    refine hTk hS 13 8 rfl (v := ?_) ?_ ?_
    rotate_left
    ·intro _ _; go_simp; first | done | with_reducible rfl
    simp only [Act.put, lsA, ls0, ls1]
    refine wpAnyH_done (by kernel_rfl) ?_ _
    have HX := Lib.hid (extR_trans (ext_extR hxd (extR_ext hcur)) hx4)
    clear hx4 hx3 ho3 hn3 hcur
    have HR : Hid (yesT (styleOk st.tree (prI xw) b) = yesT (styS st (prI xw) tx).1 ∧ SesA 45 g No (styS st (prI xw) tx).2 w4) := by
     unfold styS
     rw [HPB.out]
     dsimp only
     cases hq : styleOk st.tree (prI xw) b with
     | true =>
      rw [hq] at hs4
      exact ⟨rfl, hs4⟩
     | false =>
      rw [hq] at hs4
      exact ⟨rfl, hs4⟩
    clear hs4
    generalize yesT (styleOk st.tree (prI xw) b) = out at *
    go_wp2
    go_ret
    exact ⟨by rw [← HR.out.1]; rfl, HR.out.2, HX.out⟩
  ·
   obtain ⟨d0, d1, d2, d3, d4, d5, d6, d7, d8⟩ := HD.out _ hcur
   go_simp
   refine hK9.out _ _ trivial (fun hS => ?_)
   clear hK9 K9
   try simp only [Act.put, lsA, ls0, ls1]
   clear d0 d1 d2 d3 d4 d5 d6 d7 d8
   refine wpAnyH_ready (rs := [5, 7]) (by kernel_rfl) (by simp) ?_
   refine AllReadyH.cons (o := _) rfl (fun K9 hK9 => ?_) (AllReadyH.cons (o := _) rfl (fun K9 hK9 => ?_) AllReadyH.nil)
   ·
    have c0 := HC.out _ hcur
    go_simp
    refine hK9.out _ _ trivial (fun hS => ?_)
    clear hK9 K9
    try simp only [Act.put, lsA, ls0, ls1]
    clear c0
    refine wpAnyH_ready (rs := [7]) (by kernel_rfl) (by simp) ?_
    refine AllReadyH.cons (o := _) rfl (fun K9 hK9 => ?_) AllReadyH.nil
    go_simp
    refine (inumber_any xw _ hxw).mono ?_
    rintro e wn ⟨rfl, hxn⟩
    try go_wp2_with fail
    replace hcur := after hcur hxn (Nat.le_refl _)
    clear hxn
    refine hK9.out _ _ trivial (fun hS => ?_)
    clear hK9 K9
    try simp only [Act.put, lsA, ls0, ls1]
    refine wpAnyH_ready (rs := [9]) (by kernel_rfl) (by simp) ?_
    refine AllReadyH.cons (o := _) rfl (fun K9 hK9 => ?_) AllReadyH.nil
    go_simp
    change Calls _ _ #[_, _, b.agg] _ _
    refine (StyleBox_any (l := st.tree) (prI xw) b _ (HO.out _ hcur)).mono ?_
    rintro e w3 ⟨v3, rfl, ho3, hx3⟩
    have hn3 : ∀ q, No q → blk v3 ≠ some q := fun q hq e => by
     have h1 := (ho3.lt _ e).1
     have h2 := hcur.size
     have h3 := hA q hq
     have h4 := hxd.size
     omega
    try go_wp2_with fail
    refine hK9.out _ _ trivial (fun hS => ?_)
    clear hK9 K9
    try simp only [Act.put, lsA, ls0, ls1]
    refine hTk hS 10 28 rfl (v := ?_) ?_ ?_
    rotate_left
    ·intro _ _; go_simp; first | done | with_reducible rfl
    simp only [Act.put, lsA, ls0, ls1]
    refine hTk hS 11 29 rfl (v := ?_) ?_ ?_
    rotate_left
    ·intro _ _; go_simp; first | done | with_reducible rfl
    simp only [Act.put, lsA, ls0, ls1]
    refine wpAnyH_ready (rs := [12]) (by kernel_rfl) (by simp) ?_
    refine AllReadyH.cons (o := _) rfl (fun K9 hK9 => ?_) AllReadyH.nil
    go_simp
    replace hcur := after hcur hx3 (Nat.le_refl _)
    refine (become_any (styleOk st.tree (prI xw) b) _ (HSS.out _ hcur) (ho3.weak (Nat.zero_le _)) hn3).mono ?_
    rintro e w4 ⟨rfl, hs4, hx4⟩
    unfold sv
    try go_wp2_with fail
    refine hK9.out _ _ trivial (fun hS => ?_)
    clear hK9 K9
    try simp only [Act.put, List.setIfInBounds_toArray]
    refine hTk hS 13 8 rfl (v := ?_) ?_ ?_
    rotate_left
    ·intro _ _; go_simp; first | done | with_reducible rfl
    simp only [Act.put, lsA, ls0, ls1]
    refine wpAnyH_done (by kernel_rfl) ?_ _
    have HX := Lib.hid (extR_trans (ext_extR hxd (extR_ext hcur)) hx4)
    clear hx4 hx3 ho3 hn3 hcur
    have HR : Hid (yesT (styleOk st.tree (prI xw) b) = yesT (styS st (prI xw) tx).1 ∧ SesA 45 g No (styS st (prI xw) tx).2 w4) := by
     unfold styS
     rw [HPB.out]
     dsimp only
     cases hq : styleOk st.tree (prI xw) b with
     | true =>
      rw [hq] at hs4
      exact ⟨rfl, hs4⟩
     | false =>
      rw [hq] at hs4
      exact ⟨rfl, hs4⟩
    clear hs4
    generalize yesT (styleOk st.tree (prI xw) b) = out at *
    go_wp2
    go_ret
    exact ⟨by rw [← HR.out.1]; rfl, HR.out.2, HX.out⟩
   ·
    go_simp
    refine (inumber_any xw _ hxw).mono ?_
    rintro e wn ⟨rfl, hxn⟩
    try go_wp2_with fail
    replace hcur := after hcur hxn (Nat.le_refl _)
    clear hxn
    refine hK9.out _ _ trivial (fun hS => ?_)
    clear hK9 K9
    try simp only [Act.put, lsA, ls0, ls1]
    refine wpAnyH_ready (rs := [5]) (by kernel_rfl) (by simp) ?_
    refine AllReadyH.cons (o := _) rfl (fun K9 hK9 => ?_) AllReadyH.nil
    have c0 := HC.out _ hcur
    go_simp
    refine hK9.out _ _ trivial (fun hS => ?_)
    clear hK9 K9
    try simp only [Act.put, lsA, ls0, ls1]
    clear c0
    refine wpAnyH_ready (rs := [9]) (by kernel_rfl) (by simp) ?_
    refine AllReadyH.cons (o := _) rfl (fun K9 hK9 => ?_) AllReadyH.nil
    go_simp
    change Calls _ _ #[_, _, b.agg] _ _
    refine (StyleBox_any (l := st.tree) (prI xw) b _ (HO.out _ hcur)).mono ?_
    rintro e w3 ⟨v3, rfl, ho3, hx3⟩
    have hn3 : ∀ q, No q → blk v3 ≠ some q := fun q hq e => by
     have h1 := (ho3.lt _ e).1
     have h2 := hcur.size
     have h3 := hA q hq
     have h4 := hxd.size
     omega
    try go_wp2_with fail
    refine hK9.out _ _ trivial (fun hS => ?_)
    clear hK9 K9
    try simp only [Act.put, lsA, ls0, ls1]
    refine hTk hS 10 28 rfl (v := ?_) ?_ ?_
    rotate_left
    ·intro _ _; go_simp; first | done | with_reducible rfl
    simp only [Act.put, lsA, ls0, ls1]
    refine hTk hS 11 29 rfl (v := ?_) ?_ ?_
    rotate_left
    ·intro _ _; go_simp; first | done | with_reducible rfl
    simp only [Act.put, lsA, ls0, ls1]
    refine wpAnyH_ready (rs := [12]) (by kernel_rfl) (by simp) ?_
    refine AllReadyH.cons (o := _) rfl (fun K9 hK9 => ?_) AllReadyH.nil
    go_simp
    replace hcur := after hcur hx3 (Nat.le_refl _)
    refine (become_any (styleOk st.tree (prI xw) b) _ (HSS.out _ hcur) (ho3.weak (Nat.zero_le _)) hn3).mono ?_
    rintro e w4 ⟨rfl, hs4, hx4⟩
    unfold sv
    try go_wp2_with fail
    refine hK9.out _ _ trivial (fun hS => ?_)
    clear hK9 K9
    try simp only [Act.put, List.setIfInBounds_toArray]
    refine hTk hS 13 8 rfl (v := ?_) ?_ ?_
    rotate_left
    ·intro _ _; go_simp; first | done | with_reducible rfl
    simp only [Act.put, lsA, ls0, ls1]
    refine wpAnyH_done (by kernel_rfl) ?_ _
    have HX := Lib.hid (extR_trans (ext_extR hxd (extR_ext hcur)) hx4)
    clear hx4 hx3 ho3 hn3 hcur
    have HR : Hid (yesT (styleOk st.tree (prI xw) b) = yesT (styS st (prI xw) tx).1 ∧ SesA 45 g No (styS st (prI xw) tx).2 w4) := by
     unfold styS
     rw [HPB.out]
     dsimp only
     cases hq : styleOk st.tree (prI xw) b with
     | true =>
      rw [hq] at hs4
      exact ⟨rfl, hs4⟩
     | false =>
      rw [hq] at hs4
      exact ⟨rfl, hs4⟩
    clear hs4
    generalize yesT (styleOk st.tree (prI xw) b) = out at *
    go_wp2
    go_ret
    exact ⟨by rw [← HR.out.1]; rfl, HR.out.2, HX.out⟩
end Go.Proofs.YthkkgleoikpfgaaGreatDoor
