/-
  Parts of the proof: Bld.
-/
import Derived.Deep.Cut
import Derived.IntWalk
import Derived.Lib.Builder
import Derived.Lib.AppendStr
import Derived.Laws.Externs
import Derived.OwnWalk
import Derived.Test.YthkkgleoikpfgaaGreatDoorKAa
namespace Go.Proofs.YthkkgleoikpfgaaGreatDoor
open Go Go.RowKit
/-- a builder in block b -/
abbrev BldA (B b : Nat) (p : Value) (bs : List Value) (w : World) : Prop := Lib.BuilderAt 48 5 B b p bs w
theorem bld_cell {B b : Nat} {p : Value} {bs : List Value} {w : World} (h : BldA B b p bs w) : w.cell? ⟨b, 0, none⟩ = some p ∧ w.frozen? ⟨b, 0, none⟩ = false := ⟨h.cell0, h.frozen0⟩
theorem bld_info : ∃ j : TypeInfo, Tryz.prog.info? 48 = some j ∧ j.size = 2 := by
 have h : (Tryz.prog.info? 48).map (·.size) = some 2 := by kernel_rfl
 exact Option.map_eq_some_iff.1 h
/-- .. with its row of bytes named -/
def BldV (B b : Nat) (v p : Value) (bs : List Value) (w : World) : Prop :=
 B ≤ b ∧ w.heap[b]? = some (.cells #[p, v] 48 (0, 0)) ∧ w.ownsRow B 5 1 v bs.length bs ∧ v.ownBlock ≠ some b
theorem BldV.at {B b : Nat} {v p : Value} {bs : List Value} {w : World} (h : BldV B b v p bs w) : BldA B b p bs w := ⟨h.1, v, h.2⟩
theorem set_grown (w : World) (b f : Nat) (u : Value) : w.grownBy (w.setCell ⟨b, f, none⟩ u) (some b) := ⟨rfl, rfl, rfl, by simp [World.setCell], fun k _ hk => Below.heap_setCell _ _ _ _ (fun e => hk (by simp [e]))⟩
theorem BldV.mark {B b : Nat} {v p : Value} {bs : List Value} {w : World} (h : BldV B b v p bs w) (q : Value) : BldV B b v q bs (w.setCell ⟨b, 0, none⟩ q) := by
 obtain ⟨hB, hb, hown, hne⟩ := h
 exact ⟨hB, by simp [World.setCell, Array.getElem?_modify, hb], hown.kept (row := some b) (set_grown w b 0 q) (Or.inr hne), hne⟩
theorem BldV.put {B b : Nat} {p v v' : Value} {bs' : List Value} {w : World} (hB : B ≤ b) (hb : w.heap[b]? = some (.cells #[p, v] 48 (0, 0))) (hown : w.ownsRow B 5 1 v' bs'.length bs') :
 BldV B b v' p bs' (w.setCell ⟨b, 1, none⟩ v') := by
 have hne := Lib.ownBlock_ne hown hb (by decide)
 exact ⟨hB, by simp [World.setCell, Array.getElem?_modify, hb], hown.kept (row := some b) (set_grown w b 1 v') (Or.inr hne), hne⟩
/-- nothing turned but block b and the row v -/
structure Two (b : Nat) (v : Value) (w w' : World) : Prop where
 os : w'.os = w.os
 tape : w'.tape = w.tape
 output : w'.output = w.output
 size : w.heap.size ≤ w'.heap.size
 block : ∀ k, k < w.heap.size → k ≠ b → v.ownBlock ≠ some k → w'.heap[k]? = w.heap[k]?
theorem Two.mk' {b : Nat} {v u : Value} {w w1 w2 : World} {f : Nat} (h1 : ∀ k, k ≠ b → w1.heap[k]? = w.heap[k]?) (ho : w1.os = w.os) (ht : w1.tape = w.tape) (hp : w1.output = w.output) (hs : w1.heap.size = w.heap.size) (h2 : w1.grownBy w2 v.ownBlock) : Two b v w (w2.setCell ⟨b, f, none⟩ u) := by
 refine ⟨h2.os.trans ho, h2.tape.trans ht, h2.output.trans hp, ?_, fun k hk hkb hkv => ?_⟩
 ·have := h2.size
  simp only [World.setCell, Array.size_modify]
  omega
 ·rw [Below.heap_setCell _ _ _ _ hkb, h2.block k (by omega) (fun e => hkv e.symm), h1 k hkb]
set_option maxRecDepth 100000 in
set_option maxHeartbeats 1000000 in
theorem copyCheck_any {B b : Nat} {v p : Value} {bs : List Value} (w : World) (h : BldV B b v p bs w) (hp : p = .pointer none ∨ p = .pointer (some ⟨b, 0, none⟩)) :
 Calls Tryz.prog 28 #[.pointer (some ⟨b, 0, none⟩)] w fun e w' => e = .returned (.tuple #[]) ∧ BldV B b v (.pointer (some ⟨b, 0, none⟩)) bs w' ∧ (w' = w ∨ w' = w.setCell ⟨b, 0, none⟩ (.pointer (some ⟨b, 0, none⟩))) := by
 obtain ⟨j, hj, hjs⟩ := bld_info
 rcases hp with rfl | rfl
 ·obtain ⟨c0, f0⟩ := bld_cell h.at
  have hs : w.shape? b = some (48, 2) := h.at.shape
  have HU := Lib.hid (h.mark (.pointer (some ⟨b, 0, none⟩)))
  have c1 : (w.setCell ⟨b, 0, none⟩ (.pointer (some ⟨b, 0, none⟩))).cell? ⟨b, 0, none⟩ = some (.pointer (some ⟨b, 0, none⟩)) := (bld_cell HU.out.at).1
  have k1 := Lib.run_to_unsafe (P := Tryz.prog) w ⟨b, 0, none⟩ Tryz.underlying46 Tryz.underlying79 hj (by rw [hjs]; decide) hs (Nat.zero_lt_succ 1)
  have k2 := Lib.run_from_unsafe (P := Tryz.prog) w ⟨b, 0, none⟩ Tryz.underlying79 Tryz.underlying46 hj hs (by kernel_rfl)
  have k3 := run_callFunc_extern (P := Tryz.prog) Tryz.func49 (by kernel_rfl) (by kernel_rfl) (by kernel_rfl) (e := Extern.AbiNoEscape.same) (by kernel_rfl) #[.pointer (some ⟨b, 0, none⟩)] w
  rw [Lib.run_noEscape] at k3
  have k4 := Lib.run_neq_ptr_same (P := Tryz.prog) (w.setCell ⟨b, 0, none⟩ (.pointer (some ⟨b, 0, none⟩))) ⟨b, 0, none⟩ Tryz.underlying46 hj
  clear h hs hjs hj
  go_enter Tryz.func28, Tryz.ntmps28
  go_wp2
  go_end0
  exact ⟨rfl, HU.out, .inr rfl⟩
 ·obtain ⟨c0, f0⟩ := bld_cell h.at
  have HH := Lib.hid h
  have k4 := Lib.run_neq_ptr_same (P := Tryz.prog) w ⟨b, 0, none⟩ Tryz.underlying46 hj
  clear h hjs hj
  go_enter Tryz.func28, Tryz.ntmps28
  go_wp2
  go_end0
  exact ⟨rfl, HH.out, .inl rfl⟩
theorem mark_or {b : Nat} {w w1 : World} (h : w1 = w ∨ w1 = w.setCell ⟨b, 0, none⟩ (.pointer (some ⟨b, 0, none⟩))) : (∀ k, k ≠ b → w1.heap[k]? = w.heap[k]?) ∧ w1.os = w.os ∧ w1.tape = w.tape ∧ w1.output = w.output ∧ w1.heap.size = w.heap.size := by
 rcases h with rfl | rfl
 ·exact ⟨fun _ _ => rfl, rfl, rfl, rfl, rfl⟩
 ·exact ⟨fun k hk => Below.heap_setCell _ _ _ _ hk, rfl, rfl, rfl, by simp [World.setCell]⟩
theorem byte_info : ∃ j : TypeInfo, Tryz.prog.info? 5 = some j ∧ j.zero = some (.int .u8 0) ∧ j.size = 1 ∧ j.bytes = 1 := by
 have h : (Tryz.prog.info? 5).map (fun i => (i.zero, i.size, i.bytes)) = some (some (.int .u8 0), 1, 1) := by kernel_rfl
 obtain ⟨j, hj, e⟩ := Option.map_eq_some_iff.1 h
 simp only [Prod.mk.injEq] at e
 exact ⟨j, hj, e.1, e.2.1, e.2.2⟩
/-- a text appended to a row of bytes: the same block or a new one -/
theorem str_stays {P : Program} (w : World) {base : Nat} {t u ty e : TypeId} {i : TypeInfo} (ht : P.underlying t = some (.slice e)) (hu : P.underlying u = some .string) (hi : P.info? e = some i) (hz : i.zero = some (.int .u8 0)) (hsize : i.size = 1) (hby : i.bytes = 1)
 {v : Value} {n : Nat} {xs : List Value} (hown : w.ownsRow base e 1 v n xs) (s : ByteArray) (hbytes : n + s.size ≤ 140737488355328) {v' : Value} {w' : World} (hrun : (Builtin.append_ #[t, u] ty #[v, .string s]).run P w = .ok v' w') (hnil : v' = .slice none 0 0 ↔ v = .slice none 0 0 ∧ s.size = 0) :
 v'.ownBlock = v.ownBlock ∨ v'.ownBlock = some w.heap.size := by
 rcases hown.2 with ⟨rfl, rfl⟩ | ⟨g, cap, cur, rfl, hbg, hg, hnc, hcm, hcs, htake⟩
 ·by_cases hm : s.size = 0
  ·rw [hnil.2 ⟨rfl, hm⟩]
   exact .inl rfl
  ·have hr := run_append_nil_string (P := P) w t u ty e i (.int .u8 0) ht hu hi hz s (by omega) (by omega) (by rw [hby]; omega)
   rw [hrun] at hr
   injection hr with h1 h2
   rw [h1]
   exact .inr rfl
 ·by_cases hroom : n + s.size ≤ cap
  ·have hcs' : cur.size = cap := by simpa using hcs
   have hr := Lib.run_append_room_string (P := P) w t u ty e i ht hu hi hsize g n cap cur hg s hroom (by omega)
   rw [hrun] at hr
   injection hr with h1 h2
   rw [h1]
   exact .inl rfl
  ·have holds : ∀ j u, xs[j]? = some u → w.cell? ((⟨g, 0, none⟩ : Addr).add j) = some u := hown.cells (g := g) rfl
   have hxl : xs.length = n := by simpa using hown.1
   have hr := Lib.run_append_grow_string (P := P) w t u ty e i (.int .u8 0) ht hu hi hz ⟨g, 0, none⟩ n cap xs (by rw [hsize]; simpa using hxl) holds s (by omega) (by omega) (by rw [hby]; exact growslice_fits (by omega) (by omega))
   rw [hrun] at hr
   injection hr with h1 h2
   rw [h1]
   exact .inr rfl
theorem wpList_appS {P : Program} (w : World) {ops : Array Oper} {rest : List Oper} {o : Oper} {a : Act} {Q : Exit → Act → World → Prop} (hgd : o.guard = none) (sl x : Operand) (t u : TypeId)
 (ho : o.op = .call { callee := .builtin .append, args := #[sl, x], argTypes := #[t, u] })
 (base : Nat) (e : TypeId) (i : TypeInfo) (ht : P.underlying t = some (.slice e)) (hu : P.underlying u = some .string) (hi : P.info? e = some i) (hz : i.zero = some (.int .u8 0))
 (hsize : i.size = 1) (hby : i.bytes = 1)
 (v : Value) (n : Nat) (xs : List Value) (hs : a.eval sl = v) (hown : w.ownsRow base e 1 v n xs) (s : ByteArray) (hx : a.eval x = .string s)
 (h63 : n + s.size ≤ maxLen) (hbytes : n + s.size ≤ 140737488355328) (hbase : base ≤ w.heap.size)
 (h : ∀ v' w', w'.ownsRow base e 1 v' (n + s.size) (xs ++ Lib.strCells s) → w.grownBy w' v.ownBlock → (v'.ownBlock = v.ownBlock ∨ v'.ownBlock = some w.heap.size) → wpList P ops Q rest (a.put o.dst v') w') : wpList P ops Q (o :: rest) a w := by
 refine wpList_plain hgd fun K hK => ?_
 obtain ⟨v', w', hr, h2, h3, h4⟩ := Lib.run_append_own_string (P := P) w base t u o.type e i ht hu hi hz hsize hby v n xs hown s h63 hbytes hbase
 have h5 := str_stays w ht hu hi hz hsize hby hown s hbytes hr h4
 unfold Oper.wp execOp
 simp only [ho, resolve, invoke, builtin, Sem.run_bind, Sem.run_pure, Result.andThen_ok, List.map_toArray, List.map_cons, List.map_nil, hs, hx, hr]
 exact hK _ _ (h v' w' h2 h3 h5)
set_option maxRecDepth 100000 in
set_option maxHeartbeats 1000000 in
theorem WriteString_any {B b : Nat} {v p : Value} {bs : List Value} (s : ByteArray) (w : World) (h : BldV B b v p bs w) (hp : p = .pointer none ∨ p = .pointer (some ⟨b, 0, none⟩)) (hlen : bs.length + s.size ≤ 140737488355328) (hBw : B ≤ w.heap.size) :
 Calls Tryz.prog 23 #[.pointer (some ⟨b, 0, none⟩), .string s] w fun e w' => ∃ v', e = .returned (.tuple #[.int .i64 s.size, .nilIface]) ∧ BldV B b v' (.pointer (some ⟨b, 0, none⟩)) (bs ++ Lib.strCells s) w' ∧ Two b v w w' ∧ (v'.ownBlock = v.ownBlock ∨ v'.ownBlock = some w.heap.size) := by
 obtain ⟨i0, hi, hz0, hz1, hz2⟩ := byte_info
 go_enter Tryz.func23, Tryz.ntmps23
 go_wp2_with (fail)
 refine (copyCheck_any _ h hp).mono ?_
 rintro e w1 ⟨rfl, ⟨hB, hbk, hown, hne⟩, hor⟩
 obtain ⟨hm1, hm2, hm3, hm4, hm5⟩ := mark_or hor
 have c0 : w1.cell? ⟨b, 0, none⟩ = some (.pointer (some ⟨b, 0, none⟩)) := by rw [Lib.cell_of_heap hbk]; rfl
 have c1 : w1.cell? ⟨b, 1, none⟩ = some v := by rw [Lib.cell_of_heap hbk]; rfl
 clear h hor
 go_wp2_with (at_builtin; refine wpList_appS _ rfl _ _ 22 9 rfl B 5 i0 Tryz.underlying22 Tryz.underlying9 hi hz0 hz1 hz2 _ _ _ rfl hown s rfl ?c3 ?c4 ?c5 ?_)
 case c3 => unfold maxLen; omega
 case c4 => omega
 case c5 => omega
 intro v' w2 hown' hgrow hst
 have hb2 : w2.heap[b]? = some (.cells #[.pointer (some ⟨b, 0, none⟩), v] 48 (0, 0)) := (hgrow.block b (Array.getElem?_eq_some_iff.1 hbk).1 (fun e => hne e.symm)).trans hbk
 have d1 : w2.cell? ⟨b, 1, none⟩ = some v := by rw [Lib.cell_of_heap hb2]; rfl
 have f1 : w2.frozen? ⟨b, 1, none⟩ = false := Lib.frozen_of_heap hb2 1
 have hl : (bs ++ Lib.strCells s).length = bs.length + s.size := by simp [Lib.strCells]
 have HP : Hid (BldV B b v' (.pointer (some ⟨b, 0, none⟩)) (bs ++ Lib.strCells s) (w2.setCell ⟨b, 1, none⟩ v')) := BldV.put hB hb2 (by rw [hl]; exact hown')
 have HB : Hid (Two b v w (w2.setCell ⟨b, 1, none⟩ v')) := Two.mk' hm1 hm2 hm3 hm4 hm5 hgrow
 try rw [hm5] at hst
 replace hst : Hid _ := hst
 obtain ⟨ao, n', cap, rfl⟩ : ∃ ao n' cap, v' = .slice ao n' cap := by
  rcases hown'.2 with ⟨hv, _⟩ | ⟨g, cap, cur, hv, _⟩
  ·exact ⟨_, _, _, hv⟩
  ·exact ⟨_, _, _, hv⟩
 clear hown hown' hgrow hbk hb2 hm1 hm2 hm3 hm4 hm5 c0 c1 hl hi hz0 hz1 hz2
 go_wp2
 go_ret2
 exact ⟨_, rfl, HP.out, HB.out, hst.out⟩
theorem el_byteB : EL Tryz.prog 22 5 (.int .u8 0) 1 1 :=
 ⟨by kernel_rfl, info_parts (by kernel_rfl), rfl, by decide, by decide⟩
theorem wpList_appB {P : Program} (w : World) {ops : Array Oper} {rest : List Oper} {o : Oper} {a : Act} {Q : Exit → Act → World → Prop} (hgd : o.guard = none) (sl x : Operand) (t : TypeId)
 (ho : o.op = .call { callee := .builtin .append, args := #[sl, x], argTypes := #[t, t] })
 (base : Nat) {e : TypeId} (E : EL P t e (.int .u8 0) 1 1)
 (v : Value) (n : Nat) (xs : List Value) (hs : a.eval sl = v) (hown : w.ownsRow base e 1 v n xs) (k : Nat) (c : Value) (hx : a.eval x = .slice (some ⟨k, 0, none⟩) 1 1) (hc : w.cell? ⟨k, 0, none⟩ = some c) (hc1 : c.oneCell' = true)
 (hbytes : n + 1 ≤ 1000000000) (hbase : base ≤ w.heap.size)
 (h : ∀ v' w', w'.ownsRow base e 1 v' (n + 1) (xs ++ [c]) → w.grownBy w' v.ownBlock → (v'.ownBlock = v.ownBlock ∨ ∃ k, v'.ownBlock = some k ∧ w.heap.size ≤ k) → wpList P ops Q rest (a.put o.dst v') w') : wpList P ops Q (o :: rest) a w := by
 refine wpList_plain hgd fun K hK => ?_
 obtain ⟨i, hi, hz, hsz, hby⟩ := E.info
 have hnews : ∀ (j : Nat) (u : Value), [c][j]? = some u → w.cell? ((⟨k, 0, none⟩ : Addr).add j) = some u := by
  intro j u hj
  match j, hj with
  | 0, hj =>
   simp at hj
   subst hj
   simpa [Addr.add] using hc
 have hone : ∀ u ∈ [c], u.oneCell' = true := by
  intro u hu
  simp at hu
  rw [hu]
  exact hc1
 obtain ⟨v', w', hr, h2, h3, h4⟩ := run_append_own (P := P) w base t o.type e i (.int .u8 0) 1 1 E.und hi hz hsz hby rfl (by decide) v n xs hown ⟨k, 0, none⟩ 1 1 [c] rfl hnews hone (by unfold maxLen; omega) (by omega) hbase
 have hO : Own w base 1 v xs := by
  refine (hown.2.elim ?_ ?_)
  ·rintro ⟨rfl, rfl⟩
   exact ⟨none, 0, 0, rfl, hown.1, Nat.le_refl _, Nat.zero_le _, .inl rfl⟩
  ·rintro ⟨g, cap, cur, rfl, hbg, hg, hnc, hcm, hcs, ht⟩
   exact ⟨_, n, cap, rfl, hown.1, hnc, hcm, .inr ⟨g, 0, cur, e, rfl, hbg, hg, by omega, by simpa using ht⟩⟩
 have hR : Rd w 1 (.slice (some ⟨k, 0, none⟩) 1 1) [c] := ⟨_, 1, 1, rfl, rfl, Nat.le_refl _, by unfold maxLen; omega, .inr ⟨k, 0, rfl, by
  intro j u hj
  match j, hj with
  | 0, hj =>
   simp at hj
   subst hj
   exact hc⟩⟩
 obtain ⟨v2, w2, hr2, _, _, h5⟩ := run_append_Own (P := P) (ty := o.type) E hO hR hone (by have := hown.1; simp at this ⊢; omega) hbase
 rw [hr] at hr2
 injection hr2 with e1 e2
 rw [← e1] at h5
 have h6 : v'.ownBlock = v.ownBlock ∨ ∃ k, v'.ownBlock = some k ∧ w.heap.size ≤ k := by
  rcases h2.2 with ⟨_, h0⟩ | ⟨g, cap, cur, hv', _, _, hnc, _⟩
  ·omega
  ·have hb : blk v' = some g := by
    rw [hv']
    show (if cap = 0 then none else some g) = some g
    rw [if_neg (by omega)]
   have hob : v'.ownBlock = some g := by rw [hv']; rfl
   rw [hob]
   rw [hb] at h5
   rcases h5 with h5 | ⟨q, hq, hq2⟩
   ·left
    unfold blk at h5
    split at h5
    ·split at h5
     ·cases h5
     ·exact h5
    ·cases h5
   ·exact .inr ⟨q, hq, hq2⟩
 unfold Oper.wp execOp
 simp only [ho, resolve, invoke, builtin, Sem.run_bind, Sem.run_pure, Result.andThen_ok, List.map_toArray, List.map_cons, List.map_nil, hs, hx, hr]
 exact hK _ _ (h v' w' h2 h3 h6)
set_option maxRecDepth 100000 in
set_option maxHeartbeats 1000000 in
theorem WriteByte_any {B b : Nat} {v p : Value} {bs : List Value} (c : Int) (w : World) (h : BldV B b v p bs w) (hp : p = .pointer none ∨ p = .pointer (some ⟨b, 0, none⟩)) (hlen : bs.length + 1 ≤ 1000000000) (hBw : B ≤ w.heap.size) :
 Calls Tryz.prog 25 #[.pointer (some ⟨b, 0, none⟩), .int .u8 c] w fun e w' => ∃ v', e = .returned .nilIface ∧ BldV B b v' (.pointer (some ⟨b, 0, none⟩)) (bs ++ [.int .u8 c]) w' ∧ Two b v w w' ∧ (v'.ownBlock = v.ownBlock ∨ ∃ k, v'.ownBlock = some k ∧ w.heap.size ≤ k) := by
 go_enter Tryz.func25, Tryz.ntmps25
 go_wp2_with (fail)
 refine (copyCheck_any _ h hp).mono ?_
 rintro e w1 ⟨rfl, ⟨hB, hbk, hown, hne⟩, hor⟩
 obtain ⟨hm1, hm2, hm3, hm4, hm5⟩ := mark_or hor
 have c0 : w1.cell? ⟨b, 0, none⟩ = some (.pointer (some ⟨b, 0, none⟩)) := by rw [Lib.cell_of_heap hbk]; rfl
 have c1 : w1.cell? ⟨b, 1, none⟩ = some v := by rw [Lib.cell_of_heap hbk]; rfl
 have hblt := (Array.getElem?_eq_some_iff.1 hbk).1
 have HM := Lib.hid (And.intro hm1 (And.intro hm2 (And.intro hm3 (And.intro hm4 hm5))))
 have hBw1 : B ≤ w1.heap.size := by omega
 clear h hor hm1 hm2 hm3 hm4 hm5
 go_wp2_with (at_builtin; refine wpList_appB _ rfl _ _ 22 rfl B el_byteB _ _ _ rfl (hown.alloc _) w1.heap.size (.int .u8 c) rfl ?c1 rfl hlen ?c3 ?_)
 case c1 => simp
 case c3 => simp; omega
 intro v' w2 hown' hgrow hst
 have hbk2 : (w1.alloc (.cells #[.int .u8 c] 5)).heap[b]? = some (.cells #[.pointer (some ⟨b, 0, none⟩), v] 48 (0, 0)) := (Below.heap_alloc _ _ _ hblt).trans hbk
 have hb2 : w2.heap[b]? = some (.cells #[.pointer (some ⟨b, 0, none⟩), v] 48 (0, 0)) := (hgrow.block b (Array.getElem?_eq_some_iff.1 hbk2).1 (fun e => hne e.symm)).trans hbk2
 have d1 : w2.cell? ⟨b, 1, none⟩ = some v := by rw [Lib.cell_of_heap hb2]; rfl
 have f1 : w2.frozen? ⟨b, 1, none⟩ = false := Lib.frozen_of_heap hb2 1
 have hl : (bs ++ [Value.int .u8 c]).length = bs.length + 1 := by simp
 have HP : Hid (BldV B b v' (.pointer (some ⟨b, 0, none⟩)) (bs ++ [.int .u8 c]) (w2.setCell ⟨b, 1, none⟩ v')) := BldV.put hB hb2 (by rw [hl]; exact hown')
 have HB : Hid (Two b v w (w2.setCell ⟨b, 1, none⟩ v')) := by
  obtain ⟨h1, h2, h3, h4, h5⟩ := HM.out
  have hsz := hgrow.size
  simp only [World.size_alloc] at hsz
  refine ⟨hgrow.os.trans h2, hgrow.tape.trans h3, hgrow.output.trans h4, ?_, fun k hk hkb hkv => ?_⟩
  ·simp only [World.setCell, Array.size_modify]
   omega
  ·rw [Below.heap_setCell _ _ _ _ hkb, hgrow.block k (by simp only [World.size_alloc]; omega) (fun e => hkv e.symm), Below.heap_alloc _ _ _ (by omega), h1 k hkb]
 have HS : Hid (v'.ownBlock = v.ownBlock ∨ ∃ k, v'.ownBlock = some k ∧ w.heap.size ≤ k) := by
  rcases hst with h1 | ⟨k, h1, h2⟩
  ·exact .inl h1
  ·have h3 := HM.out.2.2.2.2
   try simp only [World.size_alloc] at h2
   exact .inr ⟨k, h1, by omega⟩
 obtain ⟨ao, n', cap, rfl⟩ : ∃ ao n' cap, v' = .slice ao n' cap := by
  rcases hown'.2 with ⟨hv, _⟩ | ⟨g, cap, cur, hv, _⟩
  ·exact ⟨_, _, _, hv⟩
  ·exact ⟨_, _, _, hv⟩
 clear hown hown' hgrow hst hbk hb2 hbk2 c0 c1 hl HM
 go_wp2
 go_ret
 exact ⟨_, rfl, HP.out, HB.out, HS.out⟩
end Go.Proofs.YthkkgleoikpfgaaGreatDoor
