/-
  Reading texts back, of the reference: ParseTree.
-/
import Derived.Test.YtdlggpphfkjidaaGreatDoorSPb
import Derived.Test.YtdlggpphfkjidaaGreatDoorPtr
import Derived.Test.YtdlggpphfkjidaaGreatDoorEdit
import Derived.Test.YtdlggpphfkjidaaGreatDoorSpec
namespace Go.Proofs.YtdlggpphfkjidaaGreatDoor
open Go Go.RowKit

theorem Rd.takeG {w : World} {size : Nat} {a : Option Addr} {n c : Nat} {xs : List Value} (h : Rd w size (.slice a n c) xs) {m : Nat} (hm : m ≤ n) : Rd w size (.slice a m c) (xs.take (m * size)) := by
  obtain ⟨a2, n2, c2, e, hl, hn, hc, hx⟩ := h
  cases e
  have := Nat.mul_le_mul_right size hm
  refine ⟨a, m, c, rfl, by rw [List.length_take]; omega, by omega, hc, ?_⟩
  rcases hx with rfl | ⟨b, off, rfl, hx⟩
  · left
    rw [List.take_nil]
  · right
    refine ⟨b, off, rfl, fun j x hj => ?_⟩
    rw [List.getElem?_take] at hj
    split at hj
    · exact hx j x hj
    · cases hj
def natI (l : List Nat) : List Int := l.map fun x : Nat => (x : Int)
theorem natI_length (l : List Nat) : (natI l).length = l.length := by simp [natI]
theorem natI_get {l : List Nat} {k x : Nat} (h : l[k]? = some x) : (natI l)[k]? = some (x : Int) := by simp [natI, h]
theorem natI_take (l : List Nat) (n x : Nat) : Is (natI (l.take n ++ [x])) = (Is (natI l)).take (n * 1) ++ [.int .i64 (x : Int)] := by simp [natI, Is, List.map_take]
/-- a box and whether there is one, in a world of two lists: the tree so far and the open boxes -/
def PT (B : Nat) (W : World) (o p : Value) (out : List Bx) (path : List Nat) (w : World) : Prop :=
  Own w B 9 o (Bs out) ∧ Own w B 1 p (Is (natI path)) ∧ (∀ q, blk o = some q → blk p ≠ some q) ∧ Below B W w
theorem PT.ext {B : Nat} {W w w' : World} {o p : Value} {out : List Bx} {path : List Nat} (h : PT B W o p out path w) (hx : Ext w w') (hB : B ≤ W.heap.size) : PT B W o p out path w' :=
  ⟨h.1.below hx (Nat.le_refl _), h.2.1.below hx (Nat.le_refl _), h.2.2.1, after h.2.2.2 hx hB⟩
theorem PT.drew {B : Nat} {W w : World} {o p : Value} {out : List Bx} {path : List Nat} (h : PT B W o p out path w) : PT B W o p out path w.drew := ⟨h.1.drew, h.2.1.drew, h.2.2.1, h.2.2.2.drew⟩
theorem PT.set {B g : Nat} {W w : World} {o p : Value} {out : List Bx} {path : List Nat} (h : PT B W o p out path w) (ho : blk o ≠ some g) (hp : blk p ≠ some g) (hg : B ≤ g) (f : Nat) (u : Value) : PT B W o p out path (w.setCell ⟨g, f, none⟩ u) :=
  ⟨h.1.setOther (p := ⟨g, f, none⟩) ho u, h.2.1.setOther (p := ⟨g, f, none⟩) hp u, h.2.2.1, h.2.2.2.setCell (p := ⟨g, f, none⟩) hg u⟩
theorem dash_get : ∀ (s : List UInt8) (m : Nat), m < dashes s → s[m]? = some 45
  | [], _, h => absurd h (Nat.not_lt_zero _)
  | c :: t, m, h => by
    unfold dashes at h
    split at h
    · rename_i hc
      cases m with
      | zero => rw [hc]; rfl
      | succ m => exact dash_get t m (by omega)
    · omega
theorem dash_end : ∀ (s : List UInt8), s[dashes s]? ≠ some 45
  | [], h => by cases h
  | c :: t, h => by
    unfold dashes at h
    split at h
    · exact dash_end t h
    · rename_i hc
      exact hc (Option.some.inj h)
theorem rd_word {w : World} {l : List (List UInt8)} {b off n c k : Nat} {x : List UInt8} (h : Rd w 1 (.slice (some ⟨b, off, none⟩) n c) (Ss l)) (hk : l[k]? = some x) : w.cell? ⟨b, off + k, none⟩ = some (.string ⟨x.toArray⟩) := by
  obtain ⟨a2, c2, e, _, _, hx⟩ := h.strs
  cases e
  obtain ⟨b, off, hb, hj⟩ := hx k x hk
  cases hb
  exact hj k x hk
theorem rd_int {w : World} {a : Option Addr} {n c k : Nat} {l : List Int} {x : Int} (h : Rd w 1 (.slice a n c) (Is l)) (hk : l[k]? = some x) : ∃ b off, a = some ⟨b, off, none⟩ ∧ w.cell? ⟨b, off + k, none⟩ = some (.int .i64 x) := by
  obtain ⟨a', c', e, _, _, hC⟩ := h.ints
  obtain ⟨b, off, e2, hC2⟩ := hC k x hk
  simp only [Value.slice.injEq] at e
  obtain ⟨rfl, _, rfl⟩ := e
  exact ⟨b, off, e2, hC2 k x hk⟩
theorem ext_app1 {w w' : World} {a : Option Addr} {n : Nat} (hg : w.grownBy w' (blk (.slice a n 0))) : Ext w w' := by
  have : blk (.slice a n 0) = none := by cases a <;> simp [blk]
  rw [this] at hg
  exact ⟨hg.os, hg.tape, hg.output, hg.size, fun k hk => hg.block k hk (by simp)⟩
/-- the block of a list that grew out of nothing -/
theorem blk_new {v : Value} {a : Option Addr} {n N : Nat} (hf : blk v = blk (.slice a n 0) ∨ ∃ k, blk v = some k ∧ N ≤ k) : ∀ q, q < N → blk v ≠ some q := by
  have hb0 : blk (.slice a n 0) = none := by cases a <;> simp [blk]
  intro q hq e
  rcases hf with e1 | ⟨k, e1, e2⟩
  · rw [e1, hb0] at e
    cases e
  · rw [e1] at e
    cases e
    omega
theorem blk_grown {v v' : Value} {N : Nat} {q : Nat} (hf : blk v' = blk v ∨ ∃ k, blk v' = some k ∧ N ≤ k) (hv : blk v ≠ some q) (hq : q < N) : blk v' ≠ some q := by
  intro e
  rcases hf with e1 | ⟨k, e1, e2⟩
  · rw [e1] at e
    exact hv e
  · rw [e1] at e
    cases e
    omega
theorem blk_apart {v v' : Value} (h : ∀ q, blk v = some q → blk v' ≠ some q) : blk v = none ∨ blk v ≠ blk v' := by
  cases hb : blk v with
  | none => exact .inl rfl
  | some q => exact .inr fun e => h q hb e.symm
def resT : Option (List Bx) → Bool
  | some _ => true
  | none => false
def listT : Option (List Bx) → List Bx
  | some l => l
  | none => []
theorem run_prefix {ls : List (List UInt8)} {k : Nat} {ln : List UInt8} (hk : ls[k]? = some ln) {st : PSt} (h : runP (ls.take k) ([], []) = some st) : runP (ls.take (k + 1)) ([], []) = stepP st ln := by
  rw [show ls.take (k + 1) = ls.take k ++ [ln] from by rw [List.take_add_one, hk]; rfl, runP_app, h]
  rfl
theorem run_fail {ls : List (List UInt8)} {k : Nat} (h : runP (ls.take k) ([], []) = none) : runP ls ([], []) = none := by
  conv => lhs; rw [← List.take_append_drop k ls]
  rw [runP_more, h]
  rfl
theorem parse_none {s : List UInt8} (h : runP (splitB 10 s) ([], []) = none) : parseT s = none := by
  unfold parseT
  rw [h]
theorem parse_of {s : List UInt8} {st : PSt} (h : runP (splitB 10 s) ([], []) = some st) : parseT s = if vldB st.1 = true then some st.1 else none := by
  unfold parseT
  rw [h]
theorem run_len {ls : List (List UInt8)} {st : PSt} (h : runP ls ([], []) = some st) : ls.length = st.1.length ∧ st.2.length ≤ st.1.length ∧ (∀ x, x ∈ st.2 → x < st.1.length) ∧ (st.1.length = 0 → st.2 = []) := by
  have hi := InvP.run ls [] (out' := st.1) (path' := st.2) InvP.nil h
  rw [List.nil_append] at hi
  refine ⟨hi.len, ?_, hi.le, fun e => ?_⟩
  · rw [hi.path]
    split
    · exact Nat.zero_le _
    · rename_i hne
      have := List.length_pos_iff.2 hne
      rw [List.length_reverse]
      have := anc_length st.1 (st.1.length - 1)
      omega
  · have e2 : st.1 = [] := List.eq_nil_of_length_eq_zero e
    have := hi.path
    rw [if_pos e2] at this
    exact this
theorem parse_long {s : List UInt8} (h : 16 < (splitB 10 s).length) : parseT s = none := by
  cases hr : runP (splitB 10 s) ([], []) with
  | none => exact parse_none hr
  | some st =>
    rw [parse_of hr, if_neg]
    intro hv
    have := (vldB_iff.1 hv).hi
    have := (run_len hr).1
    omega
set_option maxRecDepth 100000 in
set_option maxHeartbeats 1600000 in
theorem sParseTree_any (s : List UInt8) (w : World) (hs : s.length ≤ 2000000) :
    Calls Tryz.prog 11 #[sv s] w fun e w' => ∃ v, e = .returned (.tuple #[v, .bool (resT (parseT s))]) ∧ Own w' w.heap.size 9 v (Bs (listT (parseT s))) ∧ Ext w w' := by
  have HSM := Lib.hid (splitB_len 10 s)
  have hcnt := splitB_count 10 s
  have hwne := splitB_ne 10 s
  have HLONG := Lib.hid (parse_long (s := s))
  have HNONE := Lib.hid (parse_none (s := s))
  have HOF := Lib.hid (fun st => parse_of (s := s) (st := st))
  unfold sv
  go_enter Tryz.func11, Tryz.ntmps11
  go_wp2_with (fail)
  refine (splitAt_any s 10 _ hs).mono ?_
  rintro e w1 ⟨v1, rfl, ho1, hx1⟩
  have hb1 := after (Below.of_alloc w _) hx1 (Nat.le_refl _)
  clear hx1
  generalize splitB 10 s = ls at *
  have hL := ho1.rd
  obtain ⟨aL, cL, rfl, hnL, hcL, hce⟩ := hL.strs
  obtain ⟨x0, hx0⟩ : ∃ x, ls[0]? = some x := ⟨_, List.getElem?_eq_getElem (List.length_pos_iff.2 hwne)⟩
  obtain ⟨bL, offL, rfl, _⟩ := hce 0 x0 hx0
  clear ho1 hce hx0
  unfold maxLen at hcL
  have hpos : 0 < ls.length := List.length_pos_iff.2 hwne
  by_cases h16 : 16 < ls.length
  · have hi16 : (16 : Int) < ls.length := by omega
    have HP := Lib.hid (HLONG.out h16)
    go_wp2
    go_ret2
    exact ⟨_, by rw [HP.out]; rfl, by rw [HP.out]; exact Own.nil _ _ _, hb1⟩
  · have hi16 : ¬ (16 : Int) < ls.length := by omega
    go_upto_region 6 with fail
    replace hb1 := hb1.alloc hb1.size (.cells #[] 3)
    replace hL := hL.alloc (.cells #[] 3)
    generalize w1.heap.size = g1 at *
    generalize w1.alloc (.cells #[] 3) = W1 at *
    have HL := Lib.hid hL
    clear hL hcnt hwne HLONG
    go_wp2
    go_loopw [4, 6, 7] (fun o p i wr => ∃ (k : Nat) (out : List Bx) (path : List Nat), i = .int .i64 k ∧ k ≤ ls.length ∧ runP (ls.take k) ([], []) = some (out, path) ∧ (∃ b off n c, p = .slice (some ⟨b, off, none⟩) n c) ∧ PT W1.heap.size W1 o p out path wr) (fun _ _ i _ => ls.length - (intOf i).toNat)
    case atStart => exact ⟨0, [], [], rfl, Nat.zero_le _, rfl, ⟨_, _, _, _, rfl⟩, Own.empty _ _ _ _, Own.empty _ _ _ _, fun q hq => by simp [blk] at hq, Below.refl _ _⟩
    case round =>
      obtain ⟨k, out, path, rfl, hk, hrun, ⟨bp, op_, np_, cp, rfl⟩, hpt⟩ := hrel
      obtain ⟨hlen, hpl, hpm, hp0⟩ := run_len hrun
      rw [List.length_take, Nat.min_eq_left hk] at hlen
      dsimp only at hlen hpl hpm hp0
      by_cases hlt : k < ls.length
      · have hki : (k : Int) < ls.length := by omega
        have hk0 : (0 : Int) ≤ (k : Int) := by omega
        obtain ⟨ln, hln⟩ : ∃ ln, ls[k]? = some ln := ⟨_, List.getElem?_eq_getElem hlt⟩
        have HS := Lib.hid (run_prefix hln hrun)
        have HF := Lib.hid (run_fail (ls := ls) (k := k + 1))
        have hll := HSM.out ln (List.mem_of_getElem? hln)
        have HDG := Lib.hid (dash_get ln)
        have HDE := Lib.hid (dash_end ln)
        have hdl := dash_le ln
        have HEX : Hid (∀ f, (⟨ln.toArray⟩ : ByteArray).extract f ln.length = ⟨(ln.drop f).toArray⟩) := fun f => (ba_extract ln f ln.length).trans (by rw [← List.length_drop, List.take_length])
        unfold stepP at HS
        dsimp only at HS
        generalize dashes ln = n at *
        obtain ⟨ao, co, rfl, hno, hco, _⟩ := hpt.1.rd.boxes
        obtain ⟨ap, cp2, e_, hnp, hcp, _⟩ := hpt.2.1.rd.ints
        simp only [Value.slice.injEq] at e_
        obtain ⟨rfl, rfl, rfl⟩ := e_
        unfold maxLen at hco hcp
        rw [natI_length] at hnp
        rw [natI_length] at hpt ⊢
        clear hrun
        subst hlen
        go_wp2
        go_loopw [8] (fun i wr' => ∃ m : Nat, i = .int .i64 m ∧ m ≤ n ∧ PT W1.heap.size W1 (.slice ao out.length co) (.slice (some ⟨bp, op_, none⟩) path.length cp) out path wr') (fun i _ => n - (intOf i).toNat)
        case atStart => exact ⟨0, rfl, Nat.zero_le _, hpt⟩
        case round =>
          clear hpt
          obtain ⟨m, rfl, hm, hpt⟩ := hrel
          have cl := rd_word (HL.out.below hpt.2.2.2 (Nat.le_refl _)) hln
          by_cases hmn : m < n
          · have hd := HDG.out m hmn
            have hz0 : m < (⟨ln.toArray⟩ : ByteArray).size := by show m < ln.length; omega
            have e0 := byte_at hd hz0
            have hmi : (m : Int) < ln.length := by omega
            have hm0 : (0 : Int) ≤ (m : Int) := by omega
            clear hd
            go_wp2
            go_roundw
            case rel => exact ⟨m + 1, by go_num, by omega, by first | exact hpt | exact hpt.drew⟩
            case measure => simp [intOf]; omega
          · obtain rfl : m = n := by omega
            by_cases hml : m < ln.length
            · obtain ⟨d, hd⟩ : ∃ d, ln[m]? = some d := ⟨_, List.getElem?_eq_getElem hml⟩
              have hz0 : m < (⟨ln.toArray⟩ : ByteArray).size := hml
              have e0 := byte_at hd hz0
              have hmi : (m : Int) < ln.length := by omega
              have hm0 : (0 : Int) ≤ (m : Int) := by omega
              have hne : (d.toNat == (45 : UInt8).toNat) = false := beq_eq_false_iff_ne.2 (fun e => HDE.out (by rw [hd, UInt8.toNat_inj.1 e]))
              have hni : ((d.toNat : Int) == 45) = false := beq_eq_false_iff_ne.2 (fun e => HDE.out (by rw [hd, UInt8.toNat_inj.1 (show d.toNat = (45 : UInt8).toNat by show d.toNat = 45; omega)]))
              clear hd HDG HDE
              go_upto_region 12 with fail
              clear cl
              have cl := rd_word (HL.out.below hpt.2.2.2 (Nat.le_refl _)) hln
              go_wp2_with (fail)
              rw [HEX.out]
              refine (sparseBox_any (ln.drop m) _ (by rw [List.length_drop]; omega)).mono ?_
              rintro e W7 ⟨rfl, hx7⟩
              replace hpt := hpt.ext hx7 (Nat.le_refl _)
              clear cl hx7 hln
              cases hp : pB (ln.drop m) with
              | none =>
                rw [hp] at HS
                have HP := Lib.hid (HNONE.out (HF.out HS.out))
                have HB := Lib.hid (hb1.trans (hpt.2.2.2.mono hb1.size))
                replace HB := Lib.hid (HB.out.alloc HB.out.size (.cells zb.arr 39))
                clear hpt hp HS HF HEX
                unfold resB Bx.agg zb
                go_wp2
                go_ret2
                exact ⟨_, by rw [HP.out]; rfl, by rw [HP.out]; exact Own.nil _ _ _, HB.out⟩
              | some b =>
                rw [hp] at HS
                replace HS : Hid (runP (ls.take (out.length + 1)) ([], []) = if path.length < m ∨ 0 < out.length ∧ m = 0 then none else some (out ++ [b.at (parOf path m)], path.take m ++ [out.length])) := HS
                clear hp HEX
                unfold resB Bx.agg
                by_cases c1 : path.length < m
                · have ci : (path.length : Int) < m := by omega
                  have HP := Lib.hid (HNONE.out (HF.out (by rw [HS.out, if_pos (.inl c1)])))
                  have HB := Lib.hid (hb1.trans (hpt.2.2.2.mono hb1.size))
                  replace HB := Lib.hid (HB.out.alloc HB.out.size (.cells b.arr 39))
                  clear hpt HS HF
                  go_wp2
                  go_ret2
                  exact ⟨_, by rw [HP.out]; rfl, by rw [HP.out]; exact Own.nil _ _ _, HB.out⟩
                · have ci : ¬ (path.length : Int) < m := by omega
                  by_cases c2 : 0 < out.length
                  · have ci2 : (0 : Int) < out.length := by omega
                    by_cases c3 : m = 0
                    · subst c3
                      have HP := Lib.hid (HNONE.out (HF.out (by rw [HS.out, if_pos (.inr ⟨c2, rfl⟩)])))
                      have HB := Lib.hid (hb1.trans (hpt.2.2.2.mono hb1.size))
                      replace HB := Lib.hid (HB.out.alloc HB.out.size (.cells b.arr 39))
                      clear hpt HS HF
                      go_wp2
                      go_ret2
                      exact ⟨_, by rw [HP.out]; rfl, by rw [HP.out]; exact Own.nil _ _ _, HB.out⟩
                    · replace HS := Lib.hid (HS.out.trans (if_neg (by omega)))
                      have hm0 : (0 : Int) < m := by omega
                      have hmz : ((m : Int) == 0) = false := beq_eq_false_iff_ne.2 (by omega)
                      have kx := Keep.new W7 (.cells b.arr 39)
                      have hbo := hpt.1.noBlk
                      have hbp := hpt.2.1.noBlk
                      have hg8 := hpt.2.2.2.size
                      replace hpt := hpt.ext (Below.of_alloc W7 (.cells b.arr 39)) (Nat.le_refl _)
                      clear HF
                      go_upto_region 15 with fail
                      change Code.wp _ _ _ _ (W7.alloc (.cells b.arr 39))
                      generalize W7.alloc (.cells b.arr 39) = W8 at *
                      generalize W7.heap.size = g8 at *
                      have d0 : W8.cell? ⟨g8, 0, none⟩ = some (.int .i64 b.parent) := kx.cell 0
                      have z0 := kx.frozen 0
                      replace kx : Keep g8 (.cells (b.at (-1)).arr 39) (W8.setCell ⟨g8, 0, none⟩ (.int .i64 (-1))) := kx.store 0 _
                      replace hpt := hpt.set hbo hbp hg8 0 (.int .i64 (-1))
                      go_upto_region 17 with fail
                      clear d0 z0
                      generalize W8.setCell ⟨g8, 0, none⟩ (.int .i64 (-1)) = W9 at *
                      have hml : m - 1 < path.length := by omega
                      obtain ⟨q, hq⟩ : ∃ q, path[m - 1]? = some q := ⟨_, List.getElem?_eq_getElem hml⟩
                      have hpq : parOf path m = (q : Int) := by
                        unfold parOf
                        rw [if_neg c3, List.getD_eq_getElem?_getD, hq]
                        rfl
                      obtain ⟨bP, offP, e_, cq⟩ := rd_int hpt.2.1.rd (natI_get hq)
                      simp only [Option.some.injEq, Addr.mk.injEq] at e_
                      obtain ⟨rfl, rfl, _⟩ := e_
                      have d0 : W9.cell? ⟨g8, 0, none⟩ = some (.int .i64 (-1)) := kx.cell 0
                      have z0 := kx.frozen 0
                      replace kx : Keep g8 (.cells (b.at (q : Int)).arr 39) (W9.setCell ⟨g8, 0, none⟩ (.int .i64 (q : Int))) := kx.store 0 _
                      replace hpt := hpt.set hbo hbp hg8 0 (.int .i64 (q : Int))
                      have hj : ((m : Int) - 1).toNat = m - 1 := by omega
                      go_upto_region 18 with fail
                      clear d0 z0 cq hj
                      generalize W9.setCell ⟨g8, 0, none⟩ (.int .i64 (q : Int)) = WX at *
                      rw [← hpq] at kx
                      have hmp : m ≤ path.length := by omega
                      generalize b.at (parOf path m) = x at *
                      clear hq hpq c3 hmz hm0
                      have hr1 := (hpt.2.1.rd.alloc (.cells #[] 3)).takeG hmp
                      replace hpt := hpt.ext (Below.of_alloc _ (.cells #[] 3)) (Nat.le_refl _)
                      have hgx := kx.lt
                      replace kx := kx.alloc (.cells #[] 3)
                      have hcap : ((m : Nat) : Int) ≤ cp := by omega
                      have hm00 : (0 : Int) ≤ ((m : Nat) : Int) := by omega
                      go_wp2_with (at_builtin; refine wpList_app rfl _ _ _ rfl el_int rfl (Own.empty _ W1.heap.size 1 _) rfl hr1 (fun y hy => Is_one _ y (List.mem_of_mem_take hy)) ?hl1a ?hb1a ?hK1a)
                      case hl1a => rw [List.length_take, Is_length, natI_length, List.length_nil]; omega
                      case hb1a => have := hpt.2.2.2.size; simp at this ⊢; omega
                      intro v1 X3 ho1 hg1 hf1
                      have hx3 := ext_app1 hg1
                      replace hf1 := blk_new hf1
                      have hsz3 := hx3.size
                      replace kx := keepE kx hx3
                      have hoO := hpt.1.below hx3 (Nat.le_refl _)
                      have hbl := after hpt.2.2.2 hx3 (Nat.le_refl _)
                      have hdis : ∀ q, blk (.slice ao out.length co) = some q → blk v1 ≠ some q := fun q hq => hf1 q (by have := (hpt.1.lt _ hq).2; rw [World.size_alloc] at this; exact this)
                      have hv1g : blk v1 ≠ some g8 := hf1 g8 (by omega)
                      clear hpt hr1 hg1 hf1 hx3
                      have hg83 := kx.lt
                      go_wp2_with (at_builtin; refine wpList_app rfl _ _ _ rfl el_int rfl (ho1.alloc _) rfl (Rd.oneAt _ _ (by simp)) (Is_one [(out.length : Int)]) ?hl2a ?hb2a ?hK2a)
                      try case hl2a => have h0 : (Is (natI path)).length = path.length := (Is_length _).trans (natI_length _); simp; omega
                      case hb2a => have := hbl.size; simp; omega
                      intro v2 X5 ho2 hg2 hf2
                      replace ho2 : Own X5 W1.heap.size 1 v2 (Is (natI (path.take m ++ [out.length]))) := by rw [natI_take]; simpa using ho2
                      have hoO2 := (hoO.alloc _).kept hg2 (blk_apart hdis)
                      have hdis2 : ∀ q, blk (.slice ao out.length co) = some q → blk v2 ≠ some q := fun q hq => blk_grown hf2 (hdis q hq) (by have := (hoO.lt _ hq).2; omega)
                      have hbl2 := below_app (hbl.alloc hbl.size _) (ho1.alloc _) hg2 (by have := hbl.size; simp; omega) (Nat.le_refl _)
                      have kx5 : Keep g8 (.cells x.arr 39) X5 := by
                        unfold Keep
                        rw [hg2.block g8 (kx.alloc _).lt (fun e => hv1g e.symm)]
                        exact kx.alloc _
                      clear hoO hdis hbl ho1 hg2 hf2 kx
                      have d0 : X5.cell? ⟨g8, 0, none⟩ = some (.int .i64 x.parent) := kx5.cell 0
                      have d1 : X5.cell? ⟨g8, 1, none⟩ = some (.int .i64 x.kind) := kx5.cell 1
                      have d2 : X5.cell? ⟨g8, 2, none⟩ = some (.int .i64 x.w) := kx5.cell 2
                      have d3 : X5.cell? ⟨g8, 3, none⟩ = some (.int .i64 x.h) := kx5.cell 3
                      have d4 : X5.cell? ⟨g8, 4, none⟩ = some (.int .i64 x.pad) := kx5.cell 4
                      have d5 : X5.cell? ⟨g8, 5, none⟩ = some (.int .i64 x.gap) := kx5.cell 5
                      have d6 : X5.cell? ⟨g8, 6, none⟩ = some (.int .i64 x.grow) := kx5.cell 6
                      have d7 : X5.cell? ⟨g8, 7, none⟩ = some (.int .i64 x.shrink) := kx5.cell 7
                      have d8 : X5.cell? ⟨g8, 8, none⟩ = some (.int .i64 x.justify) := kx5.cell 8
                      go_wp2_with (at_builtin; refine wpList_app rfl _ _ _ rfl el_box rfl (hoO2.alloc _) rfl (Rd.oneAt x.arr 39 (by simp)) (Bx.vals_one _) ?hl3a ?hb3a ?hK3a)
                      case hl3a => rw [Bs_length]; simp [Bx.arr]; omega
                      case hb3a => have := hbl2.size; simp; omega
                      intro v3 X7 ho3 hg3 hf3
                      replace ho3 : Own X7 W1.heap.size 9 v3 (Bs (out ++ [x])) := by rw [Bs_append]; exact ho3
                      have hp3 := (ho2.alloc _).kept hg3 (blk_apart fun q hq e => hdis2 q e hq)
                      have hdis3 : ∀ q, blk v3 = some q → blk v2 ≠ some q := fun q hq e => blk_grown (q := q) hf3 (fun e2 => hdis2 q e2 e) (by have := (ho2.lt _ e).2; omega) hq
                      have hbl3 := below_app (hbl2.alloc hbl2.size _) (hoO2.alloc _) hg3 (by have := hbl2.size; simp; omega) (Nat.le_refl _)
                      obtain ⟨_, _, _, _, hv2, _, _, _, _⟩ := hp3.cells (by
                        intro e
                        have := congrArg List.length e
                        rw [Is_length, natI_length, List.length_append, List.length_nil] at this
                        simp at this)
                      clear ho2 hoO2 hdis2 hbl2 hg3 hf3 d0 d1 d2 d3 d4 d5 d6 d7 d8 kx5
                      go_wp2
                      go_roundw
                      case rel => exact ⟨out.length + 1, out ++ [x], path.take m ++ [out.length], by go_num, by omega, HS.out, ⟨_, _, _, _, hv2⟩, ho3, hp3, hdis3, hbl3⟩
                      case measure => simp [intOf]; omega
                  · obtain rfl : m = 0 := by rw [hp0 (by omega)] at c1; simp at c1; omega
                    replace HS := Lib.hid (HS.out.trans (if_neg (by omega)))
                    have ci2 : ¬ (0 : Int) < out.length := by omega
                    have kx := Keep.new W7 (.cells b.arr 39)
                    have hbo := hpt.1.noBlk
                    have hbp := hpt.2.1.noBlk
                    have hg8 := hpt.2.2.2.size
                    replace hpt := hpt.ext (Below.of_alloc W7 (.cells b.arr 39)) (Nat.le_refl _)
                    clear HF
                    go_upto_region 15 with fail
                    change Code.wp _ _ _ _ (W7.alloc (.cells b.arr 39))
                    generalize W7.alloc (.cells b.arr 39) = W8 at *
                    generalize W7.heap.size = g8 at *
                    have d0 : W8.cell? ⟨g8, 0, none⟩ = some (.int .i64 b.parent) := kx.cell 0
                    have z0 := kx.frozen 0
                    replace kx : Keep g8 (.cells (b.at (-1)).arr 39) (W8.setCell ⟨g8, 0, none⟩ (.int .i64 (-1))) := kx.store 0 _
                    replace hpt := hpt.set hbo hbp hg8 0 (.int .i64 (-1))
                    go_upto_region 18 with fail
                    clear d0 z0
                    generalize W8.setCell ⟨g8, 0, none⟩ (.int .i64 (-1)) = W9 at *
                    have hmp : 0 ≤ path.length := by omega
                    replace kx : Keep g8 (.cells (b.at (parOf path 0)).arr 39) W9 := kx
                    generalize b.at (parOf path 0) = x at *
                    generalize W9 = WX at *
                    have hgx := kx.lt
                    have ho1 : Own (WX.alloc (.cells #[] 3)) W1.heap.size 1 (.slice (some ⟨WX.heap.size, 0, none⟩) 0 0) ((Is (natI path)).take (0 * 1)) := Own.empty _ _ _ _
                    replace hpt := hpt.ext (Below.of_alloc _ (.cells #[] 3)) (Nat.le_refl _)
                    replace kx := kx.alloc (.cells #[] 3)
                    have hoO := hpt.1
                    have hbl := hpt.2.2.2
                    have hdis : ∀ q, blk (.slice ao out.length co) = some q → blk (.slice (some ⟨WX.heap.size, 0, none⟩) 0 0) ≠ some q := fun q hq e => by simp [blk] at e
                    have hv1g : blk (.slice (some ⟨WX.heap.size, 0, none⟩) 0 0) ≠ some g8 := fun e => by simp [blk] at e
                    clear hpt
                    generalize hX3 : WX.alloc (.cells #[] 3) = X3 at *
                    have hg83 := kx.lt
                    go_wp2_with (at_builtin; refine wpList_app rfl _ _ _ rfl el_int rfl (ho1.alloc _) rfl (Rd.oneAt _ _ (by simp)) (Is_one [(out.length : Int)]) ?hl2az ?hb2az ?hK2az)
                    try case hl2az => have h0 : (Is (natI path)).length = path.length := (Is_length _).trans (natI_length _); simp; omega
                    case hb2az => have := hbl.size; simp; omega
                    intro v2 X5 ho2 hg2 hf2
                    replace ho2 : Own X5 W1.heap.size 1 v2 (Is (natI (path.take 0 ++ [out.length]))) := by rw [natI_take]; simpa using ho2
                    have hoO2 := (hoO.alloc _).kept hg2 (blk_apart hdis)
                    have hdis2 : ∀ q, blk (.slice ao out.length co) = some q → blk v2 ≠ some q := fun q hq => blk_grown hf2 (hdis q hq) (by have := (hoO.lt _ hq).2; omega)
                    have hbl2 := below_app (hbl.alloc hbl.size _) (ho1.alloc _) hg2 (by have := hbl.size; simp; omega) (Nat.le_refl _)
                    have kx5 : Keep g8 (.cells x.arr 39) X5 := by
                      unfold Keep
                      rw [hg2.block g8 (kx.alloc _).lt (fun e => hv1g e.symm)]
                      exact kx.alloc _
                    clear hoO hdis hbl ho1 hg2 hf2 kx
                    have d0 : X5.cell? ⟨g8, 0, none⟩ = some (.int .i64 x.parent) := kx5.cell 0
                    have d1 : X5.cell? ⟨g8, 1, none⟩ = some (.int .i64 x.kind) := kx5.cell 1
                    have d2 : X5.cell? ⟨g8, 2, none⟩ = some (.int .i64 x.w) := kx5.cell 2
                    have d3 : X5.cell? ⟨g8, 3, none⟩ = some (.int .i64 x.h) := kx5.cell 3
                    have d4 : X5.cell? ⟨g8, 4, none⟩ = some (.int .i64 x.pad) := kx5.cell 4
                    have d5 : X5.cell? ⟨g8, 5, none⟩ = some (.int .i64 x.gap) := kx5.cell 5
                    have d6 : X5.cell? ⟨g8, 6, none⟩ = some (.int .i64 x.grow) := kx5.cell 6
                    have d7 : X5.cell? ⟨g8, 7, none⟩ = some (.int .i64 x.shrink) := kx5.cell 7
                    have d8 : X5.cell? ⟨g8, 8, none⟩ = some (.int .i64 x.justify) := kx5.cell 8
                    go_wp2_with (at_builtin; refine wpList_app rfl _ _ _ rfl el_box rfl (hoO2.alloc _) rfl (Rd.oneAt x.arr 39 (by simp)) (Bx.vals_one _) ?hl3az ?hb3az ?hK3az)
                    case hl3az => rw [Bs_length]; simp [Bx.arr]; omega
                    case hb3az => have := hbl2.size; simp; omega
                    intro v3 X7 ho3 hg3 hf3
                    replace ho3 : Own X7 W1.heap.size 9 v3 (Bs (out ++ [x])) := by rw [Bs_append]; exact ho3
                    have hp3 := (ho2.alloc _).kept hg3 (blk_apart fun q hq e => hdis2 q e hq)
                    have hdis3 : ∀ q, blk v3 = some q → blk v2 ≠ some q := fun q hq e => blk_grown (q := q) hf3 (fun e2 => hdis2 q e2 e) (by have := (ho2.lt _ e).2; omega) hq
                    have hbl3 := below_app (hbl2.alloc hbl2.size _) (hoO2.alloc _) hg3 (by have := hbl2.size; simp; omega) (Nat.le_refl _)
                    obtain ⟨_, _, _, _, hv2, _, _, _, _⟩ := hp3.cells (by
                      intro e
                      have := congrArg List.length e
                      rw [Is_length, natI_length, List.length_append, List.length_nil] at this
                      simp at this)
                    clear ho2 hoO2 hdis2 hbl2 hg3 hf3 d0 d1 d2 d3 d4 d5 d6 d7 d8 kx5
                    go_wp2
                    go_roundw
                    case rel => exact ⟨out.length + 1, out ++ [x], path.take 0 ++ [out.length], by go_num, by omega, HS.out, ⟨_, _, _, _, hv2⟩, ho3, hp3, hdis3, hbl3⟩
                    case measure => simp [intOf]; omega
            · have hmi : ¬ (m : Int) < ln.length := by omega
              clear HDG HDE
              go_upto_region 12 with fail
              clear cl
              have cl := rd_word (HL.out.below hpt.2.2.2 (Nat.le_refl _)) hln
              go_wp2_with (fail)
              rw [HEX.out]
              refine (sparseBox_any (ln.drop m) _ (by rw [List.length_drop]; omega)).mono ?_
              rintro e W7 ⟨rfl, hx7⟩
              replace hpt := hpt.ext hx7 (Nat.le_refl _)
              clear cl hx7 hln
              cases hp : pB (ln.drop m) with
              | none =>
                rw [hp] at HS
                have HP := Lib.hid (HNONE.out (HF.out HS.out))
                have HB := Lib.hid (hb1.trans (hpt.2.2.2.mono hb1.size))
                replace HB := Lib.hid (HB.out.alloc HB.out.size (.cells zb.arr 39))
                clear hpt hp HS HF HEX
                unfold resB Bx.agg zb
                go_wp2
                go_ret2
                exact ⟨_, by rw [HP.out]; rfl, by rw [HP.out]; exact Own.nil _ _ _, HB.out⟩
              | some b =>
                rw [hp] at HS
                replace HS : Hid (runP (ls.take (out.length + 1)) ([], []) = if path.length < m ∨ 0 < out.length ∧ m = 0 then none else some (out ++ [b.at (parOf path m)], path.take m ++ [out.length])) := HS
                clear hp HEX
                unfold resB Bx.agg
                by_cases c1 : path.length < m
                · have ci : (path.length : Int) < m := by omega
                  have HP := Lib.hid (HNONE.out (HF.out (by rw [HS.out, if_pos (.inl c1)])))
                  have HB := Lib.hid (hb1.trans (hpt.2.2.2.mono hb1.size))
                  replace HB := Lib.hid (HB.out.alloc HB.out.size (.cells b.arr 39))
                  clear hpt HS HF
                  go_wp2
                  go_ret2
                  exact ⟨_, by rw [HP.out]; rfl, by rw [HP.out]; exact Own.nil _ _ _, HB.out⟩
                · have ci : ¬ (path.length : Int) < m := by omega
                  by_cases c2 : 0 < out.length
                  · have ci2 : (0 : Int) < out.length := by omega
                    by_cases c3 : m = 0
                    · subst c3
                      have HP := Lib.hid (HNONE.out (HF.out (by rw [HS.out, if_pos (.inr ⟨c2, rfl⟩)])))
                      have HB := Lib.hid (hb1.trans (hpt.2.2.2.mono hb1.size))
                      replace HB := Lib.hid (HB.out.alloc HB.out.size (.cells b.arr 39))
                      clear hpt HS HF
                      go_wp2
                      go_ret2
                      exact ⟨_, by rw [HP.out]; rfl, by rw [HP.out]; exact Own.nil _ _ _, HB.out⟩
                    · replace HS := Lib.hid (HS.out.trans (if_neg (by omega)))
                      have hm0 : (0 : Int) < m := by omega
                      have hmz : ((m : Int) == 0) = false := beq_eq_false_iff_ne.2 (by omega)
                      have kx := Keep.new W7 (.cells b.arr 39)
                      have hbo := hpt.1.noBlk
                      have hbp := hpt.2.1.noBlk
                      have hg8 := hpt.2.2.2.size
                      replace hpt := hpt.ext (Below.of_alloc W7 (.cells b.arr 39)) (Nat.le_refl _)
                      clear HF
                      go_upto_region 15 with fail
                      change Code.wp _ _ _ _ (W7.alloc (.cells b.arr 39))
                      generalize W7.alloc (.cells b.arr 39) = W8 at *
                      generalize W7.heap.size = g8 at *
                      have d0 : W8.cell? ⟨g8, 0, none⟩ = some (.int .i64 b.parent) := kx.cell 0
                      have z0 := kx.frozen 0
                      replace kx : Keep g8 (.cells (b.at (-1)).arr 39) (W8.setCell ⟨g8, 0, none⟩ (.int .i64 (-1))) := kx.store 0 _
                      replace hpt := hpt.set hbo hbp hg8 0 (.int .i64 (-1))
                      go_upto_region 17 with fail
                      clear d0 z0
                      generalize W8.setCell ⟨g8, 0, none⟩ (.int .i64 (-1)) = W9 at *
                      have hml : m - 1 < path.length := by omega
                      obtain ⟨q, hq⟩ : ∃ q, path[m - 1]? = some q := ⟨_, List.getElem?_eq_getElem hml⟩
                      have hpq : parOf path m = (q : Int) := by
                        unfold parOf
                        rw [if_neg c3, List.getD_eq_getElem?_getD, hq]
                        rfl
                      obtain ⟨bP, offP, e_, cq⟩ := rd_int hpt.2.1.rd (natI_get hq)
                      simp only [Option.some.injEq, Addr.mk.injEq] at e_
                      obtain ⟨rfl, rfl, _⟩ := e_
                      have d0 : W9.cell? ⟨g8, 0, none⟩ = some (.int .i64 (-1)) := kx.cell 0
                      have z0 := kx.frozen 0
                      replace kx : Keep g8 (.cells (b.at (q : Int)).arr 39) (W9.setCell ⟨g8, 0, none⟩ (.int .i64 (q : Int))) := kx.store 0 _
                      replace hpt := hpt.set hbo hbp hg8 0 (.int .i64 (q : Int))
                      have hj : ((m : Int) - 1).toNat = m - 1 := by omega
                      go_upto_region 18 with fail
                      clear d0 z0 cq hj
                      generalize W9.setCell ⟨g8, 0, none⟩ (.int .i64 (q : Int)) = WX at *
                      rw [← hpq] at kx
                      have hmp : m ≤ path.length := by omega
                      generalize b.at (parOf path m) = x at *
                      clear hq hpq c3 hmz hm0
                      have hr1 := (hpt.2.1.rd.alloc (.cells #[] 3)).takeG hmp
                      replace hpt := hpt.ext (Below.of_alloc _ (.cells #[] 3)) (Nat.le_refl _)
                      have hgx := kx.lt
                      replace kx := kx.alloc (.cells #[] 3)
                      have hcap : ((m : Nat) : Int) ≤ cp := by omega
                      have hm00 : (0 : Int) ≤ ((m : Nat) : Int) := by omega
                      go_wp2_with (at_builtin; refine wpList_app rfl _ _ _ rfl el_int rfl (Own.empty _ W1.heap.size 1 _) rfl hr1 (fun y hy => Is_one _ y (List.mem_of_mem_take hy)) ?hl1b ?hb1b ?hK1b)
                      case hl1b => rw [List.length_take, Is_length, natI_length, List.length_nil]; omega
                      case hb1b => have := hpt.2.2.2.size; simp at this ⊢; omega
                      intro v1 X3 ho1 hg1 hf1
                      have hx3 := ext_app1 hg1
                      replace hf1 := blk_new hf1
                      have hsz3 := hx3.size
                      replace kx := keepE kx hx3
                      have hoO := hpt.1.below hx3 (Nat.le_refl _)
                      have hbl := after hpt.2.2.2 hx3 (Nat.le_refl _)
                      have hdis : ∀ q, blk (.slice ao out.length co) = some q → blk v1 ≠ some q := fun q hq => hf1 q (by have := (hpt.1.lt _ hq).2; rw [World.size_alloc] at this; exact this)
                      have hv1g : blk v1 ≠ some g8 := hf1 g8 (by omega)
                      clear hpt hr1 hg1 hf1 hx3
                      have hg83 := kx.lt
                      go_wp2_with (at_builtin; refine wpList_app rfl _ _ _ rfl el_int rfl (ho1.alloc _) rfl (Rd.oneAt _ _ (by simp)) (Is_one [(out.length : Int)]) ?hl2b ?hb2b ?hK2b)
                      try case hl2b => have h0 : (Is (natI path)).length = path.length := (Is_length _).trans (natI_length _); simp; omega
                      case hb2b => have := hbl.size; simp; omega
                      intro v2 X5 ho2 hg2 hf2
                      replace ho2 : Own X5 W1.heap.size 1 v2 (Is (natI (path.take m ++ [out.length]))) := by rw [natI_take]; simpa using ho2
                      have hoO2 := (hoO.alloc _).kept hg2 (blk_apart hdis)
                      have hdis2 : ∀ q, blk (.slice ao out.length co) = some q → blk v2 ≠ some q := fun q hq => blk_grown hf2 (hdis q hq) (by have := (hoO.lt _ hq).2; omega)
                      have hbl2 := below_app (hbl.alloc hbl.size _) (ho1.alloc _) hg2 (by have := hbl.size; simp; omega) (Nat.le_refl _)
                      have kx5 : Keep g8 (.cells x.arr 39) X5 := by
                        unfold Keep
                        rw [hg2.block g8 (kx.alloc _).lt (fun e => hv1g e.symm)]
                        exact kx.alloc _
                      clear hoO hdis hbl ho1 hg2 hf2 kx
                      have d0 : X5.cell? ⟨g8, 0, none⟩ = some (.int .i64 x.parent) := kx5.cell 0
                      have d1 : X5.cell? ⟨g8, 1, none⟩ = some (.int .i64 x.kind) := kx5.cell 1
                      have d2 : X5.cell? ⟨g8, 2, none⟩ = some (.int .i64 x.w) := kx5.cell 2
                      have d3 : X5.cell? ⟨g8, 3, none⟩ = some (.int .i64 x.h) := kx5.cell 3
                      have d4 : X5.cell? ⟨g8, 4, none⟩ = some (.int .i64 x.pad) := kx5.cell 4
                      have d5 : X5.cell? ⟨g8, 5, none⟩ = some (.int .i64 x.gap) := kx5.cell 5
                      have d6 : X5.cell? ⟨g8, 6, none⟩ = some (.int .i64 x.grow) := kx5.cell 6
                      have d7 : X5.cell? ⟨g8, 7, none⟩ = some (.int .i64 x.shrink) := kx5.cell 7
                      have d8 : X5.cell? ⟨g8, 8, none⟩ = some (.int .i64 x.justify) := kx5.cell 8
                      go_wp2_with (at_builtin; refine wpList_app rfl _ _ _ rfl el_box rfl (hoO2.alloc _) rfl (Rd.oneAt x.arr 39 (by simp)) (Bx.vals_one _) ?hl3b ?hb3b ?hK3b)
                      case hl3b => rw [Bs_length]; simp [Bx.arr]; omega
                      case hb3b => have := hbl2.size; simp; omega
                      intro v3 X7 ho3 hg3 hf3
                      replace ho3 : Own X7 W1.heap.size 9 v3 (Bs (out ++ [x])) := by rw [Bs_append]; exact ho3
                      have hp3 := (ho2.alloc _).kept hg3 (blk_apart fun q hq e => hdis2 q e hq)
                      have hdis3 : ∀ q, blk v3 = some q → blk v2 ≠ some q := fun q hq e => blk_grown (q := q) hf3 (fun e2 => hdis2 q e2 e) (by have := (ho2.lt _ e).2; omega) hq
                      have hbl3 := below_app (hbl2.alloc hbl2.size _) (hoO2.alloc _) hg3 (by have := hbl2.size; simp; omega) (Nat.le_refl _)
                      obtain ⟨_, _, _, _, hv2, _, _, _, _⟩ := hp3.cells (by
                        intro e
                        have := congrArg List.length e
                        rw [Is_length, natI_length, List.length_append, List.length_nil] at this
                        simp at this)
                      clear ho2 hoO2 hdis2 hbl2 hg3 hf3 d0 d1 d2 d3 d4 d5 d6 d7 d8 kx5
                      go_wp2
                      go_roundw
                      case rel => exact ⟨out.length + 1, out ++ [x], path.take m ++ [out.length], by go_num, by omega, HS.out, ⟨_, _, _, _, hv2⟩, ho3, hp3, hdis3, hbl3⟩
                      case measure => simp [intOf]; omega
                  · obtain rfl : m = 0 := by rw [hp0 (by omega)] at c1; simp at c1; omega
                    replace HS := Lib.hid (HS.out.trans (if_neg (by omega)))
                    have ci2 : ¬ (0 : Int) < out.length := by omega
                    have kx := Keep.new W7 (.cells b.arr 39)
                    have hbo := hpt.1.noBlk
                    have hbp := hpt.2.1.noBlk
                    have hg8 := hpt.2.2.2.size
                    replace hpt := hpt.ext (Below.of_alloc W7 (.cells b.arr 39)) (Nat.le_refl _)
                    clear HF
                    go_upto_region 15 with fail
                    change Code.wp _ _ _ _ (W7.alloc (.cells b.arr 39))
                    generalize W7.alloc (.cells b.arr 39) = W8 at *
                    generalize W7.heap.size = g8 at *
                    have d0 : W8.cell? ⟨g8, 0, none⟩ = some (.int .i64 b.parent) := kx.cell 0
                    have z0 := kx.frozen 0
                    replace kx : Keep g8 (.cells (b.at (-1)).arr 39) (W8.setCell ⟨g8, 0, none⟩ (.int .i64 (-1))) := kx.store 0 _
                    replace hpt := hpt.set hbo hbp hg8 0 (.int .i64 (-1))
                    go_upto_region 18 with fail
                    clear d0 z0
                    generalize W8.setCell ⟨g8, 0, none⟩ (.int .i64 (-1)) = W9 at *
                    have hmp : 0 ≤ path.length := by omega
                    replace kx : Keep g8 (.cells (b.at (parOf path 0)).arr 39) W9 := kx
                    generalize b.at (parOf path 0) = x at *
                    generalize W9 = WX at *
                    have hgx := kx.lt
                    have ho1 : Own (WX.alloc (.cells #[] 3)) W1.heap.size 1 (.slice (some ⟨WX.heap.size, 0, none⟩) 0 0) ((Is (natI path)).take (0 * 1)) := Own.empty _ _ _ _
                    replace hpt := hpt.ext (Below.of_alloc _ (.cells #[] 3)) (Nat.le_refl _)
                    replace kx := kx.alloc (.cells #[] 3)
                    have hoO := hpt.1
                    have hbl := hpt.2.2.2
                    have hdis : ∀ q, blk (.slice ao out.length co) = some q → blk (.slice (some ⟨WX.heap.size, 0, none⟩) 0 0) ≠ some q := fun q hq e => by simp [blk] at e
                    have hv1g : blk (.slice (some ⟨WX.heap.size, 0, none⟩) 0 0) ≠ some g8 := fun e => by simp [blk] at e
                    clear hpt
                    generalize hX3 : WX.alloc (.cells #[] 3) = X3 at *
                    have hg83 := kx.lt
                    go_wp2_with (at_builtin; refine wpList_app rfl _ _ _ rfl el_int rfl (ho1.alloc _) rfl (Rd.oneAt _ _ (by simp)) (Is_one [(out.length : Int)]) ?hl2bz ?hb2bz ?hK2bz)
                    try case hl2bz => have h0 : (Is (natI path)).length = path.length := (Is_length _).trans (natI_length _); simp; omega
                    case hb2bz => have := hbl.size; simp; omega
                    intro v2 X5 ho2 hg2 hf2
                    replace ho2 : Own X5 W1.heap.size 1 v2 (Is (natI (path.take 0 ++ [out.length]))) := by rw [natI_take]; simpa using ho2
                    have hoO2 := (hoO.alloc _).kept hg2 (blk_apart hdis)
                    have hdis2 : ∀ q, blk (.slice ao out.length co) = some q → blk v2 ≠ some q := fun q hq => blk_grown hf2 (hdis q hq) (by have := (hoO.lt _ hq).2; omega)
                    have hbl2 := below_app (hbl.alloc hbl.size _) (ho1.alloc _) hg2 (by have := hbl.size; simp; omega) (Nat.le_refl _)
                    have kx5 : Keep g8 (.cells x.arr 39) X5 := by
                      unfold Keep
                      rw [hg2.block g8 (kx.alloc _).lt (fun e => hv1g e.symm)]
                      exact kx.alloc _
                    clear hoO hdis hbl ho1 hg2 hf2 kx
                    have d0 : X5.cell? ⟨g8, 0, none⟩ = some (.int .i64 x.parent) := kx5.cell 0
                    have d1 : X5.cell? ⟨g8, 1, none⟩ = some (.int .i64 x.kind) := kx5.cell 1
                    have d2 : X5.cell? ⟨g8, 2, none⟩ = some (.int .i64 x.w) := kx5.cell 2
                    have d3 : X5.cell? ⟨g8, 3, none⟩ = some (.int .i64 x.h) := kx5.cell 3
                    have d4 : X5.cell? ⟨g8, 4, none⟩ = some (.int .i64 x.pad) := kx5.cell 4
                    have d5 : X5.cell? ⟨g8, 5, none⟩ = some (.int .i64 x.gap) := kx5.cell 5
                    have d6 : X5.cell? ⟨g8, 6, none⟩ = some (.int .i64 x.grow) := kx5.cell 6
                    have d7 : X5.cell? ⟨g8, 7, none⟩ = some (.int .i64 x.shrink) := kx5.cell 7
                    have d8 : X5.cell? ⟨g8, 8, none⟩ = some (.int .i64 x.justify) := kx5.cell 8
                    go_wp2_with (at_builtin; refine wpList_app rfl _ _ _ rfl el_box rfl (hoO2.alloc _) rfl (Rd.oneAt x.arr 39 (by simp)) (Bx.vals_one _) ?hl3bz ?hb3bz ?hK3bz)
                    case hl3bz => rw [Bs_length]; simp [Bx.arr]; omega
                    case hb3bz => have := hbl2.size; simp; omega
                    intro v3 X7 ho3 hg3 hf3
                    replace ho3 : Own X7 W1.heap.size 9 v3 (Bs (out ++ [x])) := by rw [Bs_append]; exact ho3
                    have hp3 := (ho2.alloc _).kept hg3 (blk_apart fun q hq e => hdis2 q e hq)
                    have hdis3 : ∀ q, blk v3 = some q → blk v2 ≠ some q := fun q hq e => blk_grown (q := q) hf3 (fun e2 => hdis2 q e2 e) (by have := (ho2.lt _ e).2; omega) hq
                    have hbl3 := below_app (hbl2.alloc hbl2.size _) (hoO2.alloc _) hg3 (by have := hbl2.size; simp; omega) (Nat.le_refl _)
                    obtain ⟨_, _, _, _, hv2, _, _, _, _⟩ := hp3.cells (by
                      intro e
                      have := congrArg List.length e
                      rw [Is_length, natI_length, List.length_append, List.length_nil] at this
                      simp at this)
                    clear ho2 hoO2 hdis2 hbl2 hg3 hf3 d0 d1 d2 d3 d4 d5 d6 d7 d8 kx5
                    go_wp2
                    go_roundw
                    case rel => exact ⟨out.length + 1, out ++ [x], path.take 0 ++ [out.length], by go_num, by omega, HS.out, ⟨_, _, _, _, hv2⟩, ho3, hp3, hdis3, hbl3⟩
                    case measure => simp [intOf]; omega
      · obtain rfl : k = ls.length := by omega
        rw [List.take_length] at hrun
        have HP := Lib.hid (HOF.out _ hrun)
        dsimp only at HP
        have hlt' : ¬ ((ls.length : Nat) : Int) < ls.length := by omega
        clear hrun
        go_wp2_with (fail)
        refine (validTree_any (l := out) _ hpt.1.rd (by omega)).mono ?_
        rintro e w9 ⟨he, hx⟩
        replace hpt := hpt.ext hx (Nat.le_refl _)
        have HB := Lib.hid (hb1.trans (hpt.2.2.2.mono hb1.size))
        have HO := Lib.hid (hpt.1.weak hb1.size)
        clear hpt hx
        cases hv : vldB out with
        | true =>
          rw [hv] at he
          subst he
          have HQ := Lib.hid (HP.out.trans (if_pos hv))
          go_wp2
          go_ret2
          exact ⟨_, by rw [HQ.out]; rfl, by rw [HQ.out]; exact HO.out, HB.out⟩
        | false =>
          rw [hv] at he
          subst he
          have HQ := Lib.hid (HP.out.trans (if_neg (by rw [hv]; exact Bool.false_ne_true)))
          go_wp2
          go_ret2
          exact ⟨_, by rw [HQ.out]; rfl, by rw [HQ.out]; exact Own.nil _ _ _, HB.out⟩
end Go.Proofs.YtdlggpphfkjidaaGreatDoor
