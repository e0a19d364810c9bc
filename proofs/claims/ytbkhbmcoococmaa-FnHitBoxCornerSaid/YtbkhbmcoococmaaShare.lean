/-
  A space split by weights: impl.share.
-/
import Derived.Test.YtbkhbmcoococmaaAe
import Derived.Test.YtbkhbmcoococmaaMake
import Derived.Test.YtbkhbmcoococmaaNat
namespace Go.Proofs.Ytbkhbmcoococmaa
open Go Go.RowKit

/-- the first k shares, rounded down, and 0 for the others -/
def quoTo (s : Int) (ws : List Int) (k : Nat) : List Int := (quoL s ws).take k ++ List.replicate (ws.length - k) 0
theorem quoL_length (s : Int) (ws : List Int) : (quoL s ws).length = ws.length := by simp [quoL]
theorem quoTo_length {s : Int} {ws : List Int} {k : Nat} (hk : k ≤ ws.length) : (quoTo s ws k).length = ws.length := by
  unfold quoTo
  rw [List.length_append, List.length_take, quoL_length, List.length_replicate]
  omega
theorem quoTo_zero (s : Int) (ws : List Int) : quoTo s ws 0 = List.replicate ws.length 0 := by simp [quoTo]
theorem quoTo_full (s : Int) (ws : List Int) : quoTo s ws ws.length = quoL s ws := by
  unfold quoTo
  rw [List.take_of_length_le (by rw [quoL_length]; exact Nat.le_refl _)]
  simp
theorem quoTo_set {s : Int} {ws : List Int} {k : Nat} (hk : k < ws.length) : (quoTo s ws k).set k (quo s ws k) = quoTo s ws (k + 1) := by
  have hl : ((quoL s ws).take k).length = k := by rw [List.length_take, quoL_length]; omega
  have e : (quoL s ws).take (k + 1) = (quoL s ws).take k ++ [quo s ws k] := by
    rw [List.take_add_one]
    simp [quoL, hk]
  unfold quoTo
  rw [e, List.set_append, if_neg (by omega), hl, Nat.sub_self, show ws.length - k = (ws.length - (k + 1)) + 1 by omega, List.replicate_succ, List.set_cons_zero, List.append_assoc]
  rfl
theorem Is_set (l : List Int) (j : Nat) (x : Int) : (Is l).set j (.int .i64 x) = Is (l.set j x) := by simp [Is, List.map_set]
theorem ni_range_succ (k : Nat) : ni (List.range k) ++ [(k : Int)] = ni (List.range (k + 1)) := by rw [List.range_succ, ni_append]; rfl

theorem Own.same {w w' : World} {base size : Nat} {v : Value} {xs : List Value} (h : Own w base size v xs) (hb : ∀ q, blk v = some q → w'.heap[q]? = w.heap[q]?) : Own w' base size v xs := by
  obtain ⟨a, n, c, rfl, hl, hn, hc, h⟩ := h
  refine ⟨a, n, c, rfl, hl, hn, hc, ?_⟩
  rcases h with rfl | ⟨g, off, cur, e, rfl, hg, hh, hs, ht⟩
  · exact .inl rfl
  · by_cases hc0 : c = 0
    · exact .inl hc0
    · refine .inr ⟨g, off, cur, e, rfl, hg, ?_, hs, ht⟩
      rw [hb g (by simp [blk, hc0])]
      exact hh
theorem blk_out {g n c : Nat} {q : Nat} (h : blk (.slice (some ⟨g, 0, none⟩) n c) = some q) : q = g := by
  unfold blk at h
  dsimp only at h
  split at h
  · cases h
  · simpa using h.symm
theorem quo_bound {s : Int} {ws : List Int} (hs : 0 ≤ s) (hw : ∀ x, x ∈ ws → 0 ≤ x) (hS : 0 < isum ws) (i : Nat) (hi : i < ws.length) : 0 ≤ quo s ws i ∧ quo s ws i ≤ s := by
  have h1 := quo_pos hs hw i
  have h2 := (left_le hs hS).1
  have h3 := isum_mem (l := quoL s ws) (x := quo s ws i) (fun y hy => by
    obtain ⟨k, _, rfl⟩ := List.mem_map.1 hy
    exact quo_pos hs hw k) (List.mem_map.2 ⟨i, List.mem_range.2 hi, rfl⟩)
  omega
theorem Rd.intAt {w : World} {a : Option Addr} {n c k : Nat} {l : List Int} {x : Int} (h : Rd w 1 (.slice a n c) (Is l)) (hk : l[k]? = some x) : ∃ b off, a = some ⟨b, off, none⟩ ∧ w.cell? ⟨b, off + k, none⟩ = some (.int .i64 x) := by
  obtain ⟨a', c', e, _, _, hC⟩ := h.ints
  obtain ⟨b, off, e2, hC2⟩ := hC k x hk
  simp only [Value.slice.injEq] at e
  obtain ⟨rfl, _, rfl⟩ := e
  exact ⟨b, off, e2, hC2 k x hk⟩
theorem Own.setI {w : World} {base g n c k : Nat} {l : List Int} {x : Int} (h : Own w base 1 (.slice (some ⟨g, 0, none⟩) n c) (Is l)) (hx : l[k]? = some x) :
    g < w.heap.size ∧ w.cell? ⟨g, k, none⟩ = some (.int .i64 x) ∧ w.frozen? ⟨g, k, none⟩ = false ∧ ∀ u, Own (w.setCell ⟨g, k, none⟩ (.int .i64 u)) base 1 (.slice (some ⟨g, 0, none⟩) n c) (Is (l.set k u)) := by
  have hk := (List.getElem?_eq_some_iff.1 hx).1
  obtain ⟨b', off', n', c', e', _, hbk, _, hbs, hcell, hfz, hset⟩ := h.cells (by
    intro h
    have := congrArg List.length h
    rw [Is_length, List.length_nil] at this
    omega)
  simp only [Value.slice.injEq, Option.some.injEq, Addr.mk.injEq] at e'
  obtain ⟨⟨rfl, rfl, _⟩, rfl, rfl⟩ := e'
  simp only [Nat.zero_add] at hcell hfz hset
  exact ⟨hbs, hcell k _ (Is_get hx), hfz k, fun u => by rw [← Is_set]; exact hset k _ (by rw [Is_length]; exact hk)⟩
/-- what impl.share keeps in memory: the space, the weights, their sum -/
structure ShMem (B : Nat) (w : World) (s : Int) (v : Value) (S : Int) : Prop where
  lt : B + 3 < w.heap.size
  k1 : w.cell? ⟨B, 0, none⟩ = some (.int .i64 s)
  k2 : w.cell? ⟨B + 1, 0, none⟩ = some v
  k3 : w.cell? ⟨B + 3, 0, none⟩ = some (.int .i64 S)
theorem ShMem.below {B : Nat} {w w' : World} {s : Int} {v : Value} {S : Int} (h : ShMem B w s v S) (hb : Below (B + 4) w w') : ShMem B w' s v S := by
  obtain ⟨h0, h1, h2, h3⟩ := h
  refine ⟨Nat.lt_of_lt_of_le h0 hb.size, ?_, ?_, ?_⟩
  · rw [hb.cell (p := ⟨B, 0, none⟩) (by show B < B + 4; omega)]; exact h1
  · rw [hb.cell (p := ⟨B + 1, 0, none⟩) (by show B + 1 < B + 4; omega)]; exact h2
  · rw [hb.cell (p := ⟨B + 3, 0, none⟩) (by show B + 3 < B + 4; omega)]; exact h3
theorem cell_setOther {w : World} {p q : Addr} (u : Value) (h : q.block ≠ p.block) : (w.setCell p u).cell? q = w.cell? q := by
  have e : (w.setCell p u).heap[q.block]? = w.heap[q.block]? := Below.heap_setCell _ _ _ _ h
  unfold World.cell?
  rw [e]
theorem ShMem.set {B : Nat} {w : World} {s : Int} {v : Value} {S : Int} (h : ShMem B w s v S) (o : Nat) (u : Value) : ShMem B (w.setCell ⟨B + 2, o, none⟩ u) s v S := by
  obtain ⟨h0, h1, h2, h3⟩ := h
  refine ⟨by simpa [World.setCell] using h0, ?_, ?_, ?_⟩
  · rw [cell_setOther _ (by simp)]; exact h1
  · rw [cell_setOther _ (by simp)]; exact h2
  · rw [cell_setOther _ (by simp)]; exact h3

set_option maxRecDepth 100000 in
set_option maxHeartbeats 2000000 in
theorem share_any {v : Value} {s : Int} {ws : List Int} (w : World) (hv : Rd w 1 v (Is ws)) (hs : 0 ≤ s ∧ s ≤ 1000000) (hw : ∀ x, x ∈ ws → 0 ≤ x ∧ x ≤ 1000000) (hl : ws.length ≤ 8) :
    Calls Try.prog 97 #[.int .i64 s, v] w fun e w' => ∃ v', e = .returned v' ∧ Own w' w.heap.size 1 v' (Is (shareL s ws)) ∧ Ext w w' := by
  have hrd := hv
  obtain ⟨a, c, rfl, hn, hc, hcell⟩ := hv.ints
  clear hv
  unfold maxLen at hc
  have hmk := fun W => mk_run (P := Try.prog) el_int ws.length ws.length (Nat.le_refl _) (by omega) W
  have hmk0 := fun W => mk_run0 (P := Try.prog) el_int ws.length (by omega) W
  have HW := Lib.hid hw
  have hpos := isum_pos ws fun x hx => (hw x hx).1
  have hle := isum_le ws 1000000 fun x hx => (hw x hx).2
  clear hw
  go_enter Try.func97, Try.ntmps97
  go_wp2_with (fail)
  obtain ⟨W, hW⟩ : ∃ W, ((w.alloc (.cells #[.int .i64 s] 3)).alloc (.cells #[.slice a ws.length c] 31)).alloc (.cells (madeCells #[Value.int .i64 0] ws.length) 3) = W := ⟨_, rfl⟩
  have hbw : Below w.heap.size w W := by
    rw [← hW]
    exact ((Below.of_alloc _ _).alloc (by simp) _).alloc (by simp; omega) _
  have hoW : Own W (w.heap.size + 2) 1 (.slice (some ⟨w.heap.size + 2, 0, none⟩) ws.length ws.length) (Is (List.replicate ws.length 0)) := by
    have h := Own.madeInts1 ((w.alloc (.cells #[.int .i64 s] 3)).alloc (.cells #[.slice a ws.length c] 31)) (w.heap.size + 2) ws.length ws.length 3 (by simp) (Nat.le_refl _) (by omega)
    rw [hW] at h
    simpa using h
  have hsW : W.heap.size = w.heap.size + 3 := by rw [← hW]; simp
  have hk1 : W.cell? ⟨w.heap.size, 0, none⟩ = some (.int .i64 s) := by
    rw [← hW, cell_of_heap (heap_new3 _ _ _ _).1]
    rfl
  have hk2 : W.cell? ⟨w.heap.size + 1, 0, none⟩ = some (.slice a ws.length c) := by
    rw [← hW, cell_of_heap (heap_new3 _ _ _ _).2.1]
    rfl
  rw [hW]
  refine (total_any (l := ws) _ (hrd.below hbw (Nat.le_refl _)) (fun x hx => by have := HW.out x hx; omega) (by omega)).mono ?_
  rintro e w1 ⟨rfl, hw1⟩
  subst hw1
  clear hW
  by_cases h0 : isum ws = 0
  · have h0' : (isum ws == 0) = true := by simp [h0]
    have HE : Hid (shareL s ws = List.replicate ws.length 0) := by show _ = _; unfold shareL; rw [if_pos h0]
    clear h0
    go_wp2
    go_ret
    exact ⟨_, rfl, by rw [HE.out]; exact (hoW.alloc _).weak (by omega), hbw.alloc (by omega) _⟩
  · have h0' : (isum ws == 0) = false := by simp [h0]
    have hS : 0 < isum ws := by omega
    have HE : Hid (shareL s ws = shrT s ws (leftN s ws)) := by show _ = _; unfold shareL; rw [if_neg h0]
    have hlf := left_le hs.1 hS
    clear h0
    go_wp2_with (fail)
    obtain ⟨W2, hW2⟩ : ∃ W2, (w1.alloc (.cells #[.int .i64 (isum ws)] 3)).alloc (.cells (madeCells #[Value.int .i64 0] ws.length) 3) = W2 := ⟨_, rfl⟩
    have hoO : Own W2 (w.heap.size + 4) 1 (.slice (some ⟨w.heap.size + 4, 0, none⟩) 0 ws.length) (Is (ni (List.range 0))) := by
      have h := Own.madeInts1 (w1.alloc (.cells #[.int .i64 (isum ws)] 3)) (w.heap.size + 4) 0 ws.length 3 (by simp; omega) (Nat.zero_le _) (by omega)
      rw [hW2] at h
      simp only [World.size_alloc, hsW] at h
      exact h
    have hbw2 : Below (w.heap.size + 3) w1 W2 := by
      rw [← hW2, ← hsW]
      exact (Below.of_alloc _ _).alloc (by simp) _
    have hoU := (hoW.below hbw2 (by omega))
    have hsm : ShMem w.heap.size W2 s (.slice a ws.length c) (isum ws) := by
      refine ⟨by rw [← hW2]; simp; omega, ?_, ?_, ?_⟩
      · rw [hbw2.cell (p := ⟨w.heap.size, 0, none⟩) (by show w.heap.size < _; omega)]; exact hk1
      · rw [hbw2.cell (p := ⟨w.heap.size + 1, 0, none⟩) (by show w.heap.size + 1 < _; omega)]; exact hk2
      · rw [← hW2]
        have h1 := heap_alloc_new w1 (.cells #[.int .i64 (isum ws)] 3)
        rw [hsW] at h1
        have h2 : ((w1.alloc (.cells #[.int .i64 (isum ws)] 3)).alloc (.cells (madeCells #[Value.int .i64 0] ws.length) 3)).heap[w.heap.size + 3]? = some (.cells #[.int .i64 (isum ws)] 3) := by
          rw [Below.heap_alloc _ _ _ (by simp; omega)]
          exact h1
        rw [cell_of_heap h2]
        rfl
    have hb2 : Below w.heap.size w W2 := hbw.trans (hbw2.mono (by omega))
    have hidx : ∀ k : Nat, k < ws.length → ∃ b off, a = some ⟨b, off, none⟩ ∧ ∀ wr, Below w.heap.size w wr → ∀ (j : Nat) (y : Int), ws[j]? = some y → wr.cell? ⟨b, off + j, none⟩ = some (.int .i64 y) := by
      intro k hk
      obtain ⟨y, hy⟩ : ∃ y, ws[k]? = some y := ⟨_, List.getElem?_eq_getElem hk⟩
      obtain ⟨b, off, rfl, hC⟩ := hcell k y hy
      exact ⟨b, off, rfl, fun wr hb j y hy => cell_below hb (hC j y hy)⟩
    have HI := Lib.hid hidx
    clear hidx hcell
    rw [hW2]
    rw [show w.heap.size + 1 + 1 = w.heap.size + 2 from rfl, show w.heap.size + 3 + 1 = w.heap.size + 4 from rfl]
    go_loopw [7, 25] (fun ord i wr => ∃ k : Nat, k ≤ ws.length ∧ i = .int .i64 k ∧
      Own wr (w.heap.size + 4) 1 ord (Is (ni (List.range k))) ∧ Own wr (w.heap.size + 2) 1 (.slice (some ⟨w.heap.size + 2, 0, none⟩) ws.length ws.length) (Is (quoTo s ws k)) ∧ ShMem w.heap.size wr s (.slice a ws.length c) (isum ws) ∧ Below w.heap.size w wr) (fun _ i _ => ws.length - (intOf i).toNat)
    case atStart => exact ⟨0, Nat.zero_le _, rfl, hoO, by rw [quoTo_zero]; exact hoU, hsm, hb2⟩
    case round =>
      clear hoO hoU hsm hb2 hW2 hbw2
      obtain ⟨k, hk, rfl, hoO, hoU, hsm, hb2⟩ := hrel
      have hsz := hsm.lt
      obtain ⟨m0, m1, m2, m3⟩ := hsm
      by_cases hlt : k < ws.length
      · obtain ⟨b, off, rfl, hC⟩ := HI.out k hlt
        obtain ⟨y, hy⟩ : ∃ y, ws[k]? = some y := ⟨_, List.getElem?_eq_getElem hlt⟩
        have ck := hC wr hb2 k y hy
        have hy0 := HW.out y (List.mem_of_getElem? hy)
        have px0 := Int.mul_nonneg hs.1 hy0.1
        have px1 : s * y ≤ 1000000 * 1000000 := Int.mul_le_mul hs.2 hy0.2 hy0.1 (by omega)
        have QY : Hid (quo s ws k = s * y / isum ws) := by show _ = _; unfold quo; rw [List.getD_eq_getElem?_getD, hy]; rfl
        have hql := quoTo_length (s := s) hk
        obtain ⟨b', off', n', c', e', _, hbk, _, hbs, hcellU, hfz, hset⟩ := hoU.cells (by
          intro h
          have := congrArg List.length h
          rw [Is_length, hql, List.length_nil] at this
          omega)
        simp only [Value.slice.injEq, Option.some.injEq, Addr.mk.injEq] at e'
        obtain ⟨⟨rfl, rfl, _⟩, rfl, rfl⟩ := e'
        have f0 := hfz k
        have s0 := hset k (.int .i64 (quo s ws k)) (by rw [Is_length, hql]; exact hlt)
        rw [Is_set, quoTo_set hlt] at s0
        obtain ⟨u0, hu0⟩ : ∃ u, (Is (quoTo s ws k))[k]? = some u := ⟨_, List.getElem?_eq_getElem (by rw [Is_length, hql]; exact hlt)⟩
        have cu := hcellU k u0 hu0
        have hlti : (k : Int) < ws.length := by omega
        clear hcellU hfz hset hy hC
        rw [QY.out] at s0
        simp only [Nat.zero_add] at f0 s0 cu
        have hoO2 := hoO.setOther (p := ⟨w.heap.size + 2, k, none⟩) (by
          intro e
          have := (hoO.lt _ e).1
          dsimp only at this
          omega) (.int .i64 (s * y / isum ws))
        have hsm2 := (ShMem.mk m0 m1 m2 m3).set k (.int .i64 (s * y / isum ws))
        have hb3 := hb2.setCell (p := ⟨w.heap.size + 2, k, none⟩) (by simp) (.int .i64 (s * y / isum ws))
        have hblk : blk u7 ≠ some (w.heap.size + 2) := by
          intro e
          have := (hoO.lt _ e).1
          omega
        go_wp2_with (at_builtin; refine wpList_app rfl _ _ _ rfl el_int rfl (hoO2.alloc _) rfl (Rd.oneAt _ _ (by simp)) (Is_one [(k : Int)]) ?hl ?hb ?hK)
        case hl => rw [Is_length, ni_length]; simp; omega
        case hb => simp; omega
        intro v' w5 ho5 hg5 hf5
        have hx1 := (Below.of_alloc (wr.setCell ⟨w.heap.size + 2, k, none⟩ (.int .i64 (s * y / isum ws))) (.cells #[.int .i64 (k : Int)] 3)).mono (B' := w.heap.size + 4) (by simp [World.setCell]; omega)
        have hx2 := below_app hx1 (hoO2.alloc _) hg5 (by simp [World.setCell]; omega) (Nat.le_refl _)
        have ho7 := (s0.alloc (.cells #[.int .i64 (k : Int)] 3)).kept hg5 (.inr (by rw [hbk]; exact fun e => hblk e.symm))
        have hsm7 := hsm2.below hx2
        have hb7 := hb3.trans (hx2.mono (by omega))
        go_wp2
        go_roundw
        case rel => exact ⟨k + 1, by omega, by go_num, by rw [← ni_range_succ, Is_append]; exact ho5, ho7, hsm7, hb7⟩
        case measure => simp [intOf]; omega
      · obtain rfl : k = ws.length := by omega
        rw [quoTo_full] at hoU
        have hsm := ShMem.mk m0 m1 m2 m3
        clear m0 m1 m2 m3 hsz
        go_wp2_with (fail)
        refine (SortStableFunc_any (n := ws.length) shareEnter (rst s ws) _ hoO hl (fun i j hi hj w' hw' => by
          have h := hsm.below hw'
          exact shareF_any w' (hrd.below (hb2.trans (hw'.mono (by omega))) (Nat.le_refl _)) h.k1 h.k2 h.k3 hs HW.out hS hi hj)).mono ?_
        rintro e w6 ⟨rfl, hoO6, hbS, hfS⟩
        have hsm6 := hsm.below hbS
        have hoU6 : Own w6 (w.heap.size + 2) 1 (.slice (some ⟨w.heap.size + 2, 0, none⟩) ws.length ws.length) (Is (quoL s ws)) := hoU.same (fun q hq => by
          obtain rfl := blk_out hq
          exact hbS.block _ (by omega))
        have hb6 := hb2.trans (hbS.mono (by omega))
        clear hoU hoO hsm hb2 hbS hfS
        obtain ⟨a7, c7, e7, hn7, hc7, _⟩ := hoO6.rd.ints
        rw [ni_length, ordR_length] at e7 hn7
        subst e7
        unfold maxLen at hc7
        obtain ⟨k0, k1, k2, k3⟩ := hsm6
        have HB := Lib.hid (fun i hi => quo_bound hs.1 (fun x hx => (HW.out x hx).1) hS i hi)
        have HQ := fun n => total_any (l := quoL s ws) (w6.drewN n) (rd_drewN hoU6.rd n) (fun x hx => by
          obtain ⟨i, hi, rfl⟩ := List.mem_map.1 hx
          have := HB.out i (List.mem_range.1 hi)
          omega) (by rw [quoL_length]; omega)
        have hlN : leftN s ws ≤ ws.length := by unfold leftN; omega
        generalize hq : isum (quoL s ws) = q at *
        have e0 : (s - q).toNat = leftN s ws := by unfold leftN; rw [hq]
        have ez : s - q = (leftN s ws : Int) := by omega
        go_wp2
        go_quiet (refine Calls.quiet_of_same (HQ _))
        have hoO7 := own_drewN hoO6 nq
        have hoU7 := own_drewN hoU6 nq
        have hb7 := below_drewN hb6 nq
        clear hoO6 hoU6 hb6 k0 k1 k2 k3 HQ
        generalize w6.drewN nq = w7 at *
        go_wp2
        go_loopw [53] (fun i wr => ∃ t : Nat, t ≤ leftN s ws ∧ i = .int .i64 t ∧ Own wr (w.heap.size + 4) 1 (.slice a7 ws.length c7) (Is (ni (ordR (rst s ws) ws.length))) ∧ Own wr (w.heap.size + 2) 1 (.slice (some ⟨w.heap.size + 2, 0, none⟩) ws.length ws.length) (Is (shrT s ws t)) ∧ Below w.heap.size w wr) (fun i _ => leftN s ws - (intOf i).toNat)
        case atStart => exact ⟨0, Nat.zero_le _, rfl, hoO7, by rw [shrT_zero]; exact hoU7, hb7⟩
        case round =>
          clear hoO7 hoU7 hb7 e0 ez hq hlf
          obtain ⟨t, ht, rfl, hoO, hoU, hb⟩ := hrel
          by_cases hlt : t < leftN s ws
          · obtain ⟨p, hp⟩ : ∃ p, (ordR (rst s ws) ws.length)[t]? = some p := ⟨_, List.getElem?_eq_getElem (by rw [ordR_length]; omega)⟩
            have hpn : p < ws.length := ordR_mem.1 (List.mem_of_getElem? hp)
            obtain ⟨h1, h2⟩ := shrT_succ hp
            have hq0 := HB.out p hpn
            obtain ⟨hbs, cu, f0, hset⟩ := hoU.setI h1
            have s0 := hset (quo s ws p + 1)
            rw [h2] at s0
            obtain ⟨bO, oO, rfl, co⟩ := hoO.rd.intAt (ni_get hp)
            have hoO2 := hoO.setOther (p := ⟨w.heap.size + 2, p, none⟩) (by
              intro e
              have := (hoO.lt _ e).1
              dsimp only at this
              omega) (.int .i64 (quo s ws p + 1))
            have hb2 := hb.setCell (p := ⟨w.heap.size + 2, p, none⟩) (by simp) (.int .i64 (quo s ws p + 1))
            have hti : (t : Int) < leftN s ws := by omega
            have hpi : (p : Int) < ws.length := by omega
            clear hset h1 h2 hp hoO hoU
            go_wp2
            go_roundw
            case rel => exact ⟨t + 1, by omega, by go_num, hoO2, s0, hb2⟩
            case measure => simp [intOf]; omega
          · obtain rfl : t = leftN s ws := by omega
            go_wp2
            go_ret
            exact ⟨_, rfl, by rw [HE.out]; exact hoU.weak (by omega), hb⟩
end Go.Proofs.Ytbkhbmcoococmaa
