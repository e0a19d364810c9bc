/-
  Parts of the proof: SesN.
-/
import Derived.Deep.Cut
import Derived.IntWalk
import Derived.Laws.IdiomStrings
import Derived.Test.YthkkgleoikpfgaaGreatDoorKAf
import Derived.Test.YthkkgleoikpfgaaGreatDoorKAa
import Derived.Test.YthkkgleoikpfgaaGreatDoorKAh
import Derived.Test.YthkkgleoikpfgaaGreatDoorKAd
namespace Go.Proofs.YthkkgleoikpfgaaGreatDoor
open Go Go.RowKit
theorem yes_any (b : Bool) (w : World) : Calls Tryz.prog 61 #[.bool b] w fun e w' => e = .returned (sv (yesT b)) ∧ w = w' := by
 go_enter Tryz.func61, Tryz.ntmps61
 cases b with
 | true =>
  go_wp2
  go_ret
  exact ⟨rfl, rfl⟩
 | false =>
  go_wp2
  go_ret
  exact ⟨rfl, rfl⟩
theorem dig_iff {c : UInt8} : digB c = true ↔ 48 ≤ c.toNat ∧ c.toNat ≤ 57 := by
 unfold digB
 rw [Bool.and_eq_true, decide_eq_true_eq, decide_eq_true_eq]
theorem bytes_at {x : List UInt8} {k cap : Nat} {c : UInt8} (h : x[k]? = some c) : (bytesRow ⟨x.toArray⟩ cap)[k]? = some (.int .u8 (c.toNat : Int)) := by
 obtain ⟨h1, h2⟩ := List.getElem?_eq_some_iff.1 h
 unfold bytesRow
 rw [Array.getElem?_append_left (by simpa using h1), Array.getElem?_map]
 simp [h1, h2]
set_option maxRecDepth 100000 in
set_option maxHeartbeats 1000000 in
theorem inumber_any (x : List UInt8) (w : World) (hx : x.length ≤ 2000000) :
 Calls Tryz.prog 39 #[.string ⟨x.toArray⟩] w fun e w' => e = .returned (.int .i64 (prI x)) ∧ Ext w w' := by
 have hsz : (⟨x.toArray⟩ : ByteArray).size = x.length := rfl
 by_cases hl : 1 ≤ x.length ∧ x.length ≤ 5
 ·obtain ⟨h1, h5⟩ := hl
  obtain ⟨c0, hc0⟩ : ∃ c, x[0]? = some c := ⟨_, List.getElem?_eq_getElem (by omega)⟩
  have hz0 : 0 < (⟨x.toArray⟩ : ByteArray).size := by rw [hsz]; omega
  have e0 := byte_at hc0 hz0
  have hin : inR (x.length : Int) 1 5 = true := inR_iff.2 ⟨by omega, by omega⟩
  have h0l : (0 : Int) < x.length := by omega
  by_cases hz : 1 < x.length ∧ c0 = 48
  ·obtain ⟨h2, rfl⟩ := hz
   have HP := Lib.hid (prI_zero h2 (by rw [List.head?_eq_getElem?]; exact hc0))
   have h2i : (1 : Int) < x.length := by omega
   clear hc0
   go_enter Tryz.func39, Tryz.ntmps39
   go_wp2_with (fail)
   refine (within_any _ _ _ _).mono ?_
   rintro e w1 ⟨rfl, rfl⟩
   rw [hin]
   clear hin
   go_wp2
   go_ret
   exact ⟨by rw [HP.out]; rfl, Below.refl _ _⟩
  ·have HD := Lib.hid (fun hd => prI_digits (s := x) h1 h5 hd (by
    by_cases h2 : 1 < x.length
    ·exact .inr (fun e => hz ⟨h2, by rw [List.head?_eq_getElem?, hc0] at e; exact Option.some.inj e⟩)
    ·exact .inl (by omega)))
   have HBAD := Lib.hid (prI_bad (s := x))
   have hcv := fun W => run_bytes_of_string (P := Tryz.prog) W 9 22 5 ⟨x.toArray⟩ Tryz.underlying9 Tryz.underlying22 Tryz.underlying5
   by_cases h2 : 1 < x.length
   ·have h2i : (1 : Int) < x.length := by omega
    have hne : ((c0.toNat : Int) == 48) = false := byte_ne (d := 48) (fun e => hz ⟨h2, e⟩)
    clear hz hc0
    go_enter Tryz.func39, Tryz.ntmps39
    go_wp2_with (fail)
    refine (within_any _ _ _ _).mono ?_
    rintro e w1 ⟨rfl, rfl⟩
    rw [hin]
    clear hin
    go_upto_region 4 with fail
    clear e0
    have hx1 : Ext w (w.drew.alloc (.cells (bytesRow ⟨x.toArray⟩ (grownCap w x.length 0 5)) 5 ((bytesRow ⟨x.toArray⟩ (grownCap w x.length 0 5)).size, (bytesRow ⟨x.toArray⟩ (grownCap w x.length 0 5)).size + 1))) := ((Below.refl _ w).drew).alloc (Nat.le_refl _) _
    have HC : Hid (∀ (k : Nat) c, x[k]? = some c → (w.drew.alloc (.cells (bytesRow ⟨x.toArray⟩ (grownCap w x.length 0 5)) 5 ((bytesRow ⟨x.toArray⟩ (grownCap w x.length 0 5)).size, (bytesRow ⟨x.toArray⟩ (grownCap w x.length 0 5)).size + 1))).cell? ⟨w.heap.size, k, none⟩ = some (.int .u8 (c.toNat : Int))) := fun k c h => (World.cell?_alloc_mark w.drew _ _ _ k).trans (bytes_at h)
    have hcw := hcv w
    rw [hsz] at hcw
    clear hcv
    generalize (w.drew.alloc (.cells (bytesRow ⟨x.toArray⟩ (grownCap w x.length 0 5)) 5 ((bytesRow ⟨x.toArray⟩ (grownCap w x.length 0 5)).size, (bytesRow ⟨x.toArray⟩ (grownCap w x.length 0 5)).size + 1))) = W1 at *
    generalize grownCap w x.length 0 5 = cap at *
    obtain ⟨g, hg⟩ : ∃ g, g = w.heap.size := ⟨_, rfl⟩
    rw [← hg] at hcw HC
    clear hg
    go_wp2
    go_loopw [3, 23] (fun v i wr => ∃ k : Nat, i = .int .i64 k ∧ k ≤ x.length ∧ v = .int .i64 (decVal (x.take k)) ∧ (x.take k).all digB = true ∧ wr = W1) (fun _ i _ => x.length - (intOf i).toNat)
    case atStart => exact ⟨0, rfl, Nat.zero_le _, rfl, rfl, rfl⟩
    case round =>
     obtain ⟨k, rfl, hk, rfl, hall, rfl⟩ := hrel
     have hv5 := decVal_5 hall (by rw [List.length_take]; omega)
     by_cases hlt : k < x.length
     ·have hki : (k : Int) < x.length := by omega
      have hk0 : (0 : Int) ≤ (k : Int) := by omega
      obtain ⟨c, hc⟩ : ∃ c, x[k]? = some c := ⟨_, List.getElem?_eq_getElem hlt⟩
      have ck := HC.out k c hc
      have hkc : k < cap ∨ cap ≤ k := by omega
      have hc255 : c.toNat < 256 := c.toNat_lt
      by_cases hd : digB c = true
      ·have hdi := dig_iff.1 hd
       have hlo : ¬ (c.toNat : Int) < 48 := by omega
       have hhi : ¬ (57 : Int) < (c.toNat : Int) := by omega
       have HT := Lib.hid (take_snoc hc)
       have HV : Hid (decVal (x.take (k + 1)) = 10 * decVal (x.take k) + (c.toNat - 48)) := by rw [HT.out, decVal_app]; exact rfl
       have HA : Hid ((x.take (k + 1)).all digB = true) := by
        show _ = _
        rw [HT.out, List.all_append, hall]
        simp [hd]
       clear hc hd hall HBAD
       generalize decVal (x.take k) = V at *
       go_wp2
       go_roundw
       case rel => exact ⟨k + 1, by go_num, by omega, by rw [HV.out]; first | (congr 1; omega) | (simp; omega), HA.out, by first | trivial | rfl⟩
       case measure => simp [intOf]; omega
      ·have HP := Lib.hid (HBAD.out (by
        cases ha : x.all digB with
        | false => rfl
        | true => exact absurd (List.all_eq_true.1 ha c (List.mem_of_getElem? hc)) hd))
       have hor : c.toNat < 48 ∨ 57 < c.toNat := by
        by_cases h : c.toNat < 48
        ·exact .inl h
        ·by_cases h9 : 57 < c.toNat
         ·exact .inr h9
         ·exact absurd (dig_iff.2 ⟨by omega, by omega⟩) hd
       clear hd hc hall HBAD HD
       rcases hor with hlo | hhi
       ·have hloi : (c.toNat : Int) < 48 := by omega
        go_wp2
        go_ret
        exact ⟨by rw [HP.out]; rfl, hx1⟩
       ·have hloi : ¬ (c.toNat : Int) < 48 := by omega
        have hhii : (57 : Int) < (c.toNat : Int) := by omega
        go_wp2
        go_ret
        exact ⟨by rw [HP.out]; rfl, hx1⟩
     ·obtain rfl : k = x.length := by omega
      rw [List.take_length] at hall hv5 ⊢
      have HP := Lib.hid (HD.out hall)
      clear hall HD HBAD
      generalize decVal x = V at *
      go_wp2
      go_ret
      exact ⟨by rw [HP.out]; rfl, hx1⟩
   ·have h2i : ¬ (1 : Int) < x.length := by omega
    clear hz hc0
    go_enter Tryz.func39, Tryz.ntmps39
    go_wp2_with (fail)
    refine (within_any _ _ _ _).mono ?_
    rintro e w1 ⟨rfl, rfl⟩
    rw [hin]
    clear hin
    go_upto_region 4 with fail
    clear e0
    have hx1 : Ext w (w.drew.alloc (.cells (bytesRow ⟨x.toArray⟩ (grownCap w x.length 0 5)) 5 ((bytesRow ⟨x.toArray⟩ (grownCap w x.length 0 5)).size, (bytesRow ⟨x.toArray⟩ (grownCap w x.length 0 5)).size + 1))) := ((Below.refl _ w).drew).alloc (Nat.le_refl _) _
    have HC : Hid (∀ (k : Nat) c, x[k]? = some c → (w.drew.alloc (.cells (bytesRow ⟨x.toArray⟩ (grownCap w x.length 0 5)) 5 ((bytesRow ⟨x.toArray⟩ (grownCap w x.length 0 5)).size, (bytesRow ⟨x.toArray⟩ (grownCap w x.length 0 5)).size + 1))).cell? ⟨w.heap.size, k, none⟩ = some (.int .u8 (c.toNat : Int))) := fun k c h => (World.cell?_alloc_mark w.drew _ _ _ k).trans (bytes_at h)
    have hcw := hcv w
    rw [hsz] at hcw
    clear hcv
    generalize (w.drew.alloc (.cells (bytesRow ⟨x.toArray⟩ (grownCap w x.length 0 5)) 5 ((bytesRow ⟨x.toArray⟩ (grownCap w x.length 0 5)).size, (bytesRow ⟨x.toArray⟩ (grownCap w x.length 0 5)).size + 1))) = W1 at *
    generalize grownCap w x.length 0 5 = cap at *
    obtain ⟨g, hg⟩ : ∃ g, g = w.heap.size := ⟨_, rfl⟩
    rw [← hg] at hcw HC
    clear hg
    go_wp2
    go_loopw [3, 23] (fun v i wr => ∃ k : Nat, i = .int .i64 k ∧ k ≤ x.length ∧ v = .int .i64 (decVal (x.take k)) ∧ (x.take k).all digB = true ∧ wr = W1) (fun _ i _ => x.length - (intOf i).toNat)
    case atStart => exact ⟨0, rfl, Nat.zero_le _, rfl, rfl, rfl⟩
    case round =>
     obtain ⟨k, rfl, hk, rfl, hall, rfl⟩ := hrel
     have hv5 := decVal_5 hall (by rw [List.length_take]; omega)
     by_cases hlt : k < x.length
     ·have hki : (k : Int) < x.length := by omega
      have hk0 : (0 : Int) ≤ (k : Int) := by omega
      obtain ⟨c, hc⟩ : ∃ c, x[k]? = some c := ⟨_, List.getElem?_eq_getElem hlt⟩
      have ck := HC.out k c hc
      have hkc : k < cap ∨ cap ≤ k := by omega
      have hc255 : c.toNat < 256 := c.toNat_lt
      by_cases hd : digB c = true
      ·have hdi := dig_iff.1 hd
       have hlo : ¬ (c.toNat : Int) < 48 := by omega
       have hhi : ¬ (57 : Int) < (c.toNat : Int) := by omega
       have HT := Lib.hid (take_snoc hc)
       have HV : Hid (decVal (x.take (k + 1)) = 10 * decVal (x.take k) + (c.toNat - 48)) := by rw [HT.out, decVal_app]; exact rfl
       have HA : Hid ((x.take (k + 1)).all digB = true) := by
        show _ = _
        rw [HT.out, List.all_append, hall]
        simp [hd]
       clear hc hd hall HBAD
       generalize decVal (x.take k) = V at *
       go_wp2
       go_roundw
       case rel => exact ⟨k + 1, by go_num, by omega, by rw [HV.out]; first | (congr 1; omega) | (simp; omega), HA.out, by first | trivial | rfl⟩
       case measure => simp [intOf]; omega
      ·have HP := Lib.hid (HBAD.out (by
        cases ha : x.all digB with
        | false => rfl
        | true => exact absurd (List.all_eq_true.1 ha c (List.mem_of_getElem? hc)) hd))
       have hor : c.toNat < 48 ∨ 57 < c.toNat := by
        by_cases h : c.toNat < 48
        ·exact .inl h
        ·by_cases h9 : 57 < c.toNat
         ·exact .inr h9
         ·exact absurd (dig_iff.2 ⟨by omega, by omega⟩) hd
       clear hd hc hall HBAD HD
       rcases hor with hlo | hhi
       ·have hloi : (c.toNat : Int) < 48 := by omega
        go_wp2
        go_ret
        exact ⟨by rw [HP.out]; rfl, hx1⟩
       ·have hloi : ¬ (c.toNat : Int) < 48 := by omega
        have hhii : (57 : Int) < (c.toNat : Int) := by omega
        go_wp2
        go_ret
        exact ⟨by rw [HP.out]; rfl, hx1⟩
     ·obtain rfl : k = x.length := by omega
      rw [List.take_length] at hall hv5 ⊢
      have HP := Lib.hid (HD.out hall)
      clear hall HD HBAD
      generalize decVal x = V at *
      go_wp2
      go_ret
      exact ⟨by rw [HP.out]; rfl, hx1⟩
 ·have HP := Lib.hid (prI_long (s := x) (by omega))
  have hin : inR (x.length : Int) 1 5 = false := by
   cases h : inR (x.length : Int) 1 5 with
   | false => rfl
   | true =>
    have := inR_iff.1 h
    exact absurd ⟨by omega, by omega⟩ hl
  go_enter Tryz.func39, Tryz.ntmps39
  go_wp2_with (fail)
  refine (within_any _ _ _ _).mono ?_
  rintro e w1 ⟨rfl, rfl⟩
  rw [hin]
  clear hin
  go_wp2
  go_ret
  exact ⟨by rw [HP.out]; rfl, Below.refl _ _⟩
theorem rd_int0 {w : World} {a : Option Addr} {n c k : Nat} {l : List Int} {x : Int} (h : Rd w 1 (.slice a n c) (Is l)) (hk : l[k]? = some x) : ∃ b off, a = some ⟨b, off, none⟩ ∧ w.cell? ⟨b, off + k, none⟩ = some (.int .i64 x) := by
 obtain ⟨a', c', e, _, _, hC⟩ := h.ints
 obtain ⟨b, off, e2, hC2⟩ := hC k x hk
 simp only [Value.slice.injEq] at e
 obtain ⟨rfl, _, rfl⟩ := e
 exact ⟨b, off, e2, hC2 k x hk⟩
theorem itoaZ_any (n : Int) (w : World) (h : -1000000 ≤ n ∧ n ≤ 1000000) (ht : Tab w) : Calls Tryz.prog 91 #[.int .i64 n] w fun e w' => e = .returned (sv (dcZ n)) ∧ Ext w w' :=
 (Tryz.strconv_Itoa n (by omega) (by omega) w ht).mono fun e w' ⟨he, k, os, hw⟩ => by
  subst hw
  exact ⟨he, ⟨rfl, rfl, rfl, by simp [Go.Sort.grow, World.drewN], fun k hk => by simp [Go.Sort.grow, World.drewN, Array.getElem?_append, hk]⟩⟩
theorem nDig_le : ∀ (k n : Nat), n < 10 ^ k → 0 < k → (Lib.decDigits n).length ≤ k := by
 intro k
 induction k with
 | zero => intro n _ h; omega
 | succ k ih =>
  intro n hn _
  rw [Lib.decDigits]
  split
  ·simp
  ·rename_i h
   have hk : 0 < k := by
    rcases Nat.eq_zero_or_pos k with rfl | h9
    ·simp at hn; omega
    ·exact h9
   have := ih (n / 10) (by rw [Nat.pow_succ] at hn; omega) hk
   rw [List.length_append, List.length_singleton]
   omega
theorem dcZ_len {n : Int} (h : -1000000 ≤ n ∧ n ≤ 1000000) : (dcZ n).length ≤ 8 := by
 unfold dcZ Lib.itoa
 split
 ·rw [List.length_cons]
  have := nDig_le 7 n.natAbs (by omega) (by omega)
  omega
 ·have := nDig_le 7 n.toNat (by omega) (by omega)
  omega
theorem flat_len (c : UInt8) (b : Nat) : ∀ l : List (List UInt8), (∀ x, x ∈ l → x.length ≤ b) → ((l.map ([c] ++ ·)).flatten).length ≤ l.length * (b + 1)
 | [], _ => Nat.zero_le _
 | x :: r, h => by
  have ih := flat_len c b r (fun z hz => h z (List.mem_cons_of_mem _ hz))
  have := h x List.mem_cons_self
  rw [List.map_cons, List.flatten_cons, List.length_append, List.length_append, List.length_singleton, List.length_cons, Nat.add_mul]
  omega
theorem join_len (c : UInt8) (b : Nat) (l : List (List UInt8)) (h : ∀ x, x ∈ l → x.length ≤ b) : (Lib.join l [c]).length ≤ l.length * (b + 1) := by
 cases l with
 | nil => exact Nat.zero_le _
 | cons x r =>
  have ih := flat_len c b r (fun z hz => h z (List.mem_cons_of_mem _ hz))
  have := h x List.mem_cons_self
  rw [join_flat, List.length_append, List.length_cons, Nat.add_mul]
  omega
theorem Own.madeStrZ (W : World) (base c : Nat) (hb : base ≤ W.heap.size) (hc : c ≤ 1048576) :
 Own (W.alloc (.cells (madeCells #[Value.string ⟨#[]⟩] c) 9)) base 1 (.slice (some ⟨W.heap.size, 0, none⟩) 0 c) (Ss []) := by
 have h := Own.made W (madeCells #[Value.string ⟨#[]⟩] c) 9 base 1 0 c hb (Nat.zero_le _) (by unfold maxLen; omega) (by rw [size_madeCells, Nat.mul_one])
 simpa [Ss] using h
set_option maxRecDepth 100000 in
set_option maxHeartbeats 1000000 in
theorem told_any {v : Value} {l : List Int} (w : World) (hv : Rd w 1 v (Is l)) (hne : l ≠ []) (hl : l.length ≤ 16) (hb : ∀ n, n ∈ l → -1000000 ≤ n ∧ n ≤ 1000000) (ht : Tab w) :
 Calls Tryz.prog 63 #[v] w fun e w' => e = .returned (sv (Lib.join (l.map dcZ) [32])) ∧ Ext w w' := by
 have HV := Lib.hid hv
 have HTB := Lib.hid ht
 have HB := Lib.hid hb
 have HNE := Lib.hid hne
 obtain ⟨a, c, rfl, hn, hc, _⟩ := hv.ints
 unfold maxLen at hc
 obtain ⟨x0, hx0⟩ : ∃ x, l[0]? = some x := ⟨_, List.getElem?_eq_getElem (List.length_pos_iff.2 hne)⟩
 obtain ⟨b, off, hba, _⟩ := rd_int0 hv hx0
 subst hba
 have hmk := fun W => mk_run0 (P := Tryz.prog) el_str l.length (by omega) W
 clear hv ht hb hne hx0
 go_enter Tryz.func63, Tryz.ntmps63
 go_upto_region 3 with fail
 have ho := Own.madeStrZ w w.heap.size l.length (Nat.le_refl _) (by omega)
 have hb3 := Below.of_alloc w (.cells (madeCells #[Value.string ⟨#[]⟩] l.length) 9)
 clear hmk
 generalize w.alloc (.cells (madeCells #[Value.string ⟨#[]⟩] l.length) 9) = W3 at *
 go_wp2
 go_loopw [3, 11] (fun o i wr => ∃ k : Nat, i = .int .i64 k ∧ k ≤ l.length ∧ Own wr w.heap.size 1 o (Ss ((l.map dcZ).take k)) ∧ Below w.heap.size w wr) (fun _ i _ => l.length - (intOf i).toNat)
 case atStart => exact ⟨0, rfl, Nat.zero_le _, ho, hb3⟩
 case round =>
  clear ho hb3
  obtain ⟨k, rfl, hk, ho, hbl⟩ := hrel
  have hwb := hbl.size
  by_cases hlt : k < l.length
  ·have hki : (k : Int) < l.length := by omega
   have hk0 : (0 : Int) ≤ (k : Int) := by omega
   obtain ⟨n, hnk⟩ : ∃ n, l[k]? = some n := ⟨_, List.getElem?_eq_getElem hlt⟩
   obtain ⟨b2, off2, e2, ck⟩ := rd_int0 (HV.out.below hbl (Nat.le_refl _)) hnk
   simp only [Option.some.injEq, Addr.mk.injEq] at e2
   obtain ⟨rfl, rfl, _⟩ := e2
   have HS : Hid (Ss ((l.map dcZ).take (k + 1)) = Ss ((l.map dcZ).take k) ++ Ss [dcZ n]) := by
    show _ = _
    rw [List.take_add_one, List.getElem?_map, hnk, Ss_append]
    rfl
   have HI := Lib.hid (fun w ht => itoaZ_any n w (HB.out n (List.mem_of_getElem? hnk)) ht)
   have hlk : ((l.map dcZ).take k).length ≤ 16 := by rw [List.length_take, List.length_map]; omega
   clear hnk
   go_wp2_with (fail)
   refine (HI.out _ (HTB.out.below hbl (Nat.le_refl _))).mono ?_
   rintro e w5 ⟨rfl, hx5⟩
   unfold sv
   replace ho := ho.below hx5 (Nat.le_refl _)
   replace hbl := after hbl hx5 (Nat.le_refl _)
   clear hx5 ck
   go_wp2_with (at_builtin; refine wpList_app rfl _ _ _ rfl el_str rfl (ho.alloc _) rfl (show Rd _ 1 _ (Ss [dcZ n]) from Rd.oneAt _ _ rfl) (Ss_one _) ?hl ?hb ?hK)
   case hl => rw [Ss_length, Ss_length]; simp only [List.length_cons, List.length_nil]; omega
   case hb => have := hbl.size; simp; omega
   intro v' w9 ho9 hg9 hf9
   have hb9 := below_app (hbl.alloc hbl.size _) (ho.alloc _) hg9 (by have := hbl.size; simp; omega) (Nat.le_refl _)
   rw [← HS.out] at ho9
   clear ho hbl hg9 hf9
   go_wp2
   go_roundw
   case rel => exact ⟨k + 1, by go_num, by omega, ho9, hb9⟩
   case measure => simp [intOf]; omega
  ·obtain rfl : k = l.length := by omega
   rw [List.take_of_length_le (by rw [List.length_map]; exact Nat.le_refl _)] at ho
   have HJ := Lib.hid (join_any (l := l.map dcZ) 32 wr ho.rd (fun e => HNE.out (List.map_eq_nil_iff.1 e)) (by rw [List.length_map]; omega) (by
    have := join_len 32 8 (l.map dcZ) (fun x hx => by
     obtain ⟨n, hn, rfl⟩ := List.mem_map.1 hx
     exact dcZ_len (HB.out n hn))
    rw [List.length_map] at this
    omega))
   clear ho
   go_wp2_with (fail)
   refine HJ.out.mono ?_
   rintro e w9 ⟨rfl, hx9⟩
   unfold sv
   replace hbl := after hbl hx9 (Nat.le_refl _)
   clear HJ hx9
   go_wp2
   go_ret
   exact ⟨rfl, hbl⟩
end Go.Proofs.YthkkgleoikpfgaaGreatDoor
