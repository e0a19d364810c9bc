/-
  Parts of the proof: LSe.
-/
import Derived.Test.YthkkgleoikpfgaaGreatDoorKBd
import Derived.Test.YthkkgleoikpfgaaGreatDoorKBb
import Derived.Test.YthkkgleoikpfgaaGreatDoorKBg
import Derived.Test.YthkkgleoikpfgaaGreatDoorKBh
namespace Go.Proofs.YthkkgleoikpfgaaGreatDoor
open Go Go.RowKit
/-- short sessions, the program's -/
theorem run20_any {v : Value} (L : List (List UInt8)) (w : World) (h20 : L.length ≤ 20) (hv : Rd w 1 v (Ss L)) (hl : LaidP w) (hlen : ∀ x, x ∈ L → x.length ≤ 2010) :
 Calls Tryz.prog 10 #[v] w fun e w' => e = .returned (sv (runS L st0)) ∧ Ext w w' := by
 have h := RunSession_any L w hv hl (fun x hx => by have := hlen x hx; omega)
 rw [List.take_of_length_le h20] at h
 exact h
theorem srun20_any {v : Value} (L : List (List UInt8)) (w : World) (h20 : L.length ≤ 20) (hv : Rd w 1 v (Ss L)) (hlen : ∀ x, x ∈ L → x.length ≤ 2010) :
 Calls Tryz.prog 11 #[v] w fun e w' => e = .returned (sv (runS L st0)) ∧ Ext w w' := by
 have h := sRunSession_any L w hv (fun x hx => by have := hlen x hx; omega)
 rw [List.take_of_length_le h20] at h
 exact h
theorem ok16 {L M : List (List UInt8)} (h : ∀ x, x ∈ L → x.length ≤ 2010) (hM : ∀ x, x ∈ M → x.length ≤ 2010) : ∀ x, x ∈ L ++ M → x.length ≤ 2010 := fun x hx => by
 rcases List.mem_append.1 hx with hx | hx
 ·exact h x hx
 ·exact hM x hx
set_option maxRecDepth 100000 in
set_option maxHeartbeats 1600000 in
theorem FnSessionRow_any {v : Value} (w : World) (hv : RdBytes w v) (hlaid : LaidP w) :
 Calls Tryz.prog 4 #[v] w fun e w' => e = .returned (.bool true) ∧ Ext w w' := by
 have HLD : Hid (LaidP w) := hlaid
 clear hlaid
 have hv2 := hv
 obtain ⟨ad, n, c, rfl, hn, hc, _⟩ := hv
 unfold maxLen at hc
 by_cases hlen : 1048576 < n
 ·have hlen' : (1048576 : Int) < n := by omega
  go_enter Tryz.func4, Tryz.ntmps4
  go_wp2
  go_ret
  exact ⟨rfl, Below.refl _ _⟩
 have hlen' : ¬ ((1048576 : Int) < n) := by omega
 go_enter Tryz.func4, Tryz.ntmps4
 go_wp2_with (fail)
 refine (DrawRunSession_any _ hv2).mono ?_
 rintro e w1 ⟨v1, L, rfl, ho1, hL16, hLn, hb⟩
 have HL := Lib.hid hLn
 have hrT := ho1.rd
 clear ho1 hv2 hLn
 go_wp2_with (fail)
 refine (run20_any L _ (by omega) hrT (HLD.out.below hb) HL.out).mono ?_
 rintro e w2 ⟨rfl, hx⟩
 replace hb := after hb hx (Nat.le_refl _)
 replace hrT := hrT.below hx (Nat.le_refl _)
 clear hx
 go_wp2_with (fail)
 refine (srun20_any L _ (by omega) hrT HL.out).mono ?_
 rintro e w3 ⟨rfl, hx⟩
 replace hb := after hb hx (Nat.le_refl _)
 replace hrT := hrT.below hx (Nat.le_refl _)
 clear hx
 unfold sv
 generalize runS L st0 = R at *
 go_wp2_with (fail)
 change Calls _ _ _ (w3.alloc (.cells (Ss rowL).toArray 9)) _
 have hoQ := Own.made w3 (Ss rowL).toArray 9 0 1 6 6 (Nat.zero_le _) (Nat.le_refl _) (by unfold maxLen; omega) rfl
 have hx := Below.of_alloc w3 (.cells (Ss rowL).toArray 9)
 replace hb := after hb hx (Nat.le_refl _)
 replace hoQ : Own (w3.alloc (.cells (Ss rowL).toArray 9)) 0 1 (.slice (some ⟨w3.heap.size, 0, none⟩) 6 6) (Ss rowL) := hoQ
 generalize w3.alloc (.cells (Ss rowL).toArray 9) = W4 at *
 have HC := run20_any rowL W4 (by decide) hoQ.rd (HLD.out.below hb) (by decide)
 rw [run_row] at HC
 refine HC.mono ?_
 rintro e w5 ⟨rfl, hx5⟩
 replace hb := after hb hx5 (Nat.le_refl _)
 clear HC hx5 hx hoQ hrT
 unfold sv
 go_wp2
 go_ret
 exact ⟨by first | rfl | (simp; done), hb⟩
theorem made_strs (W : World) (M : List (List UInt8)) (hM : M.length ≤ 20) : Rd (W.alloc (.cells (Ss M).toArray 9)) 1 (.slice (some ⟨W.heap.size, 0, none⟩) M.length M.length) (Ss M) := by
 have h : Own (W.alloc (.cells (Ss M).toArray 9)) 0 1 (.slice (some ⟨W.heap.size, 0, none⟩) M.length M.length) ((Ss M).take (M.length * 1)) := Own.made W (Ss M).toArray 9 0 1 M.length M.length (Nat.zero_le _) (Nat.le_refl _) (by unfold maxLen; omega) (by simp [Ss])
 rw [Nat.mul_one, List.take_of_length_le (by rw [Ss_length]; exact Nat.le_refl _)] at h
 exact h.rd
theorem made_strs_at {g n : Nat} {W : World} {M : List (List UInt8)} {c : Array Value} (hM : M.length ≤ 20) (hg : g = W.heap.size) (hn : n = M.length) (hc : c = (Ss M).toArray) : Rd (W.alloc (.cells c 9)) 1 (.slice (some ⟨g, 0, none⟩) n n) (Ss M) := by
 subst hg hn hc
 exact made_strs W M hM
theorem ba_after (R X : List UInt8) : (⟨(R ++ X).toArray⟩ : ByteArray).extract R.length (R.length + X.length) = ⟨X.toArray⟩ := by
 rw [ba_extract, List.drop_left, show R.length + X.length - R.length = X.length by omega, List.take_length]
theorem ba_first (R X : List UInt8) : (⟨(R ++ X).toArray⟩ : ByteArray).extract 0 R.length = ⟨R.toArray⟩ := by
 rw [ba_extract, List.drop_zero, Nat.sub_zero, List.take_left]
set_option maxRecDepth 100000 in
set_option maxHeartbeats 1600000 in
theorem FnSessionSize_any {v : Value} (w : World) (hv : RdBytes w v) (hlaid : LaidP w) :
 Calls Tryz.prog 5 #[v] w fun e w' => e = .returned (.bool true) ∧ Ext w w' := by
 have HLD : Hid (LaidP w) := hlaid
 clear hlaid
 have hv2 := hv
 obtain ⟨ad, n, c, rfl, hn, hc, _⟩ := hv
 unfold maxLen at hc
 by_cases hlen : 1048576 < n
 ·have hlen' : (1048576 : Int) < n := by omega
  go_enter Tryz.func5, Tryz.ntmps5
  go_wp2
  go_ret
  exact ⟨rfl, Below.refl _ _⟩
 have hlen' : ¬ ((1048576 : Int) < n) := by omega
 go_enter Tryz.func5, Tryz.ntmps5
 go_wp2_with (fail)
 refine (DrawRunSession_any _ hv2).mono ?_
 rintro e w1 ⟨v1, L, rfl, ho1, hL16, hLn, hb⟩
 have HL := Lib.hid hLn
 have hrT := ho1.rd
 clear ho1 hv2 hLn
 obtain ⟨a1, c1, rfl, _, _, _⟩ := hrT.strs
 by_cases hm : L.length + 2 ≤ 20
 ·have hmi : ¬ (20 : Int) < (L.length : Int) + 2 := by omega
  go_wp2_with (fail)
  refine (run20_any L _ (by omega) hrT (HLD.out.below hb) HL.out).mono ?_
  rintro e w2 ⟨rfl, hx⟩
  replace hb := after hb hx (Nat.le_refl _)
  replace hrT := hrT.below hx (Nat.le_refl _)
  clear hx
  go_wp2_with (fail)
  refine (srun20_any L _ (by omega) hrT HL.out).mono ?_
  rintro e w3 ⟨rfl, hx⟩
  replace hb := after hb hx (Nat.le_refl _)
  replace hrT := hrT.below hx (Nat.le_refl _)
  clear hx
  unfold sv
  go_wp2_with (at_builtin; refine wpList_app rfl _ _ _ rfl el_str rfl (Own.empty _ w3.heap.size 1 _) rfl (hrT.alloc (.cells #[] 9)) (Ss_one L) ?hla1 ?hba1 ?hKa1)
  case hla1 => rw [Ss_length]; simp; omega
  case hba1 => simp
  intro va wa hoa hga hfa
  have hba : Below w3.heap.size w3 wa := after (Below.of_alloc w3 (.cells #[] 9)) (ext_app0 hga) (Nat.le_refl _)
  have hsa := hba.size
  try rw [List.nil_append] at hoa
  clear hga hfa
  go_wp2_with (at_builtin; refine wpList_app rfl _ _ _ rfl el_str rfl (hoa.alloc _) rfl (made_strs_at (M := [siz32, rec0]) (by decide) rfl rfl rfl) (Ss_one [siz32, rec0]) ?hlb1 ?hbb1 ?hKb1)
  case hlb1 => rw [Ss_length, Ss_length, show ([siz32, rec0] : List (List UInt8)).length = 2 from rfl]; omega
  case hbb1 => simp; omega
  intro vb wb hob hgb hfb
  have hlt := fun k hk => ((hoa.alloc (.cells (Ss [siz32, rec0]).toArray 9)).lt k hk).1
  have hbb : Below w3.heap.size w3 wb := (hba.alloc hsa (.cells (Ss [siz32, rec0]).toArray 9)).grown hgb (by simp; omega) hlt
  replace hrT := hrT.below hbb (Nat.le_refl _)
  replace hb := after hb hbb (Nat.le_refl _)
  rw [← Ss_append] at hob
  have hrb := hob.rd
  clear hbb hlt hgb hfb hoa hba hob hsa
  go_wp2_with (fail)
  refine (run20_any (L ++ [siz32, rec0]) _ (by rw [List.length_append, show ([siz32, rec0] : List (List UInt8)).length = 2 from rfl]; omega) hrb (HLD.out.below hb) (ok16 HL.out (by decide))).mono ?_
  rintro e w4 ⟨rfl, hx⟩
  replace hb := after hb hx (Nat.le_refl _)
  replace hrT := hrT.below hx (Nat.le_refl _)
  clear hx hrb
  rw [run_size]
  generalize runS L st0 = R at *
  have HX : Hid ((⟨(R ++ [111, 107, 10, 48, 32, 48, 32, 51, 50, 49, 32, 52, 53, 10]).toArray⟩ : ByteArray).extract R.length (R.length + 14) = ⟨#[111, 107, 10, 48, 32, 48, 32, 51, 50, 49, 32, 52, 53, 10]⟩) := ba_after R [111, 107, 10, 48, 32, 48, 32, 51, 50, 49, 32, 52, 53, 10]
  unfold sv
  go_wp2
  go_ret
  exact ⟨by rw [HX.out]; first | rfl | (simp; done), hb⟩
 ·have hmi : (20 : Int) < (L.length : Int) + 2 := by omega
  go_wp2_with (fail)
  refine (run20_any L _ (by omega) hrT (HLD.out.below hb) HL.out).mono ?_
  rintro e w2 ⟨rfl, hx⟩
  replace hb := after hb hx (Nat.le_refl _)
  replace hrT := hrT.below hx (Nat.le_refl _)
  clear hx
  go_wp2_with (fail)
  refine (srun20_any L _ (by omega) hrT HL.out).mono ?_
  rintro e w3 ⟨rfl, hx⟩
  replace hb := after hb hx (Nat.le_refl _)
  replace hrT := hrT.below hx (Nat.le_refl _)
  clear hx
  unfold sv
  go_wp2_with (fail)
  refine (srun20_any L _ (by omega) hrT HL.out).mono ?_
  rintro e w9 ⟨rfl, hx⟩
  replace hb := after hb hx (Nat.le_refl _)
  clear hx hrT
  unfold sv
  generalize runS L st0 = R at *
  go_wp2
  go_ret
  exact ⟨by first | rfl | (simp; done), hb⟩
set_option maxRecDepth 100000 in
set_option maxHeartbeats 1600000 in
theorem FnSessionAddRemove_any {v : Value} (w : World) (hv : RdBytes w v) (hlaid : LaidP w) :
 Calls Tryz.prog 7 #[v] w fun e w' => e = .returned (.bool true) ∧ Ext w w' := by
 have HLD : Hid (LaidP w) := hlaid
 clear hlaid
 have hv2 := hv
 obtain ⟨ad, n, c, rfl, hn, hc, _⟩ := hv
 unfold maxLen at hc
 by_cases hlen : 1048576 < n
 ·have hlen' : (1048576 : Int) < n := by omega
  go_enter Tryz.func7, Tryz.ntmps7
  go_wp2
  go_ret
  exact ⟨rfl, Below.refl _ _⟩
 have hlen' : ¬ ((1048576 : Int) < n) := by omega
 go_enter Tryz.func7, Tryz.ntmps7
 go_wp2_with (fail)
 refine (DrawRunSession_any _ hv2).mono ?_
 rintro e w1 ⟨v1, L, rfl, ho1, hL16, hLn, hb⟩
 have HL := Lib.hid hLn
 have hrT := ho1.rd
 clear ho1 hv2 hLn
 obtain ⟨a1, c1, rfl, _, _, _⟩ := hrT.strs
 by_cases hm : L.length + 3 ≤ 20
 ·have hmi : ¬ (20 : Int) < (L.length : Int) + 3 := by omega
  go_wp2_with (fail)
  refine (run20_any L _ (by omega) hrT (HLD.out.below hb) HL.out).mono ?_
  rintro e w2 ⟨rfl, hx⟩
  replace hb := after hb hx (Nat.le_refl _)
  replace hrT := hrT.below hx (Nat.le_refl _)
  clear hx
  go_wp2_with (fail)
  refine (srun20_any L _ (by omega) hrT HL.out).mono ?_
  rintro e w3 ⟨rfl, hx⟩
  replace hb := after hb hx (Nat.le_refl _)
  replace hrT := hrT.below hx (Nat.le_refl _)
  clear hx
  unfold sv
  have HLO := Lib.hid (run_longer L)
  generalize runS L st0 = R at *
  go_wp2_with (fail)
  change Calls _ _ _ (w3.alloc (.cells (Ss adrL).toArray 9)) _
  have hrQ := made_strs w3 adrL (by decide)
  replace hb := after hb (Below.of_alloc w3 (.cells (Ss adrL).toArray 9)) (Nat.le_refl _)
  replace hrT := hrT.alloc (.cells (Ss adrL).toArray 9)
  generalize w3.alloc (.cells (Ss adrL).toArray 9) = W4 at *
  have HC := run20_any adrL W4 (by decide) hrQ (HLD.out.below hb) (by decide)
  rw [run_adr] at HC
  refine HC.mono ?_
  rintro e w5 ⟨rfl, hx⟩
  replace hb := after hb hx (Nat.le_refl _)
  replace hrT := hrT.below hx (Nat.le_refl _)
  clear HC hx hrQ
  unfold sv
  go_wp2_with (at_builtin; refine wpList_app rfl _ _ _ rfl el_str rfl (Own.empty _ w5.heap.size 1 _) rfl (hrT.alloc (.cells #[] 9)) (Ss_one L) ?hla1 ?hba1 ?hKa1)
  case hla1 => rw [Ss_length]; simp; omega
  case hba1 => simp
  intro va wa hoa hga hfa
  have hba : Below w5.heap.size w5 wa := after (Below.of_alloc w5 (.cells #[] 9)) (ext_app0 hga) (Nat.le_refl _)
  have hsa := hba.size
  try rw [List.nil_append] at hoa
  clear hga hfa
  go_wp2_with (at_builtin; refine wpList_app rfl _ _ _ rfl el_str rfl (hoa.alloc _) rfl (made_strs_at (M := [cntT]) (by decide) rfl rfl rfl) (Ss_one [cntT]) ?hlb1 ?hbb1 ?hKb1)
  case hlb1 => rw [Ss_length, Ss_length, show ([cntT] : List (List UInt8)).length = 1 from rfl]; omega
  case hbb1 => simp; omega
  intro vb wb hob hgb hfb
  have hlt := fun k hk => ((hoa.alloc (.cells (Ss [cntT]).toArray 9)).lt k hk).1
  have hbb : Below w5.heap.size w5 wb := (hba.alloc hsa (.cells (Ss [cntT]).toArray 9)).grown hgb (by simp; omega) hlt
  replace hrT := hrT.below hbb (Nat.le_refl _)
  replace hb := after hb hbb (Nat.le_refl _)
  rw [← Ss_append] at hob
  have hrb := hob.rd
  clear hbb hlt hgb hfb hoa hba hob hsa
  go_wp2_with (fail)
  refine (run20_any (L ++ [cntT]) _ (by rw [List.length_append, show ([cntT] : List (List UInt8)).length = 1 from rfl]; omega) hrb (HLD.out.below hb) (ok16 HL.out (by decide))).mono ?_
  rintro e w6 ⟨rfl, hx⟩
  replace hb := after hb hx (Nat.le_refl _)
  replace hrT := hrT.below hx (Nat.le_refl _)
  clear hx hrb
  generalize runS (L ++ [cntT]) st0 = A at *
  go_wp2_with (at_builtin; refine wpList_app rfl _ _ _ rfl el_str rfl (Own.empty _ w6.heap.size 1 _) rfl (hrT.alloc (.cells #[] 9)) (Ss_one L) ?hla2 ?hba2 ?hKa2)
  case hla2 => rw [Ss_length]; simp; omega
  case hba2 => simp
  intro va wa hoa hga hfa
  have hba : Below w6.heap.size w6 wa := after (Below.of_alloc w6 (.cells #[] 9)) (ext_app0 hga) (Nat.le_refl _)
  have hsa := hba.size
  try rw [List.nil_append] at hoa
  clear hga hfa
  go_wp2_with (at_builtin; refine wpList_app rfl _ _ _ rfl el_str rfl (hoa.alloc _) rfl (made_strs_at (M := [rec0, cntT]) (by decide) rfl rfl rfl) (Ss_one [rec0, cntT]) ?hlb2 ?hbb2 ?hKb2)
  case hlb2 => rw [Ss_length, Ss_length, show ([rec0, cntT] : List (List UInt8)).length = 2 from rfl]; omega
  case hbb2 => simp; omega
  intro vb wb hob hgb hfb
  have hlt := fun k hk => ((hoa.alloc (.cells (Ss [rec0, cntT]).toArray 9)).lt k hk).1
  have hbb : Below w6.heap.size w6 wb := (hba.alloc hsa (.cells (Ss [rec0, cntT]).toArray 9)).grown hgb (by simp; omega) hlt
  replace hrT := hrT.below hbb (Nat.le_refl _)
  replace hb := after hb hbb (Nat.le_refl _)
  rw [← Ss_append] at hob
  have hrb := hob.rd
  clear hbb hlt hgb hfb hoa hba hob hsa
  go_wp2_with (fail)
  refine (run20_any (L ++ [rec0, cntT]) _ (by rw [List.length_append, show ([rec0, cntT] : List (List UInt8)).length = 2 from rfl]; omega) hrb (HLD.out.below hb) (ok16 HL.out (by decide))).mono ?_
  rintro e w7 ⟨rfl, hx⟩
  replace hb := after hb hx (Nat.le_refl _)
  replace hrT := hrT.below hx (Nat.le_refl _)
  clear hx hrb
  generalize runS (L ++ [rec0, cntT]) st0 = B at *
  have h1 : (R.length : Int) < A.length := by have := HLO.out.1; omega
  have h2 : (A.length : Int) < B.length := by have := HLO.out.2; omega
  clear HLO
  unfold sv
  go_wp2
  go_ret
  exact ⟨by first | rfl | (simp; done), hb⟩
 ·have hmi : (20 : Int) < (L.length : Int) + 3 := by omega
  go_wp2_with (fail)
  refine (run20_any L _ (by omega) hrT (HLD.out.below hb) HL.out).mono ?_
  rintro e w2 ⟨rfl, hx⟩
  replace hb := after hb hx (Nat.le_refl _)
  replace hrT := hrT.below hx (Nat.le_refl _)
  clear hx
  go_wp2_with (fail)
  refine (srun20_any L _ (by omega) hrT HL.out).mono ?_
  rintro e w3 ⟨rfl, hx⟩
  replace hb := after hb hx (Nat.le_refl _)
  replace hrT := hrT.below hx (Nat.le_refl _)
  clear hx
  unfold sv
  go_wp2_with (fail)
  refine (srun20_any L _ (by omega) hrT HL.out).mono ?_
  rintro e w9 ⟨rfl, hx⟩
  replace hb := after hb hx (Nat.le_refl _)
  clear hx hrT
  unfold sv
  generalize runS L st0 = R at *
  go_wp2
  go_ret
  exact ⟨by first | rfl | (simp; done), hb⟩
set_option maxRecDepth 100000 in
set_option maxHeartbeats 1600000 in
theorem FnSessionQuestions_any {v : Value} (w : World) (hv : RdBytes w v) (hlaid : LaidP w) :
 Calls Tryz.prog 3 #[v] w fun e w' => e = .returned (.bool true) ∧ Ext w w' := by
 have HLD : Hid (LaidP w) := hlaid
 clear hlaid
 have hv2 := hv
 obtain ⟨ad, n, c, rfl, hn, hc, _⟩ := hv
 unfold maxLen at hc
 by_cases hlen : 1048576 < n
 ·have hlen' : (1048576 : Int) < n := by omega
  go_enter Tryz.func3, Tryz.ntmps3
  go_wp2
  go_ret
  exact ⟨rfl, Below.refl _ _⟩
 have hlen' : ¬ ((1048576 : Int) < n) := by omega
 go_enter Tryz.func3, Tryz.ntmps3
 go_wp2_with (fail)
 refine (DrawRunSession_any _ hv2).mono ?_
 rintro e w1 ⟨v1, L, rfl, ho1, hL16, hLn, hb⟩
 have HL := Lib.hid hLn
 have hrT := ho1.rd
 clear ho1 hv2 hLn
 obtain ⟨a1, c1, rfl, _, _, _⟩ := hrT.strs
 by_cases hm : L.length + 4 ≤ 20
 ·have hmi : ¬ (20 : Int) < (L.length : Int) + 4 := by omega
  go_wp2_with (fail)
  refine (run20_any L _ (by omega) hrT (HLD.out.below hb) HL.out).mono ?_
  rintro e w2 ⟨rfl, hx⟩
  replace hb := after hb hx (Nat.le_refl _)
  replace hrT := hrT.below hx (Nat.le_refl _)
  clear hx
  go_wp2_with (fail)
  refine (srun20_any L _ (by omega) hrT HL.out).mono ?_
  rintro e w3 ⟨rfl, hx⟩
  replace hb := after hb hx (Nat.le_refl _)
  replace hrT := hrT.below hx (Nat.le_refl _)
  clear hx
  unfold sv
  go_wp2_with (at_builtin; refine wpList_app rfl _ _ _ rfl el_str rfl (Own.empty _ w3.heap.size 1 _) rfl (hrT.alloc (.cells #[] 9)) (Ss_one L) ?hla1 ?hba1 ?hKa1)
  case hla1 => rw [Ss_length]; simp; omega
  case hba1 => simp
  intro va wa hoa hga hfa
  have hba : Below w3.heap.size w3 wa := after (Below.of_alloc w3 (.cells #[] 9)) (ext_app0 hga) (Nat.le_refl _)
  have hsa := hba.size
  try rw [List.nil_append] at hoa
  clear hga hfa
  go_wp2_with (at_builtin; refine wpList_app rfl _ _ _ rfl el_str rfl (hoa.alloc _) rfl (made_strs_at (M := [rec0]) (by decide) rfl rfl rfl) (Ss_one [rec0]) ?hlb1 ?hbb1 ?hKb1)
  case hlb1 => rw [Ss_length, Ss_length, show ([rec0] : List (List UInt8)).length = 1 from rfl]; omega
  case hbb1 => simp; omega
  intro vb wb hob hgb hfb
  have hlt := fun k hk => ((hoa.alloc (.cells (Ss [rec0]).toArray 9)).lt k hk).1
  have hbb : Below w3.heap.size w3 wb := (hba.alloc hsa (.cells (Ss [rec0]).toArray 9)).grown hgb (by simp; omega) hlt
  replace hrT := hrT.below hbb (Nat.le_refl _)
  replace hb := after hb hbb (Nat.le_refl _)
  rw [← Ss_append] at hob
  have hrb := hob.rd
  clear hbb hlt hgb hfb hoa hba hob hsa
  go_wp2_with (fail)
  refine (run20_any (L ++ [rec0]) _ (by rw [List.length_append, show ([rec0] : List (List UInt8)).length = 1 from rfl]; omega) hrb (HLD.out.below hb) (ok16 HL.out (by decide))).mono ?_
  rintro e w4 ⟨rfl, hx⟩
  replace hb := after hb hx (Nat.le_refl _)
  replace hrT := hrT.below hx (Nat.le_refl _)
  clear hx hrb
  go_wp2_with (at_builtin; refine wpList_app rfl _ _ _ rfl el_str rfl (Own.empty _ w4.heap.size 1 _) rfl (hrT.alloc (.cells #[] 9)) (Ss_one L) ?hla2 ?hba2 ?hKa2)
  case hla2 => rw [Ss_length]; simp; omega
  case hba2 => simp
  intro va wa hoa hga hfa
  have hba : Below w4.heap.size w4 wa := after (Below.of_alloc w4 (.cells #[] 9)) (ext_app0 hga) (Nat.le_refl _)
  have hsa := hba.size
  try rw [List.nil_append] at hoa
  clear hga hfa
  go_wp2_with (at_builtin; refine wpList_app rfl _ _ _ rfl el_str rfl (hoa.alloc _) rfl (made_strs_at (M := [cntT, hit33, rec1, rec0]) (by decide) rfl rfl rfl) (Ss_one [cntT, hit33, rec1, rec0]) ?hlb2 ?hbb2 ?hKb2)
  case hlb2 => rw [Ss_length, Ss_length, show ([cntT, hit33, rec1, rec0] : List (List UInt8)).length = 4 from rfl]; omega
  case hbb2 => simp; omega
  intro vb wb hob hgb hfb
  have hlt := fun k hk => ((hoa.alloc (.cells (Ss [cntT, hit33, rec1, rec0]).toArray 9)).lt k hk).1
  have hbb : Below w4.heap.size w4 wb := (hba.alloc hsa (.cells (Ss [cntT, hit33, rec1, rec0]).toArray 9)).grown hgb (by simp; omega) hlt
  replace hrT := hrT.below hbb (Nat.le_refl _)
  replace hb := after hb hbb (Nat.le_refl _)
  rw [← Ss_append] at hob
  have hrb := hob.rd
  clear hbb hlt hgb hfb hoa hba hob hsa
  go_wp2_with (fail)
  refine (run20_any (L ++ [cntT, hit33, rec1, rec0]) _ (by rw [List.length_append, show ([cntT, hit33, rec1, rec0] : List (List UInt8)).length = 4 from rfl]; omega) hrb (HLD.out.below hb) (ok16 HL.out (by decide))).mono ?_
  rintro e w5 ⟨rfl, hx⟩
  replace hb := after hb hx (Nat.le_refl _)
  replace hrT := hrT.below hx (Nat.le_refl _)
  clear hx hrb
  obtain ⟨X, P, hP, eA, eB⟩ := run_quest L
  have hlb := runS_len (L ++ [cntT, hit33, rec1, rec0]) st0_ok
  rw [eB, List.length_append, List.length_append, List.length_append, show ([cntT, hit33, rec1, rec0] : List (List UInt8)).length = 4 from rfl] at hlb
  have hlb2 : P.length + X.length ≤ 1000000 := by omega
  have hgt : (X.length : Int) < (P.length : Int) + X.length := by omega
  have hsub : ((P.length : Int) + X.length) - X.length = P.length := by omega
  rw [eA, eB]
  clear eA eB hlb
  generalize runS L st0 = R at *
  have HA := Lib.hid (ba_after R X)
  have HB0 := ba_after R (P ++ X)
  rw [List.length_append] at HB0
  have HB := Lib.hid HB0
  clear HB0
  have HC := Lib.hid (ba_after P X)
  unfold sv
  go_wp2
  go_ret
  exact ⟨by rw [HA.out, HB.out, HC.out]; first | rfl | (simp; done), hb⟩
 ·have hmi : (20 : Int) < (L.length : Int) + 4 := by omega
  go_wp2_with (fail)
  refine (run20_any L _ (by omega) hrT (HLD.out.below hb) HL.out).mono ?_
  rintro e w2 ⟨rfl, hx⟩
  replace hb := after hb hx (Nat.le_refl _)
  replace hrT := hrT.below hx (Nat.le_refl _)
  clear hx
  go_wp2_with (fail)
  refine (srun20_any L _ (by omega) hrT HL.out).mono ?_
  rintro e w3 ⟨rfl, hx⟩
  replace hb := after hb hx (Nat.le_refl _)
  replace hrT := hrT.below hx (Nat.le_refl _)
  clear hx
  unfold sv
  go_wp2_with (fail)
  refine (srun20_any L _ (by omega) hrT HL.out).mono ?_
  rintro e w9 ⟨rfl, hx⟩
  replace hb := after hb hx (Nat.le_refl _)
  clear hx hrT
  unfold sv
  generalize runS L st0 = R at *
  go_wp2
  go_ret
  exact ⟨by first | rfl | (simp; done), hb⟩
/-- the first lines -/
theorem rd_take {w : World} {a : Option Addr} {n c k : Nat} {L : List (List UInt8)} (h : Rd w 1 (.slice a n c) (Ss L)) (hk : k ≤ n) : Rd w 1 (.slice a k c) (Ss (L.take k)) := by
 obtain ⟨a', n', c', e, hl, hn, hc, hx⟩ := h
 simp only [Value.slice.injEq] at e
 obtain ⟨rfl, rfl, rfl⟩ := e
 rw [Ss_length] at hl
 refine ⟨_, _, _, rfl, by rw [Ss_length, List.length_take]; omega, by omega, hc, ?_⟩
 rcases hx with hx | ⟨b, off, rfl, hx⟩
 ·have h0 : L = [] := List.eq_nil_of_length_eq_zero (by rw [← Ss_length, hx]; rfl)
  exact .inl (by rw [h0, List.take_nil]; rfl)
 ·refine .inr ⟨b, off, rfl, fun j u hj => hx j u ?_⟩
  have e2 : Ss (L.take k) = (Ss L).take k := List.map_take
  rw [e2, List.getElem?_take] at hj
  split at hj
  ·exact hj
  ·cases hj
set_option maxRecDepth 100000 in
set_option maxHeartbeats 1600000 in
theorem FnSessionPrefix_any {v : Value} (w : World) (hv : RdBytes w v) (hlaid : LaidP w) :
 Calls Tryz.prog 8 #[v] w fun e w' => e = .returned (.bool true) ∧ Ext w w' := by
 have HLD : Hid (LaidP w) := hlaid
 clear hlaid
 have hv2 := hv
 obtain ⟨ad, n, c, rfl, hn, hc, _⟩ := hv
 unfold maxLen at hc
 by_cases hlen : 1048576 < n
 ·have hlen' : (1048576 : Int) < n := by omega
  go_enter Tryz.func8, Tryz.ntmps8
  go_wp2
  go_ret
  exact ⟨rfl, Below.refl _ _⟩
 have hlen' : ¬ ((1048576 : Int) < n) := by omega
 go_enter Tryz.func8, Tryz.ntmps8
 go_wp2_with (fail)
 refine (DrawRunSession_any _ hv2).mono ?_
 rintro e w1 ⟨v1, L, rfl, ho1, hL16, hLn, hb⟩
 have HL := Lib.hid hLn
 have hrT := ho1.rd
 clear ho1 hv2 hLn
 obtain ⟨a1, c1, rfl, _, _, _⟩ := hrT.strs
 go_wp2_with (fail)
 refine (run20_any L _ (by omega) hrT (HLD.out.below hb) HL.out).mono ?_
 rintro e w2 ⟨rfl, hx⟩
 replace hb := after hb hx (Nat.le_refl _)
 replace hrT := hrT.below hx (Nat.le_refl _)
 clear hx
 go_wp2_with (fail)
 refine (srun20_any L _ (by omega) hrT HL.out).mono ?_
 rintro e w3 ⟨rfl, hx⟩
 replace hb := after hb hx (Nat.le_refl _)
 replace hrT := hrT.below hx (Nat.le_refl _)
 clear hx
 unfold sv
 have HP := Lib.hid (run_prefix L)
 have HTL : Hid (∀ k x, x ∈ L.take k → x.length ≤ 2010) := fun k x hx => HL.out x (List.mem_of_mem_take hx)
 generalize runS L st0 = R at *
 have HRT := Lib.hid hrT
 clear hrT
 go_wp2
 go_loopw [5] (fun i wr => ∃ k : Nat, i = .int .i64 k ∧ k ≤ L.length ∧ Below w.heap.size w wr ∧ Below w3.heap.size w3 wr) (fun i _ => L.length - (intOf i).toNat)
 case atStart => exact ⟨0, rfl, Nat.zero_le _, hb, Below.refl _ _⟩
 case round =>
  clear hb
  obtain ⟨k, rfl, hk, hb, hb3⟩ := hrel
  by_cases hlt : k < L.length
  ·have hki : (k : Int) < L.length := by omega
   have hk0 : (0 : Int) ≤ (k : Int) := by omega
   have hrk := rd_take (HRT.out.below hb3 (Nat.le_refl _)) hk
   obtain ⟨X, hX⟩ := HP.out k
   have HC := Lib.hid (run20_any (L.take k) _ (by rw [List.length_take]; omega) hrk (HLD.out.below hb) (HTL.out k))
   generalize runS (L.take k) st0 = Q at *
   have hF := ba_first Q X
   rw [← hX] at hF
   have hne : ((⟨R.toArray⟩ : ByteArray).extract 0 Q.length).toList = Q := by
    rw [hF]
    simp
   clear hF
   have hql : (Q.length : Int) ≤ R.length := by rw [hX, List.length_append]; omega
   clear hX hrk
   go_wp2_with (fail)
   refine HC.out.mono ?_
   rintro e w5 ⟨rfl, hx⟩
   replace hb := after hb hx (Nat.le_refl _)
   replace hb3 := after hb3 hx (Nat.le_refl _)
   clear hx HC
   unfold sv
   go_wp2
   go_roundw
   case rel => exact ⟨k + 1, by go_num, by omega, hb, hb3⟩
   case measure => simp [intOf]; omega
  ·obtain rfl : k = L.length := by omega
   go_wp2
   go_ret
   exact ⟨rfl, hb⟩
end Go.Proofs.YthkkgleoikpfgaaGreatDoor
