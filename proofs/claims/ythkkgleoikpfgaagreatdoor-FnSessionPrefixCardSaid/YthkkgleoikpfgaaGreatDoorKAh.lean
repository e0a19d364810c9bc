/-
  Parts of the proof: Shf.
-/
import Derived.Test.YthkkgleoikpfgaaGreatDoorKAg
import Derived.Test.YthkkgleoikpfgaaGreatDoorKAd
import Derived.Test.YthkkgleoikpfgaaGreatDoorKAb
namespace Go.Proofs.YthkkgleoikpfgaaGreatDoor
open Go Go.RowKit
/-- the library's table of powers of ten stands -/
def Tab (w : World) : Prop := Lib.TabIs Tryz.prog w "internal/strconv.uint64pow10" .u64 Lib.pow10Tab
theorem Tab.below {w w' : World} {B : Nat} (h : Tab w) (hb : Below B w w') (hB : w.heap.size ≤ B) : Tab w' := by
 unfold Tab Lib.TabIs World.var? at h ⊢
 cases hg : Tryz.prog.globalNamed "internal/strconv.uint64pow10" with
 | none =>
  rw [hg] at h
  cases h
 | some g =>
  rw [hg] at h
  simp only [Option.bind_some] at h ⊢
  have hlt : g < w.heap.size := by
   rcases Nat.lt_or_ge g w.heap.size with h' | h'
   ·exact h'
   ·rw [Array.getElem?_eq_none h'] at h
    cases h
  rw [hb.block g (Nat.lt_of_lt_of_le hlt hB)]
  exact h
theorem itoa_any {n : Int} (w : World) (h : 0 ≤ n ∧ n ≤ 100) (ht : Tab w) : Calls Tryz.prog 91 #[.int .i64 n] w fun e w' => e = .returned (sv (numT n)) ∧ Ext w w' :=
 (Tryz.strconv_Itoa n (by omega) (by omega) w ht).mono fun e w' ⟨he, k, os, hw⟩ => by
  subst hw
  refine ⟨?_, ⟨rfl, rfl, rfl, by simp [Go.Sort.grow, World.drewN], fun k hk => by simp [Go.Sort.grow, World.drewN, Array.getElem?_append, hk]⟩⟩
  rw [he]
  unfold sv numT Lib.itoa
  rw [if_neg (by omega)]
theorem join_any {v : Value} {l : List (List UInt8)} (c : UInt8) (w : World) (hv : Rd w 1 v (Ss l)) (hne : l ≠ []) (hl : l.length ≤ 1000000) (hj : (Lib.join l [c]).length ≤ 1000000000) :
 Calls Tryz.prog 92 #[v, .string ⟨#[c]⟩] w fun e w' => e = .returned (sv (Lib.join l [c])) ∧ Ext w w' := by
 obtain ⟨a, cp, rfl, hn, hc, hC⟩ := hv.strs
 obtain ⟨x, hx⟩ : ∃ x, l[0]? = some x := ⟨_, List.getElem?_eq_getElem (List.length_pos_iff.2 hne)⟩
 obtain ⟨b, o, rfl, hcell⟩ := hC 0 x hx
 have hb := World.block_lt_of_cell? _ _ (hcell 0 x hx)
 have e : (l.map fun s => (⟨s.toArray⟩ : ByteArray)).map (·.data.toList) = l := by
  rw [List.map_map]
  conv => rhs; rw [← List.map_id l]
  apply List.map_congr_left
  intro s _
  rfl
 have hlen : (l.map fun s => (⟨s.toArray⟩ : ByteArray)).length = l.length := List.length_map _
 have h := Tryz.strings_Join b o cp (l.map fun s => ⟨s.toArray⟩) ⟨#[c]⟩ w (fun j x hj => by
  rw [List.getElem?_map] at hj
  cases hlj : l[j]? with
  | none =>
   rw [hlj] at hj
   cases hj
  | some y =>
   rw [hlj] at hj
   cases hj
   exact hcell j y hlj) hb (by omega) (by omega) (by rw [e, show (⟨#[c]⟩ : ByteArray).data.toList = [c] from rfl]; omega)
 rw [e, hlen, show (⟨#[c]⟩ : ByteArray).data.toList = [c] from rfl] at h
 exact h
end Go.Proofs.YthkkgleoikpfgaaGreatDoor
