/-
  Reading texts back, of the program: the scanner: next, number.
-/
import Derived.Deep.Cut
import Derived.IntWalk
import Derived.Lib.AtoiErrMem
import Derived.Test.YtdlggpphfkjidaaGreatDoorShf
import Derived.Test.YtdlggpphfkjidaaGreatDoorIa
import Derived.Test.YtdlggpphfkjidaaGreatDoorRdr
import Derived.Test.YtdlggpphfkjidaaGreatDoorBx
import Derived.Test.YtdlggpphfkjidaaGreatDoorCa
import Derived.Test.YtdlggpphfkjidaaGreatDoorStr
namespace Go.Proofs.YtdlggpphfkjidaaGreatDoor
open Go Go.RowKit

/-- the table of powers, and the two errors of strconv -/
def LaidP (w : World) : Prop := Tab w ∧ (∃ ev, w.cell? ⟨4, 0, none⟩ = some ev ∧ (ev = .nilIface ∨ ∃ te pe, ev = .iface te pe)) ∧ (∃ ev, w.cell? ⟨5, 0, none⟩ = some ev ∧ (ev = .nilIface ∨ ∃ te pe, ev = .iface te pe))
/-- the words that are left -/
def sl (gw k n : Nat) : Value := .slice (some ⟨gw, k, none⟩) (n - k) (n - k)
def ScA (sc gw : Nat) (ws : List (List UInt8)) (k : Nat) (w : World) : Prop :=
  Keep gw (.cells (Ss ws).toArray 9) w ∧ (∃ v, Keep sc (.cells #[v] 97) w ∧ ((k < ws.length ∧ v = sl gw k ws.length) ∨ (ws.length ≤ k ∧ ∃ a c, v = .slice a 0 c))) ∧ gw ≠ sc
theorem bel_setOne (sc : Nat) (w : World) (u : Value) : ExtR sc w (w.setCell ⟨sc, 0, none⟩ u) := by
  refine ⟨rfl, rfl, rfl, by simp [World.setCell], fun k _ hr => Below.heap_setCell _ _ _ _ (by show k ≠ sc; exact hr)⟩
set_option maxRecDepth 100000 in
set_option maxHeartbeats 1000000 in
theorem next_any {sc gw k : Nat} {ws : List (List UInt8)} (w : World) (h : ScA sc gw ws k w) (_hl : ws.length ≤ 1000000000) :
    Calls Tryz.prog 63 #[.pointer (some ⟨sc, 0, none⟩)] w fun e w' => e = .returned (sv (ws.getD k [])) ∧ ScA sc gw ws (k + 1) w' ∧ ExtR sc w w' := by
  obtain ⟨kg, ⟨v, ks, hv⟩, hne⟩ := h
  have c0 : w.cell? ⟨sc, 0, none⟩ = some v := ks.cell 0
  rcases hv with ⟨hk, rfl⟩ | ⟨hk, a, c, rfl⟩
  · obtain ⟨x, hx⟩ : ∃ x, ws[k]? = some x := ⟨_, List.getElem?_eq_getElem hk⟩
    have hg : ws.getD k [] = x := by rw [List.getD_eq_getElem?_getD, hx]; rfl
    have f0 := ks.frozen 0
    have cw : w.cell? ⟨gw, k, none⟩ = some (.string ⟨x.toArray⟩) := by
      rw [kg.cell k]
      simp [Ss, hx, sv]
    unfold sl at c0
    rw [hg]
    have kg2 := fun u : Value => kg.setOther (p := ⟨sc, 0, none⟩) hne u
    have hbel := fun u : Value => (show ExtR sc w (w.setCell ⟨sc, 0, none⟩ u) from bel_setOne sc w u)
    have ks2 := fun u : Value => (show Keep sc (.cells #[u] 97) (w.setCell ⟨sc, 0, none⟩ u) from ks.store 0 u)
    unfold sv
    by_cases hlast : ws.length - k = 1
    · rw [hlast] at c0
      go_enter Tryz.func63, Tryz.ntmps63
      go_wp2
      go_ret
      exact ⟨rfl, ⟨kg2 _, ⟨_, ks2 _, .inr ⟨by omega, _, _, rfl⟩⟩, hne⟩, hbel _⟩
    · have hz2 : (((ws.length - k : Nat) : Int) == 0) = false := beq_eq_false_iff_ne.2 (by omega)
      have hlt : (0 : Int) < ((ws.length - k : Nat) : Int) := by omega
      have hle : (1 : Int) ≤ ((ws.length - k : Nat) : Int) := by omega
      have hl1 : 1 < ws.length - k := by omega
      go_enter Tryz.func63, Tryz.ntmps63
      go_wp2
      go_ret
      refine ⟨rfl, ⟨kg2 _, ⟨_, ks2 _, .inl ⟨by omega, ?_⟩⟩, hne⟩, hbel _⟩
      unfold sl
      rw [Nat.sub_sub]
  · go_enter Tryz.func63, Tryz.ntmps63
    go_wp2
    go_ret
    refine ⟨?_, ⟨kg, ⟨_, ks, .inr ⟨by omega, a, c, rfl⟩⟩, hne⟩, Bel.refl _ _ _⟩
    rw [List.getD_eq_getElem?_getD, List.getElem?_eq_none hk]
    rfl
theorem LaidP.below {w w' : World} (h : LaidP w) (hb : Below w.heap.size w w') : LaidP w' := by
  obtain ⟨ht, ⟨e1, h1, k1⟩, ⟨e2, h2, k2⟩⟩ := h
  exact ⟨ht.below hb (Nat.le_refl _), ⟨e1, cellB hb h1, k1⟩, ⟨e2, cellB hb h2, k2⟩⟩
theorem below_bel {B sc : Nat} {w0 w w' : World} (h : Below B w0 w) (hx : ExtR sc w w') (hB : B ≤ w.heap.size) (hs : B ≤ sc) : Below B w0 w' :=
  h.trans (below_of_bel (hx.mono hB) hs)
theorem atoi_any (s : List UInt8) (w : World) (hs : s.length ≤ 1000000000) (hl : LaidP w) :
    Calls Tryz.prog 85 #[sv s] w fun e w' => (∃ ev, e = .returned (.tuple #[.int .i64 (aI s), ev])) ∧ Ext w w' := by
  obtain ⟨_, ⟨e1, h1, k1⟩, ⟨e2, h2, k2⟩⟩ := hl
  have hsz : (⟨s.toArray⟩ : ByteArray).size = s.length := rfl
  have hdt : (⟨s.toArray⟩ : ByteArray).data.toList = s := rfl
  unfold sv
  have q : (∃ v, Lib.atoiAll s = .ok v) ∨ Lib.atoiAll s = .syntax ∨ Lib.atoiAll s = .range := by
    cases Lib.atoiAll s <;> simp
  rcases q with ⟨v, ha⟩ | ha | ha
  · refine (Tryz.strconv_Atoi_ok ⟨s.toArray⟩ (by rw [hsz]; omega) v (by rw [hdt]; exact ha) w).mono ?_
    rintro e w' ⟨rfl, h⟩
    refine ⟨⟨.nilIface, by unfold aI; rw [ha]⟩, ?_⟩
    rcases h with rfl | ⟨t, rfl⟩
    · exact Below.refl _ _
    · exact Lib.bytesWorld_below _ _ _
  · refine (Tryz.strconv_Atoi_syntax ⟨s.toArray⟩ (by rw [hsz]; omega) (by rw [hdt]; exact ha) e1 w h1 k1).mono ?_
    rintro e w' ⟨N, rfl, _, _, hb⟩
    exact ⟨⟨_, by unfold aI; rw [ha]⟩, hb⟩
  · refine (Tryz.strconv_Atoi_range ⟨s.toArray⟩ (by rw [hsz]; omega) (by rw [hdt]; exact ha) e2 w h2 k2).mono ?_
    rintro e w' ⟨N, rfl, _, _, hb⟩
    exact ⟨⟨_, by unfold aI; rw [ha]⟩, hb⟩
set_option maxRecDepth 100000 in
set_option maxHeartbeats 1000000 in
theorem number_any {sc gw k B : Nat} {ws : List (List UInt8)} (w0 w : World) (h : ScA sc gw ws k w) (hl : ws.length ≤ 1000000000) (hlen : (ws.getD k []).length ≤ 1000000000) (h0 : LaidP w0) (hB : B = w0.heap.size) (hb : Below B w0 w) (hsc : B ≤ sc) :
    Calls Tryz.prog 64 #[.pointer (some ⟨sc, 0, none⟩)] w fun e w' => e = .returned (.int .i64 (aI (ws.getD k []))) ∧ ScA sc gw ws (k + 1) w' ∧ ExtR sc w w' := by
  subst hB
  have hgl : gw < w.heap.size := h.1.lt
  have hne : gw ≠ sc := h.2.2
  obtain ⟨y, hy⟩ : ∃ y, ws.getD k [] = y := ⟨_, rfl⟩
  rw [hy] at hlen ⊢
  go_enter Tryz.func64, Tryz.ntmps64
  go_wp2_with (fail)
  refine (next_any _ h hl).mono ?_
  rintro e w1 ⟨rfl, h1, hx1⟩
  have hb1 := below_bel hb hx1 hb.size hsc
  rw [hy]
  clear hy
  unfold sv
  go_wp2_with (fail)
  refine (atoi_any y _ hlen (h0.below hb1)).mono ?_
  rintro e w2 ⟨⟨ev, rfl⟩, hx2⟩
  have h2 : ScA sc gw ws (k + 1) w2 := by
    obtain ⟨kg, ⟨v, ks, hv⟩, _⟩ := h1
    exact ⟨keepE kg hx2, ⟨v, keepE ks hx2, hv⟩, hne⟩
  have hx : ExtR sc w w2 := afterE hx1 hx2 (Nat.le_refl _)
  go_wp2
  go_ret
  exact ⟨rfl, h2, hx⟩
end Go.Proofs.YtdlggpphfkjidaaGreatDoor
