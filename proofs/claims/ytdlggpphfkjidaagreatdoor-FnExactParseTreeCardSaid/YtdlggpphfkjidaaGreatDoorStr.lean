/-
  Lists of strings in memory.
-/
import Derived.Test.YtdlggpphfkjidaaGreatDoorSlices
import Derived.Test.YtdlggpphfkjidaaGreatDoorVal
namespace Go.Proofs.YtdlggpphfkjidaaGreatDoor
open Go Go.RowKit

/-- a text as a value -/
def sv (s : List UInt8) : Value := .string ⟨s.toArray⟩
def Ss (l : List (List UInt8)) : List Value := l.map sv
theorem Ss_length (l : List (List UInt8)) : (Ss l).length = l.length := by simp [Ss]
theorem Ss_append (l m : List (List UInt8)) : Ss (l ++ m) = Ss l ++ Ss m := by simp [Ss]
theorem Ss_get {l : List (List UInt8)} {j : Nat} {x : List UInt8} (h : l[j]? = some x) : (Ss l)[j]? = some (sv x) := by simp [Ss, h]
theorem Ss_one (l : List (List UInt8)) : ∀ y ∈ Ss l, y.oneCell' = true := by
  intro y hy
  simp only [Ss, List.mem_map] at hy
  obtain ⟨x, _, rfl⟩ := hy
  rfl
theorem Rd.strs {w : World} {v : Value} {l : List (List UInt8)} (h : Rd w 1 v (Ss l)) :
    ∃ a c, v = .slice a l.length c ∧ l.length ≤ c ∧ c ≤ maxLen ∧ ∀ (k : Nat) (x : List UInt8), l[k]? = some x → ∃ b off, a = some ⟨b, off, none⟩ ∧ ∀ (j : Nat) (y : List UInt8), l[j]? = some y → w.cell? ⟨b, off + j, none⟩ = some (sv y) := by
  obtain ⟨a, n, c, rfl, hl, hn, hc, hx⟩ := h
  rw [Ss_length] at hl
  obtain rfl : n = l.length := by omega
  refine ⟨a, c, rfl, hn, hc, fun k x hk => ?_⟩
  rcases hx with hx | ⟨b, off, rfl, hx⟩
  · have := congrArg List.length hx
    rw [Ss_length] at this
    have : l = [] := List.eq_nil_of_length_eq_zero this
    subst this
    simp at hk
  · exact ⟨b, off, rfl, fun j y hy => hx j _ (Ss_get hy)⟩
theorem el_str : EL Tryz.prog 37 9 (.string ⟨#[]⟩) 1 16 :=
  ⟨by kernel_rfl, info_parts (by kernel_rfl), rfl, by decide, by decide⟩
theorem ba_append (s t : List UInt8) : (⟨s.toArray⟩ : ByteArray) ++ (⟨t.toArray⟩ : ByteArray) = ⟨(s ++ t).toArray⟩ := by
  apply ByteArray.ext
  simp
theorem cellB {w w' : World} {p : Addr} {x : Value} (hb : Below w.heap.size w w') (h : w.cell? p = some x) : w'.cell? p = some x := by
  rw [hb.cell (World.block_lt_of_cell? _ _ h)]
  exact h
theorem byte_at {S : List UInt8} {k : Nat} {c : UInt8} (h : S[k]? = some c) (hk : k < (⟨S.toArray⟩ : ByteArray).size) : (⟨S.toArray⟩ : ByteArray)[k]'hk = c := by
  obtain ⟨h1, h2⟩ := List.getElem?_eq_some_iff.1 h
  subst h2
  rfl
theorem byte_ne {c d : UInt8} (h : c ≠ d) : ((c.toNat : Int) == (d.toNat : Int)) = false := by
  rw [beq_eq_false_iff_ne]
  intro e
  exact h (UInt8.toNat_inj.1 (by omega))
end Go.Proofs.YtdlggpphfkjidaaGreatDoor
