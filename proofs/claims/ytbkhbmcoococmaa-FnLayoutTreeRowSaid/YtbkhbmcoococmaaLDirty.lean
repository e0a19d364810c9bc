/-
  The laws FnDirtyBoxesAll, FnDirtyRootsAgain, FnDirtyBoxesAround: the walks.
-/
import Derived.Test.YtbkhbmcoococmaaSMark
import Derived.Test.YtbkhbmcoococmaaDMark
import Derived.Test.YtbkhbmcoococmaaAg
namespace Go.Proofs.Ytbkhbmcoococmaa
open Go Go.RowKit

/-- the one number of '[]int{x}' -/
theorem rd_one {w : World} {g : Nat} (x : Int) (e : TypeId) (hg : g = w.heap.size) : Rd (w.alloc (.cells #[.int .i64 x] e)) 1 (.slice (some ⟨g, 0, none⟩) 1 1) (Is [x]) := by
  have := Rd.oneAt (w := w) (g := g) #[.int .i64 x] e hg
  exact this
theorem mkB_sub {l : List Bx} {ms ns : List Int} (h : mkB l ms = true) (hn : ns.length ≤ 16) (hi : inMarks l ns) : mkB l ns = true :=
  mkB_iff.2 ⟨(mkB_iff.1 h).1, hn, hi⟩

section
variable {P : Program} {w : World} {ops : Array Oper} {rest : List Oper} {o : Oper} {a : Act} {Q : Exit → Act → World → Prop}
/-- append in a walk, behind a guard that holds -/
theorem wpList_appG (hg : Region.wanted o (yielded ops a.tmps) = true) (s x : Operand) (t : TypeId) (hop : o.op = Op.call { callee := Callee.builtin Builtin.append, args := #[s, x], argTypes := #[t, t] })
    {e : TypeId} {z : Value} {size bytes : Nat} (E : EL P t e z size bytes) {base : Nat} {v : Value} {xs : List Value} (hs : a.eval s = v) (hv : Own w base size v xs)
    {src : Value} {ys : List Value} (hx : a.eval x = src) (hsrc : Rd w size src ys) (h1 : ∀ y ∈ ys, y.oneCell' = true) (hlen : xs.length + ys.length ≤ 1073741824) (hbase : base ≤ w.heap.size)
    (hK : ∀ v' w', Own w' base size v' (xs ++ ys) → w.grownBy w' (blk v) → (blk v' = blk v ∨ ∃ k, blk v' = some k ∧ w.heap.size ≤ k) → wpList P ops Q rest (a.put o.dst v') w') :
    wpList P ops Q (o :: rest) a w := by
  refine wpList_step fun K hK' => ?_
  rw [if_pos hg]
  obtain ⟨v', w', hrun, r1, r2, r3⟩ := run_append_Own (P := P) (ty := o.type) E hv hsrc h1 hlen hbase
  unfold Oper.wp
  simp [execOp, hop, resolve, invoke, builtin, hs, hx, hrun, Result.andThen]
  exact hK' _ _ (hK v' w' r1 r2 r3)
end

end Go.Proofs.Ytbkhbmcoococmaa
