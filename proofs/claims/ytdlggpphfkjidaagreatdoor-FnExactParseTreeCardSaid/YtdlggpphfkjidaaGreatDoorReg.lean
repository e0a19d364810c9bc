/-
  A region that draws its order: operations that are passed over (their guard is false), and operations that yield one value in every world at hand, taken one by one.
-/
import Derived.Test.YtdlggpphfkjidaaGreatDoorBase
import Derived.Deep.RegionHeld3
namespace Go.Proofs.YtdlggpphfkjidaaGreatDoor
open Go Go.RowKit

section
variable {P : Program} {ops : Array Oper} {Q : Exit → Act → World → Prop} {md : Region.Mode} {S : World → Prop}

def putUndef (ds : List (Option Tmp)) (a : Act) : Act := ds.foldl (fun a d => a.put d undef) a

def skipB (md : Region.Mode) (ops : Array Oper) : List Nat → List (Option Tmp) → Array Bool → Act → Bool
  | [], [], _, _ => true
  | i :: is, d :: ds, listed, a =>
    match ops[i]? with
    | none => false
    | some o => o.dst == d && Region.free md ops listed i && (Region.ready md ops listed).contains i && !(Region.wanted o (yielded ops a.tmps)) && skipB md ops is ds (listed.setIfInBounds i true) (a.put d undef)
  | _, _, _, _ => false

def listAll (is : List Nat) (listed : Array Bool) : Array Bool := is.foldl (fun l i => l.setIfInBounds i true) listed

/-- operations that are passed over -/
theorem hSkips (hs : Region.noSelect ops = true) (hQ : ∀ (d : Option Tmp) (v : Value) c a w, Q (.panic c) (a.put d v) w → Q (.panic c) a w) {w : World} (hS : S w) :
    ∀ (is : List Nat) (ds : List (Option Tmp)) {fuel : Nat} {listed : Array Bool} {a : Act}, skipB md ops is ds listed a = true →
    wpAnyH P md ops Q S fuel (listAll is listed) (putUndef ds a) w → wpAnyH P md ops Q S (fuel + is.length) listed a w
  | [], [], _, _, _, _, h => h
  | [], _ :: _, _, _, _, hb, _ => by simp [skipB] at hb
  | _ :: _, [], _, _, _, hb, _ => by simp [skipB] at hb
  | i :: is, d :: ds, fuel, listed, a, hb, h => by
    unfold skipB at hb
    split at hb
    · cases hb
    · rename_i o ho
      simp only [Bool.and_eq_true, beq_iff_eq, Bool.not_eq_true'] at hb
      obtain ⟨⟨⟨⟨hd, hf⟩, hr⟩, hw⟩, hrest⟩ := hb
      subst hd
      exact wpAnyH_take ho hs hf hr (hQ _ _) (Or.inr ⟨hw, rfl⟩) hS (hSkips hs hQ hS is ds hrest h)

def takeB (md : Region.Mode) (ops : Array Oper) (i : Nat) (d : Option Tmp) (listed : Array Bool) (a : Act) : Bool :=
  match ops[i]? with
  | none => false
  | some o => o.dst == d && Region.free md ops listed i && (Region.ready md ops listed).contains i && Region.wanted o (yielded ops a.tmps)

/-- one operation that yields v in every world at hand -/
theorem hTake (hs : Region.noSelect ops = true) (hQ : ∀ (d : Option Tmp) (v : Value) c a w, Q (.panic c) (a.put d v) w → Q (.panic c) a w) {w : World} (hS : S w)
    (i : Nat) (d : Option Tmp) (o : Oper) (ho : ops[i]? = some o) {v : Value} {fuel : Nat} {listed : Array Bool} {a : Act} (hb : takeB md ops i d listed a = true)
    (hy : ∀ w, S w → (execOp a.eval o).run P w = .ok (.value v) w)
    (h : wpAnyH P md ops Q S fuel (listed.setIfInBounds i true) (a.put d v) w) : wpAnyH P md ops Q S (fuel + 1) listed a w := by
  unfold takeB at hb
  rw [ho] at hb
  simp only [Bool.and_eq_true, beq_iff_eq] at hb
  obtain ⟨⟨⟨hd, hf⟩, hr⟩, hw⟩ := hb
  subst hd
  exact wpAnyH_take ho hs hf hr (hQ _ _) (Or.inl ⟨hw, hy⟩) hS h
end

/-- append, one operation of a region that draws -/
theorem step_app {P : Program} {ops : Array Oper} {o : Oper} {a : Act} {w : World} {K : Act → World → Prop} {Q : Exit → Act → World → Prop} (hw : Region.wanted o (yielded ops a.tmps) = true) (s x : Operand) (t : TypeId) (hop : o.op = Op.call { callee := Callee.builtin Builtin.append, args := #[s, x], argTypes := #[t, t] })
    {e : TypeId} {z : Value} {size bytes : Nat} (E : EL P t e z size bytes) {base : Nat} {v : Value} {xs : List Value} (hs : a.eval s = v) (hv : Own w base size v xs)
    {src : Value} {ys : List Value} (hx : a.eval x = src) (hsrc : Rd w size src ys) (h1 : ∀ y ∈ ys, y.oneCell' = true) (hlen : xs.length + ys.length ≤ 1073741824) (hbase : base ≤ w.heap.size)
    (hK : ∀ v' w', Own w' base size v' (xs ++ ys) → w.grownBy w' (blk v) → (blk v' = blk v ∨ ∃ k, blk v' = some k ∧ w.heap.size ≤ k) → K (a.put o.dst v') w') :
    if Region.wanted o (yielded ops a.tmps) = true then Oper.wp P o a w K Q else K (a.put o.dst undef) w := by
  rw [if_pos hw]
  obtain ⟨v', w', hrun, r1, r2, r3⟩ := run_append_Own (P := P) (ty := o.type) E hv hsrc h1 hlen hbase
  unfold Oper.wp
  simp [execOp, hop, resolve, invoke, builtin, hs, hx, hrun, Result.andThen]
  exact hK _ _ r1 r2 r3
end Go.Proofs.YtdlggpphfkjidaaGreatDoor
