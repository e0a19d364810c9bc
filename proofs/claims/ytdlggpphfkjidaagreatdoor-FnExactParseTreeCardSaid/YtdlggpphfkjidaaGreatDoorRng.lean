/-
  A range over a function whose iterator keeps its place in a cell of its own: the law of such a loop, of one loop variable, in the widest fence.
-/
import Derived.RangeFuncNested
import Derived.RangeFuncCalls
import Derived.RangeFuncLeaves
import Derived.OwnWalkIn
import Derived.OrdersIn
import Derived.OrdersHeld
import Derived.Deep.RegionHeld
import Derived.Test.YtdlggpphfkjidaaGreatDoorBase
namespace Go.Proofs.YtdlggpphfkjidaaGreatDoor
open Go Go.RowKit

/-- what an iterator may do between two rounds to what the loop holds: its own cell, and blocks from n on that are no cells -/
def MayTurn (B n : Nat) (W : World) (row : Option Nat) : Prop := ∀ r, row = some r → r = B ∨ (n ≤ r ∧ ∃ o : Obj, W.heap[r]? = some o ∧ o.isCells = false)
/-- a statement of the loop that abides such steps -/
def Bides {β : Type} (B n : Nat) (I : β → World → Prop) : Prop := ∀ s W W' row, I s W → W.grownBy W' row → MayTurn B n W row → I s W'
theorem Bides.put {β : Type} {B n : Nat} {I : β → World → Prop} (h : Bides B n I) {s : β} {W : World} {l : Nat} {o : Obj} (o' : Obj) (hs : I s W) (hn : n ≤ l) (hl : W.heap[l]? = some o) (ho : o.isCells = false) : I s (W.putObj l o') :=
  h s W _ (some l) hs (grownBy_putObj' W l o') (fun r e => by cases e; exact .inr ⟨hn, o, hl, ho⟩)
theorem Bides.new {β : Type} {B n : Nat} {I : β → World → Prop} (h : Bides B n I) {s : β} {W : World} (o : Obj) (hs : I s W) : I s (W.alloc o) :=
  h s W _ none hs ⟨rfl, rfl, rfl, by simp, fun k hk _ => Below.heap_alloc _ _ _ hk⟩ (fun r e => by cases e)
theorem Bides.cell {β : Type} {B n : Nat} {I : β → World → Prop} (h : Bides B n I) {s : β} {W : World} (u : Value) (hs : I s W) : I s (W.setCell ⟨B, 0, none⟩ u) :=
  h s W _ (some B) hs (grownBy_setCell' W B u) (fun r e => by cases e; exact .inl rfl)

/-- the iterator's side: at any loop, for any statement J that its own cell's turns leave, if every round goes on (or leaves by Jx), it returns, all rounds done or the loop left; K: what each round must leave as it was -/
def Runs {α : Type} (P : Program) (g : Nat) (lb : Array Value) (enc : α → Value) (B : Nat) (K : World → World → Prop) (xs : List α) (W : World) : Prop :=
  ∀ (l : Nat) (J Jx : List α → World → Prop), (∀ s W1 u, J s W1 → J s (W1.setCell ⟨B, 0, none⟩ u)) →
    (∀ pre x rest W1, xs = pre ++ x :: rest → J pre W1 → YieldAt Fence.wide 1 P l #[enc x] W1 fun e W' => (e = .returned (.bool true) ∧ J (pre ++ [x]) W' ∧ K W1 W') ∨ (e = .returned (.bool false) ∧ Jx (pre ++ [x]) W')) →
    J [] W → CallsIn Fence.wide 2 P g (#[.func (.yield l) #[] #[]] ++ lb) W fun e W' => (∃ v, e = .returned v) ∧ (J xs W' ∨ ∃ pre, Jx pre W')
/-- the ways out of a round's body -/
def roundEnd {α : Type} (n : Nat) (K : World → World → Prop) (I Ix : List α → World → Prop) (s : List α) (W : World) : Exit → Act → World → Prop
  | .normal, _, W' => KeepsFrom n W W' ∧ K W W' ∧ I s W'
  | .ret, _, W' => KeepsFrom n W W' ∧ Ix s W'
  | _, _, _ => False
theorem rangeRuns {P : Program} {α : Type} {g : Operand} {p : Tmp} {assign body : Code} {Q : Exit → Act → World → Prop} {a : Act} {w : World} {gf : Nat} {lb : Array Value} {enc : α → Value} {B : Nat} {K : World → World → Prop} {xs : List α}
    (hg : a.eval g = .func (.func gf) #[] lb) (eg : ∀ args w, (callFunc gf args).run P w = .ok (.enter gf args) w) (hB : B < w.heap.size)
    (hrun : ∀ W, Below w.heap.size w W → Runs P gf lb enc B K xs W)
    (hKt : ∀ X Y Z, K X Y → K Y Z → K X Z) (hKp : ∀ (W : World) (l : Nat) (o' : Obj), w.heap.size ≤ l → K W (W.putObj l o'))
    (I Ix : List α → World → Prop) (hI : Bides B w.heap.size I) (hIx : Bides B w.heap.size Ix) (h0 : I [] w) (a₁ : α → Act)
    (hassign : ∀ (l : Nat) (x : α) (W : World) (C : Act → World → Prop), C (a₁ x) W → assign.wpIn (Fence.wide.inRound l) 1 P (Exit.then C (fun _ _ _ => False)) { tmps := ((#[p] : Array Tmp).zip #[enc x]).foldl (fun t (p, v) => t.setIfInBounds p v) a.tmps, defers := [] } W)
    (hbody : ∀ (l : Nat) (pre : List α) (x : α) (rest : List α) (W : World), xs = pre ++ x :: rest → I pre W → body.wpIn (Fence.wide.inRound l) 1 P (roundEnd w.heap.size K I Ix (pre ++ [x]) W) (a₁ x) W)
    (hdone : ∀ (D : Nat) (W : World), w.heap.size ≤ D → I xs W → W.heap[D]? = some (.deferred (some [])) → Q .normal { a with defers := { target := .collected D, args := #[] } :: a.defers } W)
    (hstop : ∀ (D : Nat) (pre : List α) (W : World), w.heap.size ≤ D → Ix pre W → W.heap[D]? = some (.deferred (some [])) → Code.ret.wpIn Fence.wide 3 P Q { a with defers := { target := .collected D, args := #[] } :: a.defers } W) :
    (Code.rangeFunc g #[p] assign body).wpIn Fence.wide 3 P Q a w := by
  refine wpIn_rangeFunc fun fn hfn => ?_
  -- the two blocks that the statement lays: D for the rounds' deferred calls, L for the loop
  let R : LoopState → Option Code → Obj := fun st pe => .loop { state := st, pending := pe, fn, tmps := a.tmps, params := #[p], assign, body, defers := w.heap.size }
  have hnewD := World.alloc_heap_new w (.deferred (some []))
  have hnewL := World.alloc_heap_new (w.alloc (.deferred (some []))) (R .ready none)
  rw [World.size_alloc] at hnewL
  have hkeepD := (Below.heap_alloc (w.alloc (.deferred (some []))) (R .ready none) w.heap.size (by simp)).trans hnewD
  have hlow : Below w.heap.size w ((w.alloc (.deferred (some []))).alloc (R .ready none)) := ((Below.refl _ w).alloc (Nat.le_refl _) _).alloc (by simp) _
  have hstart : I [] ((w.alloc (.deferred (some []))).alloc (R .ready none)) := hI.new _ (hI.new _ h0)
  refine ⟨w.heap.size + 1, [{ target := .collected w.heap.size, args := #[] }], (w.alloc (.deferred (some []))).alloc (R .ready none), { target := .fn (.func gf) lb, args := #[.func (.yield (w.heap.size + 1)) #[] #[]] }, (w.alloc (.deferred (some []))).alloc (R .ready none), gf, #[.func (.yield (w.heap.size + 1)) #[] #[]] ++ lb, (w.alloc (.deferred (some []))).alloc (R .ready none), run_enterLoop_outer _ _ _ _ _, by simp only [resolve, hg]; simp [go_sem], fun _ _ => trivial, by simp [invoke, go_sem, eg], fun _ => by decide, ?_⟩
  generalize (w.alloc (.deferred (some []))).alloc (R .ready none) = W1 at *
  have hcells : ∀ {st pe}, (R st pe).isCells = false := rfl
  refine (hrun W1 hlow (w.heap.size + 1) (fun s W => I s W ∧ W.heap[w.heap.size + 1]? = some (R .ready none) ∧ W.heap[w.heap.size]? = some (.deferred (some []))) (fun s W => Ix s W ∧ W.heap[w.heap.size + 1]? = some (R .done (some .ret)) ∧ W.heap[w.heap.size]? = some (.deferred (some []))) ?_ ?_ ⟨hstart, hnewL, hkeepD⟩).mono ?_
  · rintro s W u ⟨h1, h2, h3⟩
    exact ⟨hI.cell u h1, (Below.heap_setCell _ _ _ _ (by show w.heap.size + 1 ≠ B; omega)).trans h2, (Below.heap_setCell _ _ _ _ (by show w.heap.size ≠ B; omega)).trans h3⟩
  · rintro pre x rest W hxs ⟨hi, hl, hd⟩
    have hlt : w.heap.size + 1 < W.heap.size := (Array.getElem?_eq_some_iff.1 hl).1
    have hy := run_yield (P := P) (args := #[enc x]) hl rfl
    refine ⟨fn, _, assign, body, hy, roundIn_of_wpIn hfn ?_⟩
    refine hassign _ x W _ ?_
    refine ⟨_, run_beginRound hl rfl, ?_⟩
    have hl2 : (W.putObj (w.heap.size + 1) (R .busy none)).heap[w.heap.size + 1]? = some (R .busy none) := World.putObj_heap_same hlt
    have hd2 : (W.putObj (w.heap.size + 1) (R .busy none)).heap[w.heap.size]? = some (.deferred (some [])) := (World.putObj_heap_other (by omega)).trans hd
    refine wpIn_mono (hbody _ pre x rest _ hxs (hI.put (R .busy none) hi (by omega) hl hcells)) ?_
    rintro e a3 W3 hp
    cases e with
    | normal =>
      obtain ⟨hk, hK, hi3⟩ := hp
      have hl3 := hk.same _ _ (by omega) hl2 hcells
      have hd3 := hk.same _ _ (by omega) hd2 rfl
      exact ⟨_, _, run_endRound (P := P) none hl3, .inl ⟨rfl, ⟨hI.put (R .ready none) hi3 (by omega) hl3 hcells, World.putObj_heap_same (Array.getElem?_eq_some_iff.1 hl3).1, (World.putObj_heap_other (by omega)).trans hd3⟩, hKt _ _ _ (hKt _ _ _ (hKp _ _ _ (by omega)) hK) (hKp _ _ _ (by omega))⟩⟩
    | ret =>
      obtain ⟨hk, hi3⟩ := hp
      have hl3 := hk.same _ _ (by omega) hl2 hcells
      have hd3 := hk.same _ _ (by omega) hd2 rfl
      exact ⟨_, _, run_endRound (P := P) (some .ret) hl3, .inr ⟨rfl, hIx.put (R .done (some .ret)) hi3 (by omega) hl3 hcells, World.putObj_heap_same (Array.getElem?_eq_some_iff.1 hl3).1, (World.putObj_heap_other (by omega)).trans hd3⟩⟩
    | exit id => exact hp.elim
    | goto t => exact hp.elim
    | panic ch => exact hp.elim
    | outgrown => exact hp.elim
  · rintro e W2 ⟨⟨v, rfl⟩, (⟨hi, hl, hd⟩ | ⟨pre, hi, hl, hd⟩)⟩
    · exact ⟨none, _, run_endLoop (P := P) hl (by simp), hdone _ _ (Nat.le_refl _) (hI.put _ hi (by omega) hl hcells) ((World.putObj_heap_other (by omega)).trans hd)⟩
    · exact ⟨some .ret, _, run_endLoop (P := P) hl (by simp), hstop _ pre _ (Nat.le_refl _) (hIx.put _ hi (by omega) hl hcells) ((World.putObj_heap_other (by omega)).trans hd)⟩

/-! ### a region that draws its order, in a round: walked as anywhere -/
theorem upon_round {P : Program} {o : Oper} {a : Act} {K : Act → World → Prop} {Q : Exit → Act → World → Prop} {n l : Nat} {r : Result Next} (h : o.upon P a K Q r) : o.uponIn (Fence.wide.inRound l) n P a K Q r := by
  cases r with
  | ok x w' =>
    cases x
    case value v => exact h
    case skip => exact h
    case defer d => exact h
    case enter f args => exact ⟨fun e => (by cases e), (callsIn_wide.2 h : CallsIn Fence.wide (n - 1) P f args w' _)⟩
    case row row args => exact ⟨fun e => (by cases e), fun c cs _ => let ⟨v, w'', r1, r2⟩ := h c cs; ⟨v, w'', r1, stepsIn_wide.2 r2⟩⟩
    all_goals exact h.elim
  | halt x w' => cases x <;> first | exact h | exact h.elim
theorem op_round {P : Program} {ops : Array Oper} {Q : Exit → Act → World → Prop} (hQ : ¬ LetsOut Q) (hd : ∀ (i : Nat) (o : Oper), ops[i]? = some o → ∀ c, o.op ≠ Op.defer c) {n l i : Nat} {K K' : Act → World → Prop} (hK : ∀ a w, K a w → K' a w) {a : Act} {w : World} (h : wpOp P ops Q i K a w) : wpOpIn (Fence.wide.inRound l) n P ops Q i K' a w := by
  refine wpOpIn_mono hK ?_
  unfold wpOp at h
  unfold wpOpIn
  cases ho : ops[i]? with
  | none =>
    rw [ho] at h
    exact h
  | some o =>
    rw [ho] at h
    dsimp only at h ⊢
    split
    · rename_i hw
      rw [if_pos hw] at h
      rcases h with h | h
      · refine ⟨fun _ _ => trivial, ?_⟩
        rw [Oper.semAt_plain _ _ _ (hd i o ho)]
        exact upon_round h
      · exact absurd h.2 hQ
    · rename_i hw
      rw [if_neg hw] at h
      exact ⟨fun _ _ => trivial, h⟩
theorem any_round {P : Program} {md : Region.Mode} {ops : Array Oper} {Q : Exit → Act → World → Prop} (hQ : ¬ LetsOut Q) (hd : ∀ (i : Nat) (o : Oper), ops[i]? = some o → ∀ c, o.op ≠ Op.defer c) {n l : Nat} : ∀ (fuel : Nat) (listed : Array Bool) (a : Act) (w : World), wpAny P md ops Q fuel listed a w → wpAnyIn (Fence.wide.inRound l) n P md ops Q fuel listed a w
  | 0, _, _, _, h => h
  | fuel + 1, _, _, _, h => ⟨h.1, fun i hi => op_round hQ hd (fun a w => any_round hQ hd fuel _ a w) (h.2 i hi)⟩
theorem region_round {P : Program} {id : Nat} {ops : Array Oper} {Q : Exit → Act → World → Prop} {S : World → Prop} {a : Act} {w : World} {l n : Nat} (hm : P.follows .mixedOrders = true) (hQ : ¬ LetsOut Q) (hd : ∀ (i : Nat) (o : Oper), ops[i]? = some o → ∀ c, o.op ≠ Op.defer c) (hS : S w.drew)
    (h : S w.drew → wpAnyH P .any ops Q S ops.size (Array.replicate ops.size false) a w.drew) : (Code.region id ops true).wpIn (Fence.wide.inRound l) n P Q a w :=
  wpIn_region_any hm (any_round hQ hd _ _ _ _ (wpAny_of_held _ _ _ _ (h hS)))
/-- no operation of the region defers a call -/
def noDefer (ops : Array Oper) : Bool := ops.all fun o => match o.op with
  | .defer _ => false
  | _ => true
theorem noDefer_spec {ops : Array Oper} (h : noDefer ops = true) (i : Nat) (o : Oper) (ho : ops[i]? = some o) (c : Call) : o.op ≠ Op.defer c := by
  unfold noDefer at h
  rw [Array.all_eq_true] at h
  obtain ⟨hi, rfl⟩ := Array.getElem?_eq_some_iff.1 ho
  have := h i hi
  intro e
  rw [e] at this
  cases this
/-- append, in a round -/
theorem wpListIn_app {P : Program} {F : Fence} {n : Nat} {ops : Array Oper} {rest : List Oper} {o : Oper} {a : Act} {w : World} {Q : Exit → Act → World → Prop} (hg : o.guard = none) (s x : Operand) (t : TypeId) (hop : o.op = Op.call { callee := Callee.builtin Builtin.append, args := #[s, x], argTypes := #[t, t] })
    {e : TypeId} {z : Value} {size bytes : Nat} (E : EL P t e z size bytes) {base : Nat} {v : Value} {xs : List Value} (hs : a.eval s = v) (hv : Own w base size v xs)
    {src : Value} {ys : List Value} (hx : a.eval x = src) (hsrc : Rd w size src ys) (h1 : ∀ y ∈ ys, y.oneCell' = true) (hlen : xs.length + ys.length ≤ 1073741824) (hbase : base ≤ w.heap.size)
    (hK : ∀ v' w', Own w' base size v' (xs ++ ys) → w.grownBy w' (blk v) → (blk v' = blk v ∨ ∃ k, blk v' = some k ∧ w.heap.size ≤ k) → wpListIn F n P ops Q rest (a.put o.dst v') w') :
    wpListIn F n P ops Q (o :: rest) a w := by
  refine wpListIn_plain hg fun K hK' => ?_
  obtain ⟨v', w', hrun, r1, r2, r3⟩ := run_append_Own (P := P) (ty := o.type) E hv hsrc h1 hlen hbase
  unfold Oper.wpIn
  refine ⟨?_, ?_⟩
  · simp [Oper.about, hop, resolve, Target.leads, Sem.run_pure]
  · rw [Oper.semAt_plain F _ _ (by rw [hop]; intro c hc'; cases hc')]
    simp [execOp, hop, resolve, invoke, builtin, hs, hx, hrun, Result.andThen]
    exact hK' _ _ (hK v' w' r1 r2 r3)
end Go.Proofs.YtdlggpphfkjidaaGreatDoor
