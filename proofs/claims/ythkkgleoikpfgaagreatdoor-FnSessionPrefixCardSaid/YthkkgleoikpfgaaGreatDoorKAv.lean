/-
  Parts of the proof: Map.
-/
import Derived.MapKept
import Derived.Maps.OwnOps
import Derived.Maps.OwnIn
import Derived.Test.YthkkgleoikpfgaaGreatDoorKAu
namespace Go.Proofs.YthkkgleoikpfgaaGreatDoor
open Go Go.RowKit Go.MapKept
/-- the text's value -/
def txV (x : List UInt8) : Value := .string ⟨x.toArray⟩
def look : List (List UInt8 × Value) → List UInt8 → Option Value
 | [], _ => none
 | p :: r, x => if p.1 = x then some p.2 else look r x
/-- block m holds a map with these entries, in this order -/
def MapIs (w : World) (m : Nat) (l : List (List UInt8 × Value)) : Prop :=
 ∃ es clock, w.heap[m]? = some (.map es clock) ∧ es.toList.map (fun e => (e.key, e.val)) = l.map (fun p => (txV p.1, p.2))
theorem bytes_eqb (x y : List UInt8) : ((⟨x.toArray⟩ : ByteArray) == ⟨y.toArray⟩) = decide (x = y) := by
 rw [Bool.eq_iff_iff, bytes_beq]
 simp
theorem now_look (x : List UInt8) : ∀ (es : List MapEntry) (l : List (List UInt8 × Value)) (i : Nat), es.map (fun e => (e.key, e.val)) = l.map (fun p => (txV p.1, p.2)) →
  match look l x with
  | none => Instr.findNow .string (txV x) es i = some none
  | some v => ∃ j, Instr.findNow .string (txV x) es i = some (some (j, v))
 | [], [], _, _ => rfl
 | [], _ :: _, _, h => by cases h
 | _ :: _, [], _, h => by cases h
 | e :: r, p :: l, i, h => by
  simp only [List.map_cons, List.cons.injEq, Prod.mk.injEq] at h
  obtain ⟨⟨h1, h2⟩, h3⟩ := h
  have hs : Instr.sameNow .string (txV x) e.key = some (decide (p.1 = x)) := by
   rw [h1]
   show some (_ == _) = _
   rw [bytes_eqb]
   congr 1
   exact decide_eq_decide.2 eq_comm
  unfold look Instr.findNow
  rw [hs]
  by_cases hp : p.1 = x
  ·simp only [hp, decide_true, h2]
   exact ⟨i, rfl⟩
  ·simp only [hp, decide_false]
   exact now_look x r l (i + 1) h3
theorem MapIs.insert {P : Program} {t k e : TypeId} (ht : P.underlying t = some (.map k e)) (hk : P.underlying k = some .string) {w : World} {m : Nat} {l : List (List UInt8 × Value)} (hm : MapIs w m l) (x : List UInt8) (v : Value) (hn : look l x = none) :
  ∃ w', (Instr.mapUpdate t (.map (some m)) (txV x) v).run P w = .ok () w' ∧ MapIs w' m (l ++ [(x, v)]) ∧ ExtR m w w' := by
 obtain ⟨es, clock, hb, he⟩ := hm
 have h1 := now_look x es.toList l 0 he
 rw [hn] at h1
 dsimp only at h1
 have hkk : IsKey .string (txV x) := trivial
 refine ⟨{ w with heap := w.heap.setIfInBounds m (.map (es.push { key := txV x, val := v, born := clock }) (clock + 1)) }, ?_, ⟨_, _, (heap_set hb).1, by simp [he]⟩, ⟨rfl, rfl, rfl, by simp, fun q _ hq => (heap_set hb).2 q hq⟩⟩
 simp [Instr.mapUpdate, run_underlying ht, MapKept.run_getObj_map hb, MapKept.run_checkKey hk hkk, MapKept.run_findKey hk h1, MapKept.run_setObj_map _ hb, Result.andThen]
theorem MapIs.lookup {P : Program} {t k e : TypeId} (ht : P.underlying t = some (.map k e)) (hk : P.underlying k = some .string) {w : World} {m : Nat} {l : List (List UInt8 × Value)} (hm : MapIs w m l) (x : List UInt8) {z : Value} (hz : (zeroValue e).run P w = .ok z w) :
  (Instr.lookup t (.map (some m)) (txV x) true).run P w = .ok (.tuple #[(look l x).getD z, .bool (look l x).isSome]) w := by
 obtain ⟨es, clock, hb, he⟩ := hm
 have h1 := now_look x es.toList l 0 he
 have hkk : IsKey .string (txV x) := trivial
 cases hl : look l x with
 | none =>
  rw [hl] at h1
  dsimp only at h1
  simp [Instr.lookup, run_underlying ht, MapKept.run_getObj_map hb, MapKept.run_checkKey hk hkk, MapKept.run_findKey hk h1, hz, Result.andThen]
 | some v =>
  rw [hl] at h1
  obtain ⟨j, h1⟩ := h1
  simp [Instr.lookup, run_underlying ht, MapKept.run_getObj_map hb, MapKept.run_checkKey hk hkk, MapKept.run_findKey hk h1, Result.andThen]
theorem wpList_ins {P : Program} (w : World) {ops : Array Oper} {rest : List Oper} {o : Oper} {a : Act} {Q : Exit → Act → World → Prop}
  (hg : o.guard = none) (m x v : Operand) (t : TypeId) (hop : o.op = Op.insert t m x v) {k e : TypeId} (ht : P.underlying t = some (.map k e)) (hk : P.underlying k = some .string) {b : Nat} {l : List (List UInt8 × Value)} (hm : MapIs w b l)
  (ho : a.eval m = .map (some b)) (key : List UInt8) (hx : a.eval x = txV key) (val : Value) (hv : a.eval v = val) (hn : look l key = none)
  (hK : ∀ w', MapIs w' b (l ++ [(key, val)]) → ExtR b w w' → wpList P ops Q rest (a.put o.dst undef) w') :
  wpList P ops Q (o :: rest) a w := by
 refine wpList_plain hg fun K' hK' => ?_
 obtain ⟨w', hrun, r1, r2⟩ := hm.insert ht hk key val hn
 unfold Oper.wp
 simp [execOp, hop, ho, hx, hv, hrun, Result.andThen]
 exact hK' _ _ (hK w' r1 r2)
theorem wpList_miss {P : Program} (w : World) {ops : Array Oper} {rest : List Oper} {o : Oper} {a : Act} {Q : Exit → Act → World → Prop}
  (hg : o.guard = none) (m x : Operand) (t : TypeId) (hop : o.op = Op.lookup t m x true) {k e : TypeId} (ht : P.underlying t = some (.map k e)) (hk : P.underlying k = some .string) {z : Value} (hz : (zeroValue e).run P w = .ok z w) {b : Nat} {l : List (List UInt8 × Value)} (hm : MapIs w b l)
  (ho : a.eval m = .map (some b)) (key : List UInt8) (hx : a.eval x = txV key) (hr : look l key = none)
  (hK : wpList P ops Q rest (a.put o.dst (.tuple #[z, .bool false])) w) :
  wpList P ops Q (o :: rest) a w := by
 refine wpList_plain hg fun K' hK' => ?_
 have hrun := hm.lookup ht hk key hz
 rw [hr] at hrun
 unfold Oper.wp
 simp [execOp, hop, ho, hx, hrun, Result.andThen]
 exact hK' _ _ hK
theorem wpList_hit {P : Program} (w : World) {ops : Array Oper} {rest : List Oper} {o : Oper} {a : Act} {Q : Exit → Act → World → Prop}
  (hg : o.guard = none) (m x : Operand) (t : TypeId) (hop : o.op = Op.lookup t m x true) {k e : TypeId} (ht : P.underlying t = some (.map k e)) (hk : P.underlying k = some .string) {z : Value} (hz : (zeroValue e).run P w = .ok z w) {b : Nat} {l : List (List UInt8 × Value)} (hm : MapIs w b l)
  (ho : a.eval m = .map (some b)) (key : List UInt8) (hx : a.eval x = txV key) (v : Value) (hr : look l key = some v)
  (hK : wpList P ops Q rest (a.put o.dst (.tuple #[v, .bool true])) w) :
  wpList P ops Q (o :: rest) a w := by
 refine wpList_plain hg fun K' hK' => ?_
 have hrun := hm.lookup ht hk key hz
 rw [hr] at hrun
 unfold Oper.wp
 simp [execOp, hop, ho, hx, hrun, Result.andThen]
 exact hK' _ _ hK
theorem MapIs.made (w : World) : MapIs (w.alloc (.map #[] 0)) w.heap.size [] := ⟨_, _, (heap_alloc w _).1, rfl⟩
end Go.Proofs.YthkkgleoikpfgaaGreatDoor
