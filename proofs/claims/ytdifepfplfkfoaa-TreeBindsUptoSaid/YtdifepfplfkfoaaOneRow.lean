/-
  A slice literal of one aggregate.
-/
import Derived.Test.YtdifepfplfkfoaaOf
namespace Go.Proofs.Ytdifepfplfkfoaa
open Go.RowKit
set_option linter.unusedVariables false
set_option maxRecDepth 100000

theorem fold_set (l : List Value) : ∀ (k : Nat) (init : Array Value) (j : Nat), ((l.zipIdx k).foldl (fun (cs : Array Value) (x : Value × Nat) => cs.setIfInBounds (0 + x.2) x.1) init)[j]? = if k ≤ j ∧ j < k + l.length ∧ j < init.size then l[j - k]? else init[j]? := by
  induction l with
  | nil =>
    intro k init j
    rw [if_neg (by simp; omega)]
    rfl
  | cons x l ih =>
    intro k init j
    rw [List.zipIdx_cons, List.foldl_cons, ih, Nat.zero_add, Array.size_setIfInBounds, List.length_cons]
    by_cases h1 : k + 1 ≤ j ∧ j < k + 1 + l.length ∧ j < init.size
    · rw [if_pos h1, if_pos (by omega), show j - k = (j - (k + 1)) + 1 by omega, List.getElem?_cons_succ]
    · rw [if_neg h1, Array.getElem?_setIfInBounds]
      by_cases h2 : k = j
      · subst h2
        by_cases h3 : k < init.size
        · rw [if_pos rfl, if_pos h3, if_pos (by omega)]; simp
        · rw [if_pos rfl, if_neg h3, if_neg (by omega), Array.getElem?_eq_none (by omega)]
      · rw [if_neg h2, if_neg (by omega)]
theorem fold_set_all (vs init : Array Value) (h : init.size = vs.size) : vs.zipIdx.foldl (fun (cs : Array Value) (x : Value × Nat) => cs.setIfInBounds (0 + x.2) x.1) init = vs := by
  rw [← Array.foldl_toList, Array.toList_zipIdx]
  apply Array.ext_getElem?
  intro j
  rw [fold_set]
  by_cases hj : j < vs.size
  · rw [if_pos (by simp; omega)]; simp
  · rw [if_neg (by simp; omega), Array.getElem?_eq_none (by omega), Array.getElem?_eq_none (by omega)]

theorem run_buildSlice_one {P : Program} {t e : TypeId} (ht : P.underlying t = some (.slice e)) {n : Nat} {z : Value} (hn : (P.info? e).map (·.size) = some n) (hz : (P.info? e).bind (·.zero) = some z) (hzs : z.cells.size = n) (h0 : 0 < n) (hs : n ≤ 1000000) (cs : Array Value) (hcs : cs.size = n) (w : World) :
    (Instr.buildSlice t 1 #[(0, .agg cs)]).run P w = .ok (.slice (some ⟨w.heap.size, 0, none⟩) 1 1) (w.alloc (.cells cs e)) := by
  cases hi : P.info? e with
  | none => rw [hi] at hn; cases hn
  | some i =>
    rw [hi] at hn hz
    simp only [Option.map_some, Option.some.injEq, Option.bind_some] at hn hz
    have hbig : ¬ (16777216 < n) := by omega
    have hnz : ¬ n = 0 := by omega
    have hc : (Value.agg cs).cells = cs := rfl
    have hf := fold_set_all cs ((Array.range (1 * n)).map (z.cells[· % z.cells.size]!)) (by simp [hcs])
    simp only [Nat.one_mul] at hf
    simp [Instr.buildSlice, run_underlying ht, sizeOf, typeInfo, zeroValue, hi, hn, hz, hbig, hnz, Instr.fill, hc, hcs, newRow]
    have hs2 : cs.zipIdx.size = n := by simp [hcs]
    simp only [Nat.zero_add, hs2] at hf
    rw [hf]

/-- A slice literal of one array or struct. -/
theorem wpList_one_row {P : Program} {ops : Array Oper} {rest : List Oper} {o : Oper} {a : Act} {Q : Exit → Act → World → Prop} {w : World} (hw : Region.wanted o (yielded ops a.tmps) = true) (t : TypeId) (x : Operand) (ho : o.op = .buildSlice t 1 #[(0, x)])
    {e : TypeId} (ht : P.underlying t = some (.slice e)) {n : Nat} {z : Value} (hn : (P.info? e).map (·.size) = some n) (hz : (P.info? e).bind (·.zero) = some z) (hzs : z.cells.size = n) (h0 : 0 < n) (hs : n ≤ 1000000) (cs : Array Value) (hx : a.eval x = .agg cs) (hcs : cs.size = n)
    (h : wpList P ops Q rest (a.put o.dst (.slice (some ⟨w.heap.size, 0, none⟩) 1 1)) (w.alloc (.cells cs e))) : wpList P ops Q (o :: rest) a w := by
  refine BigFrame.wpList_want hw fun _ hK => ?_
  unfold Oper.wp execOp
  simp only [ho, List.map_toArray, List.map_cons, List.map_nil, hx, Sem.run_bind, run_buildSlice_one ht hn hz hzs h0 hs cs hcs, Result.andThen_ok, Sem.run_pure]
  exact hK _ _ h

end Go.Proofs.Ytdifepfplfkfoaa
