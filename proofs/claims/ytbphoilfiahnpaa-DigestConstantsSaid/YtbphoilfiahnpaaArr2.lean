/-
  Arrays as values: an element of one; copies within one block.
-/
import Derived.Test.YtbphoilfiahnpaaArr
namespace Go.Proofs.Ytbphoilfiahnpaa
open Go.RowKit
set_option linter.unusedVariables false

theorem arr_index_run {P : Program} {T e : TypeId} {k : IntKind} {N : Nat} (hT : P.underlying T = some (.array N e)) (he : P.underlying e = some (.int k)) (hs : ∀ W, (sizeOf e).run P W = .ok 1 W) (cs : Array Value) (i : Nat) (hi : i < N) (v : Value) (hv : cs[i]? = some v) (W : World) :
    (Instr.index T (.agg cs) (.int .i64 (i : Int))).run P W = .ok v W := by
  simp [Instr.index, asIntOf, run_underlying hT, hs, hi, part, isAgg, run_underlying he, hv]
end Go.Proofs.Ytbphoilfiahnpaa
