/-
  The library's Clip at bytes.
-/
import Derived.Test.YtbphoilfiahnpaaNum
namespace Go.Proofs.Ytbphoilfiahnpaa
open Go.RowKit
set_option linter.unusedVariables false
set_option maxRecDepth 100000

/-- Clip: the room behind is cut away. -/
theorem clip_c (g n c : Nat) (hn : n ≤ c) (hn0 : 0 < n) (w : World) (hc : c ≤ 9223372036854775807) :
    Calls Try.prog 65 #[.slice (some ⟨g, 0, none⟩) n c] w fun e w' => e = .returned (.slice (some ⟨g, 0, none⟩) n n) ∧ w = w' := by
  have hrun : ∀ W, (Instr.sliceAt 31 (.slice (some ⟨g, 0, none⟩) n c) none (some (.int .i64 (n : Int))) (some (.int .i64 (n : Int)))).run Try.prog W = .ok (.slice (some ⟨g, 0, none⟩) n n) W := fun W => by
    have he : Try.prog.underlying 31 = some (.slice (Try.prog.elem 31)) := by rw [bytes_elem]; exact Try.underlying31
    have hs : (sizeOf (Try.prog.elem 31)).run Try.prog W = .ok 1 W := by rw [bytes_elem]; kernel_rfl
    rw [run_sliceAt_slice W _ _ _ _ _ he, run_slice_hm W _ _ n c he .i64 .i64 (n : Int) (n : Int) (by omega) (by omega) (by omega), hs]
    simp [Result.andThen, sliced, Addr.add]
  go_enter Try.func65, Try.ntmps65
  go_wp2_with fail
  go_ret
  exact ⟨rfl, rfl⟩
end Go.Proofs.Ytbphoilfiahnpaa
