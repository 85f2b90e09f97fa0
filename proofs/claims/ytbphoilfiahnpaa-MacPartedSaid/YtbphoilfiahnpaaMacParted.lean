/-
  MacParted: parts and noughts do not matter.
-/
import Derived.Test.YtbphoilfiahnpaaParts
import Derived.Test.YtbphoilfiahnpaaShape
namespace Go.Proofs.Ytbphoilfiahnpaa.macParted
open Go.RowKit
set_option linter.unusedVariables false
set_option linter.unusedSimpArgs false
set_option maxRecDepth 100000

set_option maxHeartbeats 1000000 in
theorem walk (cs0 : List Value) (w : World) (R0 : Rds w (.cons (.slice (.int .u8) 1 1) (.cons (.slice (.int .u8) 1 1) (.cons (.slice (.int .u8) 1 1) (.cons (.int .i64) .nil)))) cs0) :
    Calls Try.prog 15 #[.agg cs0.toArray] w fun e w' => e = .returned (.bool true) ∧ Below w.heap.size w w' := by
  obtain ⟨_, _, rfl, r0, _, _, rfl, r1, _, _, rfl, r2, _, _, rfl, r3, rfl⟩ := R0
  obtain ⟨A0, n0, c0, key, rfl, w0, y0⟩ := Rds.bytes r0
  obtain ⟨A1, n1, c1, a, rfl, w1, y1⟩ := Rds.bytes r1
  obtain ⟨A2, n2, c2, b, rfl, w2, y2⟩ := Rds.bytes r2
  obtain ⟨x, rfl, hx⟩ := r3
  have hb := below_alloc w (.cells #[.slice A0 n0 c0, .slice A1 n1 c1, .slice A2 n2 c2, .int .i64 x] 57)
  have k0 := (w0.below hb).more hb.size
  have k1 := (w1.below hb).more hb.size
  have k2 := (w2.below hb).more hb.size
  have h := parts_c k0 y0 k1 y1 k2 y2 x hx
  clear w0 w1 w2 r0 r1 r2 k0 k1 k2
  go_enter Try.func15, Try.ntmps15
  go_wp2_with (go_at_call 43; refine h.mono ?_; rintro e v ⟨rfl, hb1⟩)
  go_ret
  exact ⟨rfl, hb.trans (hb1.mono hb.size)⟩
end Go.Proofs.Ytbphoilfiahnpaa.macParted
