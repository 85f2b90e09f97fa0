/-
  TreeBinds: no tree verifies another leaf, but by unlike children of one tag (printed by wip/gen_tbinds.py).
-/
import Derived.Test.YtdifepfplfkfoaaBulk
import Derived.Test.YtdifepfplfkfoaaBinds
namespace Go.Proofs.Ytdifepfplfkfoaa.treeBinds
open Go.RowKit
set_option linter.unusedVariables false
set_option linter.unusedSimpArgs false
set_option maxRecDepth 100000

set_option maxHeartbeats 4000000 in
theorem walk (cs0 : List Value) (w : World) (R0 : Rds w (.cons (.slice (.int .u8) 1 1) (.cons (.slice (.int .u8) 1 1) (.cons (.slice (.int .u8) 1 1) (.cons (.int .i64) (.cons (.int .u8) .nil))))) cs0) (U0 : Bds 1048576 (.cons (.slice (.int .u8) 1 1) (.cons (.slice (.int .u8) 1 1) (.cons (.slice (.int .u8) 1 1) (.cons (.int .i64) (.cons (.int .u8) .nil))))) cs0) :
    Calls Try.prog 3 #[.agg cs0.toArray] w fun e w' => e = .returned (.bool true) ∧ Below w.heap.size w w' := by
  obtain ⟨_, _, rfl, r0, _, _, rfl, r1, _, _, rfl, r2, _, _, rfl, r3, _, _, rfl, r4, rfl⟩ := R0
  obtain ⟨A0, n0, c0, bs0, rfl, w0, y0⟩ := Rds.bytes r0
  obtain ⟨A1, n1, c1, bs1, rfl, w1, y1⟩ := Rds.bytes r1
  obtain ⟨A2, n2, c2, bs2, rfl, w2, y2⟩ := Rds.bytes r2
  obtain ⟨b, rfl, hx3⟩ := r3
  obtain ⟨o, rfl, hx4⟩ := r4
  obtain ⟨_, _, e0, ⟨_, _, _, rfl, q0, q0'⟩, _, _, e1, ⟨_, _, _, rfl, q1, q1'⟩, _, _, e2, ⟨_, _, _, rfl, q2, q2'⟩, _, _, e3, ⟨_, rfl⟩, _, _, e4, ⟨_, rfl⟩, e5⟩ := U0
  subst e5 e4 e3 e2 e1
  simp only [List.cons_append, List.nil_append, List.append_nil, List.cons.injEq, Value.slice.injEq] at e0
  obtain ⟨⟨rfl, rfl, rfl⟩, ⟨rfl, rfl, rfl⟩, ⟨rfl, rfl, rfl⟩, e34⟩ := e0
  simp only [Value.int.injEq, true_and, and_true] at e34
  obtain ⟨rfl, rfl⟩ := e34
  clear r0 r1 r2
  obtain ⟨ob, rfl⟩ : ∃ ob : UInt8, o = (ob.toNat : Int) := by
    have h := b8_of hx4
    simp only [b8, Value.int.injEq, true_and] at h
    exact ⟨_, h.symm⟩
  simp only [List.cons_append, List.nil_append, List.append_nil]
  have B1 := Blk.new w 24 #[Value.slice A0 n0 c0, Value.slice A1 n1 c1, Value.slice A2 n2 c2, Value.int .i64 b, Value.int .u8 (ob.toNat : Int)]
  have hb1 := below_alloc w (.cells #[Value.slice A0 n0 c0, Value.slice A1 n1 c1, Value.slice A2 n2 c2, Value.int .i64 b, Value.int .u8 (ob.toNat : Int)] 24)
  obtain ⟨v, hv⟩ : ∃ v, v = w.alloc (.cells #[Value.slice A0 n0 c0, Value.slice A1 n1 c1, Value.slice A2 n2 c2, Value.int .i64 b, Value.int .u8 (ob.toNat : Int)] 24) := ⟨_, rfl⟩
  rw [← hv] at B1 hb1
  have d0 : v.cell? ⟨w.heap.size, 0, none⟩ = some (.slice A0 n0 c0) := by rw [B1.cell]; rfl
  have d1 : v.cell? ⟨w.heap.size, 1, none⟩ = some (.slice A1 n1 c1) := by rw [B1.cell]; rfl
  have d2 : v.cell? ⟨w.heap.size, 2, none⟩ = some (.slice A2 n2 c2) := by rw [B1.cell]; rfl
  have d3 : v.cell? ⟨w.heap.size, 3, none⟩ = some (.int .i64 b) := by rw [B1.cell]; rfl
  have d4 : v.cell? ⟨w.heap.size, 4, none⟩ = some (.int .u8 (ob.toNat : Int)) := by rw [B1.cell]; rfl
  have HV := Lib.hid hv
  have hz1 := hb1.size
  have W0 := Lib.hid ((w0.below hb1).more hz1)
  have W1 := Lib.hid ((w1.below hb1).more hz1)
  have W2 := Lib.hid ((w2.below hb1).more hz1)
  clear w0 w1 w2 B1 hv
  go_enter Try.func3, Try.ntmps3
  go_wp2_with (go_at_call 9; rw [← HV.out]; refine (bound_c b ob W0.out W1.out W2.out (by omega) (by omega)).mono ?_; rintro e v2 ⟨rfl, hb2⟩)
  go_ret
  exact ⟨rfl, hb1.trans (hb2.mono hz1)⟩
end Go.Proofs.Ytdifepfplfkfoaa.treeBinds
