/-
  LoginNone: what a nil session answers (printed by wip/gen_login7.py).
-/
import Derived.Test.YtiadfbcdopfibaaLoginG
namespace Go.Proofs.Ytiadfbcdopfibaa.loginNone
open Go.RowKit Go.Proofs.Ytiadfbcdopfibaa
set_option linter.unusedVariables false
set_option linter.unusedSimpArgs false
set_option maxRecDepth 100000

def d1 : List UInt8 := 1 :: List.replicate 31 0
theorem buildD1 (w : World) : (Instr.build 34 #[(0, .int .u8 1)]).run Try.prog w = .ok (.agg (arr8 d1)) w := by kernel_rfl
set_option maxHeartbeats 4000000 in
theorem walk (cs0 : List Value) (w : World) (R0 : Rds w (.cons (.int .i64) (.cons (.int .i64) (.cons (.int .i64) (.cons (.slice (.int .u8) 1 1) .nil)))) cs0) :
    Calls Try.prog 8 #[.agg cs0.toArray] w fun e w' => e = .returned (.bool true) ∧ Below w.heap.size w w' := by
  obtain ⟨_, _, rfl, r0, _, _, rfl, r1, _, _, rfl, r2, _, _, rfl, r3, rfl⟩ := R0
  obtain ⟨k, rfl, hx0⟩ := r0
  obtain ⟨n, rfl, hx1⟩ := r1
  obtain ⟨x, rfl, hx2⟩ := r2
  obtain ⟨A, m, c, ds, rfl, w3, y3⟩ := Rds.bytes r3
  clear r3
  simp only [List.cons_append, List.nil_append, List.append_nil]
  obtain ⟨v, hv⟩ : ∃ v, v = w.alloc (.cells #[.int .i64 k, .int .i64 n, .int .i64 x, .slice A m c] 36) := ⟨_, rfl⟩
  have b1 : Blk v w.heap.size 36 #[.int .i64 k, .int .i64 n, .int .i64 x, .slice A m c] := by rw [hv]; exact Blk.new _ _ _
  have hbv : Below w.heap.size w v := by rw [hv]; exact below_alloc _ _
  have hz := hbv.size
  obtain ⟨dd, hB2⟩ : ∃ d : List UInt8, ∀ w, (Instr.build 34 #[(0, .int .u8 1)]).run Try.prog w = .ok (.agg (arr8 d)) w := ⟨d1, buildD1⟩
  have HV := Lib.hid hv
  have HB1 := Lib.hid b1
  clear hv w3 b1
  go_enter Try.func8, Try.ntmps8
  go_wp2_with (first
    | (go_at_call 11; rw [← HV.out]; refine (alive_c v).mono ?_; rintro e v1 ⟨rfl, hb1⟩)
    | ((with_reducible show wpList _ _ _ (Oper.mk (some 8) (Op.load 36 (.tmp 1)) _ _ _ _ :: _) _ _); refine wpList_load_whole rfl 36 (.tmp 1) rfl w.heap.size rfl #[.int .i64 k, .int .i64 n, .int .i64 x, .slice A m c] aggFr rfl _ (HB1.out.below hb1 HB1.out.lt) ?_)
    | ((with_reducible show wpList _ _ _ (Oper.mk (some 9) (Op.build 34 _) _ _ _ _ :: _) _ _); refine wpList_build rfl 34 _ rfl #[(0, .int .u8 1)] (by simp only [List.map_toArray, List.map_cons, List.map_nil]; rfl) _ (hB2 _) ?_; simp only [Act.put, List.setIfInBounds_toArray, List.set_cons_succ, List.set_cons_zero])
    | (go_at_call 14; refine (handle_nil k n x A m c).mono ?_; rintro e v2 ⟨rfl, hb2⟩)
    | (go_at_call 15; refine (state_nil _).mono ?_; rintro e v3 ⟨rfl, rfl⟩)
    | (go_at_call 16; refine (next_nil _).mono ?_; rintro e v3 ⟨rfl, rfl⟩)
    | (go_at_call 22; refine (greeted_nil _).mono ?_; rintro e v3 ⟨rfl, rfl⟩))
  go_ret
  have hz1 := hb1.size
  have hz2 := hb2.size
  exact ⟨rfl, (((hbv.trans (hb1.mono hz)).trans (hb2.mono (by omega))).alloc (by omega) _)⟩
end Go.Proofs.Ytiadfbcdopfibaa.loginNone
