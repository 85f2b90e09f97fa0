/-
  LoginAnswers: the target answers with its own secret (printed by wip/gen_login8.py).
-/
import Derived.Test.YtiadfbcdopfibaaLoginMut
namespace Go.Proofs.Ytiadfbcdopfibaa.loginAnswers
open Go.RowKit Go.Proofs.Ytiadfbcdopfibaa
set_option linter.unusedVariables false
set_option linter.unusedSimpArgs false
set_option maxRecDepth 100000

set_option maxHeartbeats 4000000 in
theorem walk (cs0 : List Value) (w : World) (R0 : Rds w (.cons (.cons (.int .i64) (.cons (.int .i64) (.cons (.slice (.int .u8) 1 1) (.cons (.slice (.int .u8) 1 1) .nil)))) (.cons (.slice (.int .u8) 1 1) (.cons (.int .i64) (.cons (.int .i64) .nil)))) cs0) :
    Calls Try.prog 3 #[.agg cs0.toArray] w fun e w' => e = .returned (.bool true) ∧ Below w.heap.size w w' := by
  obtain ⟨_, _, rfl, q0, _, _, rfl, q1, _, _, rfl, q2, _, _, rfl, q3, rfl⟩ := R0
  obtain ⟨_, _, rfl, r0, _, _, rfl, r1, _, _, rfl, r2, _, _, rfl, r3, rfl⟩ := q0
  obtain ⟨tn, rfl, hx0⟩ := r0
  obtain ⟨init, rfl, hx1⟩ := r1
  obtain ⟨At, nt, ct, th, rfl, wt, yt⟩ := Rds.bytes r2
  obtain ⟨Ao, no, co, ou, rfl, wo, yo⟩ := Rds.bytes r3
  obtain ⟨A, m, c, ds, rfl, wd, yd⟩ := Rds.bytes q1
  obtain ⟨d0, rfl, hx4⟩ := q2
  obtain ⟨times, rfl, hx5⟩ := q3
  clear r2 r3 q1
  simp only [List.cons_append, List.nil_append, List.append_nil]
  obtain ⟨v, hv⟩ : ∃ v, v = w.alloc (.cells #[.int .i64 tn, .int .i64 init, .slice At nt ct, .slice Ao no co, .slice A m c, .int .i64 d0, .int .i64 times] 26) := ⟨_, rfl⟩
  have b1 : Blk v w.heap.size 26 #[.int .i64 tn, .int .i64 init, .slice At nt ct, .slice Ao no co, .slice A m c, .int .i64 d0, .int .i64 times] := by rw [hv]; exact Blk.new _ _ _
  have hbv : Below w.heap.size w v := by rw [hv]; exact below_alloc _ _
  have hz := hbv.size
  have e4 : v.cell? ⟨w.heap.size, 4, none⟩ = some (.slice A m c) := by rw [b1.cell]; rfl
  have e5 : v.cell? ⟨w.heap.size, 5, none⟩ = some (.int .i64 d0) := by rw [b1.cell]; rfl
  have e6 : v.cell? ⟨w.heap.size, 6, none⟩ = some (.int .i64 times) := by rw [b1.cell]; rfl
  have d0' : v.cell? ⟨w.heap.size, 0, none⟩ = some (.int .i64 tn) := by rw [b1.cell]; rfl
  have d1' : v.cell? ⟨w.heap.size, 1, none⟩ = some (.int .i64 init) := by rw [b1.cell]; rfl
  have d2' : v.cell? ⟨w.heap.size, 2, none⟩ = some (.slice At nt ct) := by rw [b1.cell]; rfl
  have d3' : v.cell? ⟨w.heap.size, 3, none⟩ = some (.slice Ao no co) := by rw [b1.cell]; rfl
  have HB := Lib.hid (show (∀ j v', (#[.int .i64 tn, .int .i64 init, .slice At nt ct, .slice Ao no co] : Array Value)[j]? = some v' → v.cell? ⟨w.heap.size, 0 + j, none⟩ = some v') from fun j v' h => by
    match j, h with
    | 0, h => rw [← h]; exact d0'
    | 1, h => rw [← h]; exact d1'
    | 2, h => rw [← h]; exact d2'
    | 3, h => rw [← h]; exact d3'
    | j + 4, h => simp at h)
  have HT := Lib.hid ((wt.below hbv).more hz)
  have HO := Lib.hid ((wo.below hbv).more hz)
  have HD := Lib.hid ((wd.below hbv).more hz)
  have HV := Lib.hid hv
  have hnt := Nat.le_trans wt.le yt
  have hno := Nat.le_trans wo.le yo
  have hm := Nat.le_trans wd.le yd
  clear hv wt wo wd b1 d0' d1' d2' d3'
  go_enter Try.func3, Try.ntmps3
  go_wp2_with (first
    | ((with_reducible show wpList _ _ _ (Oper.mk _ (Op.load 24 _) _ _ _ _ :: _) _ _); rw [← HV.out]; refine wpList_load_agg rfl 24 (.tmp 3) rfl w.heap.size 0 rfl #[.int .i64 tn, .int .i64 init, .slice At nt ct, .slice Ao no co] aggSec rfl HB.out ?_)
    | (go_at_call 10; (try rw [← HV.out]); refine (mutual_c tn init d0 times HT.out HO.out HD.out hnt hno hm).mono ?_; rintro e w3 ⟨rfl, hb3⟩))
  go_ret
  exact ⟨rfl, hbv.trans (hb3.mono hz)⟩
end Go.Proofs.Ytiadfbcdopfibaa.loginAnswers
