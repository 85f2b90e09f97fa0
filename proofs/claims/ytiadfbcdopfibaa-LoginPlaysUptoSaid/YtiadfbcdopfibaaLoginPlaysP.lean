/-
  LoginPlays returns true for every input: the statement, from its walk.
-/
import Derived.Test.YtiadfbcdopfibaaRows
import Derived.Test.YtiadfbcdopfibaaBase
import Derived.Test.YtiadfbcdopfibaaLoginPlays
import Derived.Test.YtiadfbcdopfibaaBulkR
namespace Go.Proofs.Ytiadfbcdopfibaa.loginPlays
open Go.ChangeShapes Go.WideShapes Go.ChangeAt Go.RowKit
open Go.ChangeMaps (open_string shut_string)
set_option linter.unusedVariables false

set_option maxRecDepth 100000 in
theorem lifted (os : Os) (started : os.Started) (H : Type) (enc : TypeId × Value → H) (F : Stop.Interp) :
    ReturnsInHanded {} Try.checked os 5 .any ((Rows.OpenSpec.upto Rows.loginPlaysSpec).pre6 enc Try.prog Try.f5 Rows.loginPlaysUptoRow.domain false) (((Rows.OpenSpec.upto Rows.loginPlaysSpec).at F).post enc Try.prog Try.f5 false true false false) := by
  refine returnsInHanded_of_cond_sized (C := Try.checked) (s := Rows.OpenSpec.upto Rows.loginPlaysSpec) (k := Rows.uptoSmall) rfl own started (by kernel_rfl) Try.func5
    (OpenSpec.witness (enc := enc) (C := Try.checked) (s := Rows.OpenSpec.upto Rows.loginPlaysSpec) (k := Rows.uptoSmall) rfl false ⟨#[], #[.agg #[.int .i64 0, .int .i64 0, .slice none 0 0, .slice none 0 0, .slice none 0 0]], []⟩ 8 (by kernel_rfl) (by kernel_rfl) (by kernel_rfl)
      (x := ([.agg [.agg [.lit (.int .i64 0), .lit (.int .i64 0), .nil, .nil], .nil]], [], [])) (by kernel_rfl) rfl (by kernel_rfl)) ?_
  intro W base args ds gs before hval0 hW _ hcnd hsz0 _
  have hval : ∀ (j : Nat) t v, Try.f5.params[j]? = some t → args[j]? = some v → Value.okWide Try.prog W .any base t v := hval0
  have hsz : InReach Try.prog (Try.f5.params.toList ++ Rows.loginPlaysSpec.plain.varTypes Try.prog) (ds ++ gs) := hsz0
  have hW' := hW
  obtain ⟨p, q, hA0, hV, rfl, hfz, hnd⟩ := hW
  have hA : DataW.TrodAll enc Try.prog W 0 (fun _ => true) true Try.f5.params.toList args.toList ds p := hA0
  rw [Try.params5] at hA hval hsz
  obtain ⟨v0, vs0, d0, ds0, p0, q0, hargs, rfl, rfl, h0, r0⟩ := trodAll_cons hA
  obtain ⟨rfl, rfl, rfl⟩ := trodAll_nil r0
  obtain rfl : args = #[v0] := by cases args; simp_all
  obtain ⟨rfl, rfl⟩ := trodVars_none hV
  obtain ⟨cs0, rfl, hc0⟩ := agg_cells (hval 0 49 v0 rfl rfl) (by kernel_rfl)
  have R0 := Opens.par (W := W) (Opens.struct (N := 5) Try.underlying49 (by kernel_rfl) (OpensF.cons (n := 4) rfl (by kernel_rfl) (Opens.struct (N := 4) Try.underlying24 (by kernel_rfl) (OpensF.cons (n := 1) rfl (by kernel_rfl) (Opens.int Try.underlying3) (OpensF.cons (n := 1) rfl (by kernel_rfl) (Opens.int Try.underlying3) (OpensF.cons (n := 1) rfl (by kernel_rfl) (Opens.slice (sz := 1) (by_ := 1) Try.underlying22 (by kernel_rfl) (by decide) (by kernel_rfl) (Opens.int Try.underlying5)) (OpensF.cons (n := 1) rfl (by kernel_rfl) (Opens.slice (sz := 1) (by_ := 1) Try.underlying22 (by kernel_rfl) (by decide) (by kernel_rfl) (Opens.int Try.underlying5)) (OpensF.nil rfl)))))) (OpensF.cons (n := 1) rfl (by kernel_rfl) (Opens.slice (sz := 6) (by_ := 64) Try.underlying47 (by kernel_rfl) (by decide) (by kernel_rfl) (Opens.struct (N := 6) Try.underlying38 (by kernel_rfl) (OpensF.cons (n := 4) rfl (by kernel_rfl) (Opens.struct (N := 4) Try.underlying36 (by kernel_rfl) (OpensF.cons (n := 1) rfl (by kernel_rfl) (Opens.int Try.underlying3) (OpensF.cons (n := 1) rfl (by kernel_rfl) (Opens.int Try.underlying3) (OpensF.cons (n := 1) rfl (by kernel_rfl) (Opens.int Try.underlying3) (OpensF.cons (n := 1) rfl (by kernel_rfl) (Opens.slice (sz := 1) (by_ := 1) Try.underlying22 (by kernel_rfl) (by decide) (by kernel_rfl) (Opens.int Try.underlying5)) (OpensF.nil rfl)))))) (OpensF.cons (n := 1) rfl (by kernel_rfl) (Opens.int Try.underlying3) (OpensF.cons (n := 1) rfl (by kernel_rfl) (Opens.bool Try.underlying4) (OpensF.nil rfl)))))) (OpensF.nil rfl)))) h0 hsz 0 rfl rfl
  rw [hc0] at R0
  have U0 := OpensUR.par (W := W) (s := (.cons (.cons (.int .i64) (.cons (.int .i64) (.cons (.slice (.int .u8) 1 1) (.cons (.slice (.int .u8) 1 1) .nil)))) (.cons (.slice (.cons (.cons (.int .i64) (.cons (.int .i64) (.cons (.int .i64) (.cons (.slice (.int .u8) 1 1) .nil)))) (.cons (.int .i64) (.cons .bool .nil))) 6 64) .nil))) (OpensUR.struct (N := 5) Try.underlying49 (by kernel_rfl) (OpensURF.cons (n := 4) rfl (by kernel_rfl) (OpensUR.struct (N := 4) Try.underlying24 (by kernel_rfl) (OpensURF.cons (n := 1) rfl (by kernel_rfl) (OpensUR.int Try.underlying3) (OpensURF.cons (n := 1) rfl (by kernel_rfl) (OpensUR.int Try.underlying3) (OpensURF.cons (n := 1) rfl (by kernel_rfl) (OpensUR.slice (sz := 1) Try.underlying22 (by kernel_rfl) (OpensUR.int Try.underlying5)) (OpensURF.cons (n := 1) rfl (by kernel_rfl) (OpensUR.slice (sz := 1) Try.underlying22 (by kernel_rfl) (OpensUR.int Try.underlying5)) (OpensURF.nil rfl)))))) (OpensURF.cons (n := 1) rfl (by kernel_rfl) (OpensUR.slice (sz := 6) Try.underlying47 (by kernel_rfl) (OpensUR.struct (N := 6) Try.underlying38 (by kernel_rfl) (OpensURF.cons (n := 4) rfl (by kernel_rfl) (OpensUR.struct (N := 4) Try.underlying36 (by kernel_rfl) (OpensURF.cons (n := 1) rfl (by kernel_rfl) (OpensUR.int Try.underlying3) (OpensURF.cons (n := 1) rfl (by kernel_rfl) (OpensUR.int Try.underlying3) (OpensURF.cons (n := 1) rfl (by kernel_rfl) (OpensUR.int Try.underlying3) (OpensURF.cons (n := 1) rfl (by kernel_rfl) (OpensUR.slice (sz := 1) Try.underlying22 (by kernel_rfl) (OpensUR.int Try.underlying5)) (OpensURF.nil rfl)))))) (OpensURF.cons (n := 1) rfl (by kernel_rfl) (OpensUR.int Try.underlying3) (OpensURF.cons (n := 1) rfl (by kernel_rfl) (OpensUR.bool Try.underlying4) (OpensURF.nil rfl)))))) (OpensURF.nil rfl)))) h0 hcnd 0 rfl
  rw [hc0] at U0
  clear hA0 hval0 hsz0
  refine (walk cs0 W R0 U0).mono fun e W' ⟨he, bel⟩ => ?_
  subst he
  exact ⟨_, rfl, _, _, _, [], _, [], hW', trodAll_mk1 (shut_bool Try.underlying4 _), (trodAll_cons_mk (Below.trod laidOut (by kernel_rfl) (of_decide_eq_true (by kernel_rfl)) h0 bel (trod_lt h0)) trodAll_mk0), rfl, bel.frame _, fun h => by cases h⟩

theorem over : Rows.loginPlaysUptoRow.holds Try.pinned (Rows.OpenSpec.upto Rows.loginPlaysSpec) :=
  OpenClaim.holds_of_cond 5 Try.f5 rfl rfl rfl rfl rfl rfl rfl ⟨rfl, rfl, rfl, rfl, rfl⟩ rfl rfl rfl rfl rfl (by kernel_rfl) Try.func5 (by kernel_rfl)
    (of_decide_eq_true (by kernel_rfl)) (by unfold Func.isWrapper; first | (rw [if_pos (by decide +kernel)]; kernel_rfl) | (rw [if_neg (by decide +kernel)]; exact ⟨rfl, rfl⟩))
    (fun os started H enc _ F => lifted os started H enc F)

theorem proved : Rows.LoginPlaysUptoSaid := over
#print axioms proved
end Go.Proofs.Ytiadfbcdopfibaa.loginPlays
