/-
  LoginHello returns true for every input: the statement, from its walk.
-/
import Derived.Test.YtiadfbcdopfibaaRows
import Derived.Test.YtiadfbcdopfibaaBase
import Derived.Test.YtiadfbcdopfibaaLoginHello
namespace Go.Proofs.Ytiadfbcdopfibaa.loginHello
open Go.ChangeShapes Go.WideShapes Go.ChangeAt Go.RowKit
open Go.ChangeMaps (open_string shut_string)
set_option linter.unusedVariables false

set_option maxRecDepth 100000 in
theorem lifted (os : Os) (started : os.Started) (H : Type) (enc : TypeId × Value → H) :
    ReturnsInHanded {} Try.checked os 4 .any (Rows.loginHelloSpec.pre6 enc Try.prog Try.f4 Rows.loginHelloRow.domain false) (Rows.loginHelloSpec.post enc Try.prog Try.f4 false true false false) := by
  refine returnsInHanded_of_change_sized (C := Try.checked) own started (by kernel_rfl) Try.func4
    (ChangeSpec.witness6 (enc := enc) (C := Try.checked) false ⟨#[], #[.agg #[.int .i64 0, .int .i64 0, .slice none 0 0, .slice none 0 0], .slice none 0 0], []⟩ 8 (by kernel_rfl) (by kernel_rfl) (by kernel_rfl) (by kernel_rfl)) ?_
  intro W base args ds gs before hval0 hW hcnd hsz0 _
  have hval : ∀ (j : Nat) t v, Try.f4.params[j]? = some t → args[j]? = some v → Value.okWide Try.prog W .any base t v := hval0
  have hsz : InReach Try.prog (Try.f4.params.toList ++ Rows.loginHelloSpec.plain.varTypes Try.prog) (ds ++ gs) := hsz0
  have hW' := hW
  obtain ⟨p, q, hA0, hV, rfl, hfz, hnd⟩ := hW
  have hA : DataW.TrodAll enc Try.prog W 0 (fun _ => true) true Try.f4.params.toList args.toList ds p := hA0
  rw [Try.params4] at hA hval hsz
  obtain ⟨v0, vs0, d0, ds0, p0, q0, hargs, rfl, rfl, h0, r0⟩ := trodAll_cons hA
  obtain ⟨v1, vs1, d1, ds1, p1, q1, rfl, rfl, rfl, h1, r1⟩ := trodAll_cons r0
  obtain ⟨rfl, rfl, rfl⟩ := trodAll_nil r1
  obtain rfl : args = #[v0, v1] := by cases args; simp_all
  obtain ⟨rfl, rfl⟩ := trodVars_none hV
  obtain ⟨A1, n1, c1, zs1, rfl, w1, x1, z1⟩ := open_ints' Try.underlying29 Try.underlying3 (by kernel_rfl) (b := 8) (by kernel_rfl) (hval 1 29 v1 rfl rfl) h1
  have y1 := z1 _ _ 1 hsz rfl rfl
  obtain ⟨cs0, rfl, hc0⟩ := agg_cells (hval 0 24 v0 rfl rfl) (by kernel_rfl)
  have R0 := Opens.par (W := W) (Opens.struct (N := 4) Try.underlying24 (by kernel_rfl) (OpensF.cons (n := 1) rfl (by kernel_rfl) (Opens.int Try.underlying3) (OpensF.cons (n := 1) rfl (by kernel_rfl) (Opens.int Try.underlying3) (OpensF.cons (n := 1) rfl (by kernel_rfl) (Opens.slice (sz := 1) (by_ := 1) Try.underlying22 (by kernel_rfl) (by decide) (by kernel_rfl) (Opens.int Try.underlying5)) (OpensF.cons (n := 1) rfl (by kernel_rfl) (Opens.slice (sz := 1) (by_ := 1) Try.underlying22 (by kernel_rfl) (by decide) (by kernel_rfl) (Opens.int Try.underlying5)) (OpensF.nil rfl)))))) h0 hsz 0 rfl rfl
  rw [hc0] at R0
  clear hA0 hval0 hsz0
  refine (walk A1 n1 c1 zs1 cs0 W w1 x1 y1 R0).mono fun e W' ⟨he, bel⟩ => ?_
  subst he
  exact ⟨_, rfl, _, _, _, [], _, [], hW', trodAll_mk1 (shut_bool Try.underlying4 _), (trodAll_cons_mk (Below.trod laidOut (by kernel_rfl) (of_decide_eq_true (by kernel_rfl)) h0 bel (trod_lt h0)) (trodAll_cons_mk (Below.trod laidOut (by kernel_rfl) (of_decide_eq_true (by kernel_rfl)) h1 bel (trod_lt h1)) trodAll_mk0)), rfl, bel.frame _, fun h => by cases h⟩

theorem over : Rows.loginHelloRow.holds Try.pinned (OpenSpec.ofChange Rows.loginHelloSpec) :=
  OpenClaim.holds_of_wide 4 Try.f4 rfl rfl rfl rfl rfl rfl rfl ⟨rfl, rfl, rfl, rfl, rfl⟩ rfl rfl rfl rfl rfl (by kernel_rfl) Try.func4 (by kernel_rfl)
    (of_decide_eq_true (by kernel_rfl)) (by unfold Func.isWrapper; first | (rw [if_pos (by decide +kernel)]; kernel_rfl) | (rw [if_neg (by decide +kernel)]; exact ⟨rfl, rfl⟩))
    (fun os started H enc _ => lifted os started H enc)

theorem proved : Rows.LoginHelloSaid := over
#print axioms proved
end Go.Proofs.Ytiadfbcdopfibaa.loginHello
