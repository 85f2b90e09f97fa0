/-
  TreeBinds returns true for every input: the statement, from its walk.
-/
import Derived.Test.YtdifepfplfkfoaaRows
import Derived.Test.YtdifepfplfkfoaaBase
import Derived.Test.YtdifepfplfkfoaaTreeBinds
import Derived.Test.YtdifepfplfkfoaaBulk
namespace Go.Proofs.Ytdifepfplfkfoaa.treeBinds
open Go.ChangeShapes Go.WideShapes Go.ChangeAt Go.RowKit
open Go.ChangeMaps (open_string shut_string)
set_option linter.unusedVariables false

set_option maxRecDepth 100000 in
theorem lifted (os : Os) (started : os.Started) (H : Type) (enc : TypeId × Value → H) (F : Stop.Interp) :
    ReturnsInHanded {} Try.checked os 3 .any ((Rows.OpenSpec.upto Rows.treeBindsSpec).pre6 enc Try.prog Try.f3 Rows.treeBindsUptoRow.domain false) (((Rows.OpenSpec.upto Rows.treeBindsSpec).at F).post enc Try.prog Try.f3 false true false false) := by
  refine returnsInHanded_of_cond_sized (C := Try.checked) (s := Rows.OpenSpec.upto Rows.treeBindsSpec) (k := Rows.uptoSmall) rfl own started (by kernel_rfl) Try.func3
    (OpenSpec.witness (enc := enc) (C := Try.checked) (s := Rows.OpenSpec.upto Rows.treeBindsSpec) (k := Rows.uptoSmall) rfl false ⟨#[], #[.agg #[.slice none 0 0, .slice none 0 0, .slice none 0 0, .int .i64 0, .int .u8 0]], []⟩ 8 (by kernel_rfl) (by kernel_rfl) (by kernel_rfl)
      (x := ([.agg [.nil, .nil, .nil, .lit (.int .i64 0), .lit (.int .u8 0)]], [], [])) (by kernel_rfl) rfl (by kernel_rfl)) ?_
  intro W base args ds gs before hval0 hW _ hcnd hsz0 _
  have hval : ∀ (j : Nat) t v, Try.f3.params[j]? = some t → args[j]? = some v → Value.okWide Try.prog W .any base t v := hval0
  have hsz : InReach Try.prog (Try.f3.params.toList ++ Rows.treeBindsSpec.plain.varTypes Try.prog) (ds ++ gs) := hsz0
  have hW' := hW
  obtain ⟨p, q, hA0, hV, rfl, hfz, hnd⟩ := hW
  have hA : DataW.TrodAll enc Try.prog W 0 (fun _ => true) true Try.f3.params.toList args.toList ds p := hA0
  rw [Try.params3] at hA hval hsz
  obtain ⟨v0, vs0, d0, ds0, p0, q0, hargs, rfl, rfl, h0, r0⟩ := trodAll_cons hA
  obtain ⟨rfl, rfl, rfl⟩ := trodAll_nil r0
  obtain rfl : args = #[v0] := by cases args; simp_all
  obtain ⟨rfl, rfl⟩ := trodVars_none hV
  obtain ⟨cs0, rfl, hc0⟩ := agg_cells (hval 0 24 v0 rfl rfl) (by kernel_rfl)
  have R0 := Opens.par (W := W) (Opens.struct (N := 5) Try.underlying24 (by kernel_rfl) (OpensF.cons (n := 1) rfl (by kernel_rfl) (Opens.slice (sz := 1) (by_ := 1) Try.underlying22 (by kernel_rfl) (by decide) (by kernel_rfl) (Opens.int Try.underlying5)) (OpensF.cons (n := 1) rfl (by kernel_rfl) (Opens.slice (sz := 1) (by_ := 1) Try.underlying22 (by kernel_rfl) (by decide) (by kernel_rfl) (Opens.int Try.underlying5)) (OpensF.cons (n := 1) rfl (by kernel_rfl) (Opens.slice (sz := 1) (by_ := 1) Try.underlying22 (by kernel_rfl) (by decide) (by kernel_rfl) (Opens.int Try.underlying5)) (OpensF.cons (n := 1) rfl (by kernel_rfl) (Opens.int Try.underlying3) (OpensF.cons (n := 1) rfl (by kernel_rfl) (Opens.int Try.underlying5) (OpensF.nil rfl))))))) h0 hsz 0 rfl rfl
  rw [hc0] at R0
  have U0 := OpensU.par (W := W) (s := (.cons (.slice (.int .u8) 1 1) (.cons (.slice (.int .u8) 1 1) (.cons (.slice (.int .u8) 1 1) (.cons (.int .i64) (.cons (.int .u8) .nil)))))) (OpensU.struct (N := 5) Try.underlying24 (by kernel_rfl) (OpensUF.cons (n := 1) rfl (by kernel_rfl) (OpensU.slice Try.underlying22) (OpensUF.cons (n := 1) rfl (by kernel_rfl) (OpensU.slice Try.underlying22) (OpensUF.cons (n := 1) rfl (by kernel_rfl) (OpensU.slice Try.underlying22) (OpensUF.cons (n := 1) rfl (by kernel_rfl) (OpensU.int Try.underlying3) (OpensUF.cons (n := 1) rfl (by kernel_rfl) (OpensU.int Try.underlying5) (OpensUF.nil rfl))))))) h0 hcnd 0 rfl
  rw [hc0] at U0
  clear hA0 hval0 hsz0
  refine (walk cs0 W R0 U0).mono fun e W' ⟨he, bel⟩ => ?_
  subst he
  exact ⟨_, rfl, _, _, _, [], _, [], hW', trodAll_mk1 (shut_bool Try.underlying4 _), (trodAll_cons_mk (Below.trod laidOut (by kernel_rfl) (of_decide_eq_true (by kernel_rfl)) h0 bel (trod_lt h0)) trodAll_mk0), rfl, bel.frame _, fun h => by cases h⟩

theorem over : Rows.treeBindsUptoRow.holds Try.pinned (Rows.OpenSpec.upto Rows.treeBindsSpec) :=
  OpenClaim.holds_of_cond 3 Try.f3 rfl rfl rfl rfl rfl rfl rfl ⟨rfl, rfl, rfl, rfl, rfl⟩ rfl rfl rfl rfl rfl (by kernel_rfl) Try.func3 (by kernel_rfl)
    (of_decide_eq_true (by kernel_rfl)) (by unfold Func.isWrapper; first | (rw [if_pos (by decide +kernel)]; kernel_rfl) | (rw [if_neg (by decide +kernel)]; exact ⟨rfl, rfl⟩))
    (fun os started H enc _ F => lifted os started H enc F)

theorem proved : Rows.TreeBindsUptoSaid := over
#print axioms proved
end Go.Proofs.Ytdifepfplfkfoaa.treeBinds
