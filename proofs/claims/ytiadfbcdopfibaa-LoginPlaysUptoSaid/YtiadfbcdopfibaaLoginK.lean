/-
  login: a cut ahead of a region, without the frame written out; what hello, answer do (printed by wip/gen_login9.py).
-/
import Derived.Test.YtiadfbcdopfibaaLoginG
namespace Go.Proofs.Ytiadfbcdopfibaa
open Go.RowKit
set_option linter.unusedVariables false
set_option linter.unusedSimpArgs false
set_option maxRecDepth 100000

theorem wp_norm {P : Program} {c : Code} {Q : Exit → Act → World → Prop} {a : Act} {w : World} (h : Code.wp P c (Exit.then (fun a' w' => Q .normal a' w') (fun _ _ _ => False)) a w) : Code.wp P c Q a w :=
  Code.wp_mono (fun e a' w' hh => by
    cases e with
    | normal => exact hh
    | _ => exact hh.elim) h
theorem wrap_u64_nn (x : Int) : 0 ≤ IntKind.u64.wrap x := by rw [wrap_u64]; omega
theorem buildOp (d : Int) (w : World) : (Instr.build 38 #[(1, .int .i64 d)]).run Try.prog w = .ok (.agg #[.int .i64 0, .int .i64 0, .int .i64 0, .slice none 0 0, .int .i64 d, .bool false]) w := by kernel_rfl
theorem buildSumZ (w : World) : (Instr.build 34 #[]).run Try.prog w = .ok (.agg (arr8 (z8' 32))) w := by kernel_rfl
theorem Se.sumStep {w w' : World} {base gs g : Nat} {init : Int} {th ou ch : List UInt8} {st gr nx : Int} {cs : Array Value} (h : Se w base gs init th ou st gr ch nx) (hb : Blk w g 34 cs) (hg : w.grownBy w' (some g)) : Se w' base gs init th ou st gr ch nx := by
  obtain ⟨tn, At, nt, ct, Ao, no, co, h1, h2, h3⟩ := h.cells
  have ne : gs ≠ g := fun e => by
    rw [Blk] at hb h1
    rw [← e, h1] at hb
    simp at hb
  have far : ∀ {A : Option Addr} {n c : Nat} {bs : List UInt8}, OwB w base A n c bs → OwB w' base A n c bs := fun {A n c bs} hr => by
    refine Row.keepRow hr hg ?_
    by_cases hc : c = 0
    · left; rw [wrote, if_pos hc]
    · right
      intro e
      obtain ⟨g', cur, rfl, _, hk, _⟩ := OwB.open_ hr (by omega)
      rw [wrote, if_neg hc] at e
      simp only [Option.map_some, Option.some.injEq] at e
      subst e
      rw [Blk] at hb hk
      rw [hk] at hb
      simp at hb
  exact ⟨⟨tn, At, nt, ct, Ao, no, co, h1.grown hg (by simpa using ne), far h2, far h3⟩, h.lch, h.hb⟩
section
variable {init : Int} {th ou : List UInt8} {s : Sst} {ds dr : List UInt8}
theorem hnd_no (h : ¬ (16 ≤ ds.length ∧ ds.length ≤ 64)) : hnd init th ou s 1 init ds dr = (s, Out.rej 12) := by
  rw [hnd, if_pos rfl, if_neg (fun e => h e.2)]
theorem hnd_yes (h : 16 ≤ ds.length ∧ ds.length ≤ 64) (k : Int) (hk : (((s.gr + 1) % 256 : Nat) : Int) = k) : hnd init th ou s 1 init ds dr = (⟨1, s.gr + 1, s.nx, dr⟩, ⟨true, 2, k, 0, dr ++ ansOf k ou ds, true, false⟩) := by
  rw [hnd, if_pos rfl, if_pos ⟨rfl, h⟩, hk]
theorem hnd_right (hs : s.st = 1) (n : Int) (k : Int) (hk : ((s.gr % 256 : Nat) : Int) = k) (h : (ansOf k th s.ch == ds) = true) : hnd init th ou s 3 n ds dr = (⟨2, s.gr, 1, s.ch⟩, ⟨true, 4, 0, 0, [], false, false⟩) := by
  rw [hnd, if_neg (by omega), if_pos rfl, if_pos hs, hk, if_pos h]
theorem hnd_wrong (hs : s.st = 1) (n : Int) (k : Int) (hk : ((s.gr % 256 : Nat) : Int) = k) (h : (ansOf k th s.ch == ds) = false) : hnd init th ou s 3 n ds dr = (⟨0, s.gr, s.nx, s.ch⟩, Out.rej 12) := by
  rw [hnd, if_neg (by omega), if_pos rfl, if_pos hs, hk, if_neg (by rw [h]; exact Bool.false_ne_true)]
end
end Go.Proofs.Ytiadfbcdopfibaa
