/-
  login: what a session does, in plain laws (printed by wip/gen_login11.py).
-/
import Derived.Test.YtiadfbcdopfibaaLoginFr
namespace Go.Proofs.Ytiadfbcdopfibaa
open Go.RowKit
set_option linter.unusedVariables false
set_option linter.unusedSimpArgs false
set_option maxRecDepth 100000

theorem ansOf_mod (k : Nat) (th ch : List UInt8) : ansOf ((k % 256 : Nat) : Int) th ch = ansOf (k : Int) th ch := by
  have : idB ((k % 256 : Nat) : Int) = idB (k : Int) := by
    unfold idB
    congr 2
    omega
  unfold ansOf ansText
  rw [this]
theorem Se.frStep {w w' : World} {base gs g : Nat} {init : Int} {th ou ch : List UInt8} {st gr nx : Int} {cs : Array Value} (h : Se w base gs init th ou st gr ch nx) (hb : Blk w g 36 cs) (hg : w.grownBy w' (some g)) : Se w' base gs init th ou st gr ch nx := by
  obtain ⟨tn, At, nt, ct, Ao, no, co, h1, h2, h3⟩ := h.cells
  have ne : gs ≠ g := fun e => by
    rw [Blk] at hb h1
    rw [← e, h1] at hb
    simp at hb
  have far : ∀ {A : Option Addr} {n c : Nat} {bs : List UInt8}, OwB w base A n c bs → OwB w' base A n c bs := fun {A n c bs} hr => by
    refine Row.keepRow hr hg ?_
    by_cases hc : c = 0
    · left; rw [wrote, if_pos hc]
    · right
      intro e
      obtain ⟨g', cur, rfl, _, hk, _⟩ := OwB.open_ hr (by omega)
      rw [wrote, if_neg hc] at e
      simp only [Option.map_some, Option.some.injEq] at e
      subst e
      rw [Blk] at hb hk
      rw [hk] at hb
      simp at hb
  exact ⟨⟨tn, At, nt, ct, Ao, no, co, h1.grown hg (by simpa using ne), far h2, far h3⟩, h.lch, h.hb⟩
theorem slN_keep0 {w W : World} {B g m c : Nat} {A : Option Addr} {ds : List UInt8} (h : SlB w B A m c ds) (hB : B ≤ w.heap.size) (hf : 0 < m → ∀ b off, A = some ⟨b, off, none⟩ → b ≠ g) (hk : Fr [g] w W) : SlB W B A m c ds := by
  rcases Nat.eq_zero_or_pos m with h0 | h0
  · refine ⟨h.1, h.2.1, h.2.2.1, fun hc => ?_⟩
    obtain ⟨b, off, e, hb, hj⟩ := h.2.2.2 hc
    refine ⟨b, off, e, hb, fun j u hu => ?_⟩
    have hl := h.1
    rw [h0, Nat.zero_mul] at hl
    rw [List.length_eq_zero_iff.1 hl] at hu
    simp at hu
  · exact slN_keep h hB (hf h0) hk
theorem tot_ge (ops : List Opv) : 10 * ops.length ≤ tot ops := by
  induction ops with
  | nil => simp [tot]
  | cons o r ih =>
    simp only [tot, List.map_cons, List.sum_cons, List.length_cons] at ih ⊢
    omega
theorem StepV.two {w : World} {base : Nat} {o : Out} {v : Value} (h : StepV w base o v) : ∃ A n c, v = .agg #[.slice A n c, .bool o.drew, .bool o.taken] := by
  rcases h with ⟨_, g, A, c, rfl, _⟩ | ⟨_, rfl⟩ <;> exact ⟨_, _, _, rfl⟩
section
variable {init : Int} {th ou : List UInt8} {s s1 : Sst} {k n : Int} {ds dr el : List UInt8} {out : Out}
theorem hnd_b (h : hnd init th ou s k n ds dr = (s1, out)) (h0 : 0 ≤ s.nx) : s1.gr ≤ s.gr + 1 ∧ 0 ≤ s1.nx ∧ (s1.nx ≤ s.nx + 1 ∨ s1.nx = 1) := by
  unfold hnd at h
  repeat' split at h
  all_goals
    simp only [Prod.mk.injEq] at h
    obtain ⟨rfl, rfl⟩ := h
    (try simp only)
    omega
theorem hnd_cases (h : hnd init th ou s k n ds dr = (s1, out)) :
    (k = 1 ∧ s1 = ⟨1, s.gr + 1, s.nx, dr⟩ ∧ out.drew = true ∧ out.taken = false)
    ∨ (k = 3 ∧ s.st = 1 ∧ out.drew = false ∧ out.taken = false ∧ ((ansOf (s.gr : Int) th s.ch = ds ∧ s1 = ⟨2, s.gr, 1, s.ch⟩) ∨ (ansOf (s.gr : Int) th s.ch ≠ ds ∧ s1 = ⟨0, s.gr, s.nx, s.ch⟩)))
    ∨ (k = 8 ∧ s1 = ⟨0, s.gr, s.nx, s.ch⟩ ∧ out.drew = false ∧ out.taken = false)
    ∨ (k = 5 ∧ s.st = 2 ∧ n = s.nx ∧ s1 = ⟨2, s.gr, s.nx + 1, s.ch⟩ ∧ out.drew = false ∧ out.taken = true)
    ∨ (s1 = s ∧ out.drew = false ∧ out.taken = false ∧ k ≠ 8 ∧ (k = 3 → s.st ≠ 1) ∧ (k = 5 → s.st = 2 → n ≠ s.nx)) := by
  unfold hnd at h
  repeat' split at h
  all_goals
    simp only [Prod.mk.injEq] at h
    obtain ⟨rfl, rfl⟩ := h
  case _ h1 _ => exact .inl ⟨h1, rfl, rfl, rfl⟩
  case _ h1 _ => exact .inr (.inr (.inr (.inr ⟨rfl, rfl, rfl, by omega, fun h => by omega, fun h => by omega⟩)))
  case _ h3 h1 he => exact .inr (.inl ⟨h3, h1, rfl, rfl, .inl ⟨by rw [ansOf_mod] at he; exact beq_iff_eq.1 he, rfl⟩⟩)
  case _ h3 h1 he => exact .inr (.inl ⟨h3, h1, rfl, rfl, .inr ⟨fun e => he (by rw [ansOf_mod]; exact beq_iff_eq.2 e), rfl⟩⟩)
  case _ h3 h1 => exact .inr (.inr (.inr (.inr ⟨rfl, rfl, rfl, by omega, fun _ => h1, fun h => by omega⟩)))
  case _ h5 h2 hn => exact .inr (.inr (.inr (.inl ⟨h5, h2, hn, rfl, rfl, rfl⟩)))
  case _ h5 h2 hn => exact .inr (.inr (.inr (.inr ⟨rfl, rfl, rfl, by omega, fun h => by omega, fun _ _ => hn⟩)))
  case _ h5 h2 => exact .inr (.inr (.inr (.inr ⟨rfl, rfl, rfl, by omega, fun h => by omega, fun _ h => absurd h h2⟩)))
  case _ h8 => exact .inr (.inr (.inl ⟨h8, rfl, rfl, rfl⟩))
  case _ h1 h3 h5 h8 => exact .inr (.inr (.inr (.inr ⟨rfl, rfl, rfl, h8, fun h => absurd h h3, fun h => absurd h h5⟩)))
theorem forged (hst : s.st ≠ 2) (hch : s.st = 1 → s.ch = el) (hne : k = 3 → ds ≠ ansOf (s.gr : Int) th el) (h : hnd init th ou s k n ds dr = (s1, out)) : out.taken = false ∧ s1.st ≠ 2 ∧ (s1.st = 1 → s1.ch = if out.drew = true then dr else el) := by
  unfold hnd at h
  repeat' split at h
  all_goals
    simp only [Prod.mk.injEq] at h
    obtain ⟨rfl, rfl⟩ := h
  case _ => exact ⟨rfl, by simp, fun _ => rfl⟩
  case _ => exact ⟨rfl, hst, hch⟩
  case _ h3 h1 he =>
    exfalso
    rw [ansOf_mod, hch h1] at he
    exact hne h3 (by simpa using (beq_iff_eq.1 he).symm)
  all_goals first
    | exact ⟨rfl, hst, hch⟩
    | exact ⟨rfl, by simp, fun h => by simp at h⟩
    | (exfalso; exact hst (by assumption))
end
end Go.Proofs.Ytiadfbcdopfibaa
