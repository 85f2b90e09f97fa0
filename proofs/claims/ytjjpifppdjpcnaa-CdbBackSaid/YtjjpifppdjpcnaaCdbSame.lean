/-
  Two commands compared: the program's Same and the document's.
-/
import Derived.Test.YtjjpifppdjpcnaaCdbDecF
namespace Go.Proofs.Ytjjpifppdjpcnaa
open Go.RowKit
set_option linter.unusedVariables false
set_option linter.unusedSimpArgs false
set_option maxRecDepth 100000

theorem csame_c {w : World} {B B' : Nat} {A A' : Option Addr} {m c m' c' : Nat} {ds ds' : List UInt8} (kind unit block many op who key new ty : Int) (st : Bool) (kind' unit' block' many' op' who' key' new' ty' : Int) (st' : Bool) (h : SlB w B A m c ds) (h' : SlB w B' A' m' c' ds') (hB : B ≤ w.heap.size) (hB' : B' ≤ w.heap.size) :
    Calls Try.prog 38 #[.agg #[.int .i64 kind, .int .i64 unit, .int .i64 block, .int .i64 many, .slice A m c, .int .i64 op, .int .i64 who, .int .i64 key, .int .i64 new, .int .i64 ty, .bool st], .agg #[.int .i64 kind', .int .i64 unit', .int .i64 block', .int .i64 many', .slice A' m' c', .int .i64 op', .int .i64 who', .int .i64 key', .int .i64 new', .int .i64 ty', .bool st']] w fun e w' => e = .returned (.bool (decide (kind = kind' ∧ unit = unit' ∧ block = block' ∧ many = many' ∧ (op = op' ∧ who = who' ∧ key = key' ∧ new = new' ∧ ty = ty' ∧ st = st') ∧ ds = ds'))) ∧ Below w.heap.size w w' := by
  have hw : ∀ o o', Below w.heap.size w ((w.alloc o).alloc o') := fun o o' => ((Below.refl _ _).alloc (Nat.le_refl _) _).alloc (by simp) _
  have E1 := fun o o' => h.below ((hw o o').mono hB)
  have E2 := fun o o' => h'.below ((hw o o').mono hB')
  clear h h'
  go_enter Try.func38, Try.ntmps38
  go_wp2_with (go_at_call 52; refine (beq_c (E1 _ _) (E2 _ _) _ rfl).mono ?_; rintro e w' ⟨rfl, rfl⟩)
  all_goals
    first
    | (go_ret
       refine ⟨?_, hw _ _⟩
       subst_vars
       show Ending.returned (.bool (ds == ds')) = _
       simp [Bool.beq_eq_decide_eq])
    | (go_ret
       refine ⟨?_, hw _ _⟩
       show Ending.returned (.bool false) = _
       simp [*])
theorem crefsame_c {w : World} {B B' : Nat} {A A' : Option Addr} {m c m' c' : Nat} {ds ds' : List UInt8} (kind unit block many op who key new ty : Int) (st : Bool) (kind' unit' block' many' op' who' key' new' ty' : Int) (st' : Bool) (h : SlB w B A m c ds) (h' : SlB w B' A' m' c' ds') (hB : B ≤ w.heap.size) (hB' : B' ≤ w.heap.size) :
    Calls Try.prog 36 #[.agg #[.int .i64 kind, .int .i64 unit, .int .i64 block, .int .i64 many, .slice A m c, .int .i64 op, .int .i64 who, .int .i64 key, .int .i64 new, .int .i64 ty, .bool st], .agg #[.int .i64 kind', .int .i64 unit', .int .i64 block', .int .i64 many', .slice A' m' c', .int .i64 op', .int .i64 who', .int .i64 key', .int .i64 new', .int .i64 ty', .bool st']] w fun e w' => e = .returned (.bool (decide (kind = kind' ∧ unit = unit' ∧ block = block' ∧ many = many' ∧ (op = op' ∧ who = who' ∧ key = key' ∧ new = new' ∧ ty = ty' ∧ st = st') ∧ ds = ds'))) ∧ Below w.heap.size w w' := by
  have hw : ∀ o o', Below w.heap.size w ((w.alloc o).alloc o') := fun o o' => ((Below.refl _ _).alloc (Nat.le_refl _) _).alloc (by simp) _
  have E1 := fun o o' => h.below ((hw o o').mono hB)
  have E2 := fun o o' => h'.below ((hw o o').mono hB')
  clear h h'
  go_enter Try.func36, Try.ntmps36
  have S1 := fun o o' => (E1 o o').str
  have S2 := fun o o' => (E2 o o').str
  clear E1 E2
  go_wp2
  all_goals
    first
    | (go_ret
       refine ⟨?_, hw _ _⟩
       subst_vars
       show Ending.returned (.bool (ds == ds')) = _
       simp [Bool.beq_eq_decide_eq])
    | (go_ret
       refine ⟨?_, hw _ _⟩
       show Ending.returned (.bool false) = _
       simp [*])
end Go.Proofs.Ytjjpifppdjpcnaa
