/-
  The reference's reckoning of the constants, as plain functions on lists of digits: exactly the loops, quick for the kernel. No function of the program is named here.
-/
import Derived.Test.YtbphoilfiahnpaaByt
namespace Go.Proofs.Ytbphoilfiahnpaa
open Go.RowKit
set_option linter.unusedVariables false

noncomputable def gt (l : List Nat) : Nat → Nat := List.rec (motive := fun _ => Nat → Nat) (fun _ => 0) (fun x _ ih n => Nat.rec x (fun m _ => ih m) n) l
noncomputable def st (l : List Nat) : Nat → Nat → List Nat := List.rec (motive := fun _ => Nat → Nat → List Nat) (fun _ _ => []) (fun x t ih n v => Nat.rec (v :: t) (fun m _ => x :: ih m v) n) l
theorem gt_eq (l : List Nat) (n : Nat) : gt l n = l[n]?.getD 0 := by
  induction l generalizing n with
  | nil => rfl
  | cons x t ih =>
    cases n with
    | zero => rfl
    | succ n => exact ih n
theorem st_eq (l : List Nat) (n v : Nat) : st l n v = l.set n v := by
  induction l generalizing n with
  | nil => rfl
  | cons x t ih =>
    cases n with
    | zero => rfl
    | succ n => exact congrArg (x :: ·) (ih n)
/-- The rest of row i of a product, from place k, n places left. -/
noncomputable def mulGo (ai : Nat) (b : List Nat) (i : Nat) (out : List Nat) (carry : Nat) (k n : Nat) : List Nat :=
  Nat.rec (motive := fun _ => Nat → List Nat → Nat → List Nat) (fun k out carry => st out (i + k) (Nat.mod (Nat.add (gt out (i + k)) carry) 18446744073709551616))
    (fun _ ih k out carry =>
      Nat.rec (ih (k + 1) (st out (i + k) 0) 0) (fun n _ => ih (k + 1) (st out (i + k) (Nat.mod (n + 1) 65536)) (Nat.div (n + 1) 65536))
        (Nat.mod (Nat.add (Nat.add (gt out (i + k)) (Nat.mul ai (gt b k))) carry) 18446744073709551616)) n k out carry
theorem mulGo_zero (ai : Nat) (b : List Nat) (i : Nat) (out : List Nat) (carry k : Nat) : mulGo ai b i out carry k 0 = out.set (i + k) ((out[i + k]?.getD 0 + carry) % 18446744073709551616) := by
  rw [← st_eq, ← gt_eq]; rfl
theorem mulGo_succ (ai : Nat) (b : List Nat) (i : Nat) (out : List Nat) (carry k n v : Nat) (hv : v = (out[i + k]?.getD 0 + ai * b[k]?.getD 0 + carry) % 18446744073709551616) :
    mulGo ai b i out carry k (n + 1) = mulGo ai b i (out.set (i + k) (v % 65536)) (v / 65536) (k + 1) n := by
  have e : mulGo ai b i out carry k (n + 1) = Nat.rec (motive := fun _ => List Nat) (mulGo ai b i (st out (i + k) 0) 0 (k + 1) n) (fun m _ => mulGo ai b i (st out (i + k) (Nat.mod (m + 1) 65536)) (Nat.div (m + 1) 65536) (k + 1) n) ((gt out (i + k) + ai * gt b k + carry) % 18446744073709551616) := rfl
  rw [e, gt_eq, gt_eq, ← hv, ← st_eq]
  cases v with
  | zero => rfl
  | succ v => rfl
/-- The rest of a product, from row i, n rows left. -/
noncomputable def timesGo (a b : List Nat) (m : Nat) (i n : Nat) (out : List Nat) : List Nat :=
  Nat.rec (motive := fun _ => Nat → List Nat → List Nat) (fun _ out => out) (fun _ ih i out => ih (i + 1) (mulGo (gt a i) b i out 0 0 m)) n i out
theorem timesGo_succ (a b : List Nat) (m i n : Nat) (out : List Nat) : timesGo a b m i (n + 1) out = timesGo a b m (i + 1) n (mulGo (a[i]?.getD 0) b i out 0 0 m) := by
  rw [← gt_eq]; rfl
noncomputable def timesL (a b : List Nat) : List Nat := timesGo a b b.length 0 a.length (List.replicate (a.length + b.length + 1) 0)
theorem len_mulGo (ai : Nat) (b : List Nat) (i : Nat) (out : List Nat) (carry k n : Nat) : (mulGo ai b i out carry k n).length = out.length := by
  induction n generalizing out carry k with
  | zero => rw [mulGo_zero, List.length_set]
  | succ n ih => rw [mulGo_succ _ _ _ _ _ _ _ _ rfl, ih, List.length_set]
theorem len_timesGo (a b : List Nat) (m i n : Nat) (out : List Nat) : (timesGo a b m i n out).length = out.length := by
  induction n generalizing i out with
  | zero => rfl
  | succ n ih => rw [timesGo_succ, ih, len_mulGo]
theorem len_timesL (a b : List Nat) : (timesL a b).length = a.length + b.length + 1 := by rw [timesL, len_timesGo, List.length_replicate]
/-- The first n digits of a number are at most another's. -/
noncomputable def mostL (a b : List Nat) (n : Nat) : Bool :=
  Nat.rec true (fun i ih => cond (Nat.beq (gt a i) (gt b i)) ih (Nat.ble (gt a i + 1) (gt b i))) n
theorem mostL_succ (a b : List Nat) (n : Nat) : mostL a b (n + 1) = if a[n]?.getD 0 = b[n]?.getD 0 then mostL a b n else decide (a[n]?.getD 0 < b[n]?.getD 0) := by
  have e : mostL a b (n + 1) = cond (Nat.beq (gt a n) (gt b n)) (mostL a b n) (Nat.ble (gt a n + 1) (gt b n)) := rfl
  rw [e, gt_eq, gt_eq]
  by_cases h : a[n]?.getD 0 = b[n]?.getD 0
  · rw [if_pos h, h]; simp
  · rw [if_neg h]
    have : Nat.beq (a[n]?.getD 0) (b[n]?.getD 0) = false := by rw [← Bool.not_eq_true, Nat.beq_eq]; exact h
    rw [this]
    exact Bool.eq_iff_iff.2 (by simp [Nat.ble_eq, Nat.lt_iff_add_one_le])
def listL (n : Nat) : List Nat := [Nat.mod n 65536, Nat.mod (Nat.div n 65536) 65536, Nat.mod (Nat.div n 4294967296) 65536]
/-- Is a number's power at most the target? -/
noncomputable def fits (target : List Nat) (power y : Nat) : Bool :=
  mostL (cond (Nat.beq power 3) (timesL (timesL (listL y) (listL y)) (listL y)) (timesL (listL y) (listL y))) target (cond (Nat.beq power 3) 19 13)
noncomputable def rootGo (target : List Nat) (power : Nat) (n x : Nat) : Nat :=
  Nat.rec (motive := fun _ => Nat → Nat) (fun x => x) (fun b ih x => Nat.rec (ih 0) (fun x _ => ih (x + 1)) (cond (fits target power (x + 2 ^ b)) (x + 2 ^ b) x)) n x
theorem rootGo_succ (target : List Nat) (power n x : Nat) : rootGo target power (n + 1) x = rootGo target power n (if fits target power (x + 2 ^ n) then x + 2 ^ n else x) := by
  have e : rootGo target power (n + 1) x = Nat.rec (motive := fun _ => Nat) (rootGo target power n 0) (fun x _ => rootGo target power n (x + 1)) (cond (fits target power (x + 2 ^ n)) (x + 2 ^ n) x) := rfl
  rw [e]
  cases fits target power (x + 2 ^ n) with
  | true =>
    simp only [cond_true, if_true]
    cases x + 2 ^ n <;> rfl
  | false =>
    simp only [cond_false, Bool.false_eq_true, if_false]
    cases x <;> rfl
noncomputable def rootL (p power : Nat) : Nat := rootGo (List.replicate (2 * power) 0 ++ [p]) power 37 0
end Go.Proofs.Ytbphoilfiahnpaa
