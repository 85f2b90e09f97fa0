/-
  Rows as bytes (lines of XRowb alone): which row bytes begin with, words.first.
-/
import Derived.Deep.RegionWith
import Derived.Test.YtkiiobfomnggcaaBase
namespace Go.Proofs.Ytkiiobfomnggcaa
open Go.RowKit
set_option linter.unusedVariables false
set_option maxRecDepth 100000

theorem ret_int {k : IntKind} {a b : Int} (h : a = b) : Ending.returned (.int k a) = .returned (.int k b) := by rw [h]
/-- How long the row is that bytes begin with. -/
def rowLen (bs : List UInt8) : Option Nat :=
  match bs with
  | a :: b :: rest => if a.toNat * 256 + b.toNat ≤ rest.length then some (a.toNat * 256 + b.toNat) else none
  | _ => none
def rowsF : Nat → List UInt8 → List (List UInt8)
  | 0, _ => []
  | f + 1, bs => match rowLen bs with
    | none => []
    | some n => (bs.drop 2).take n :: rowsF f (bs.drop (2 + n))
/-- The rows that bytes begin with. -/
def rowsOf (bs : List UInt8) : List (List UInt8) := rowsF bs.length bs

theorem rowLen_some {bs : List UInt8} {n : Nat} (h : rowLen bs = some n) : 2 + n ≤ bs.length ∧ ∃ a b, bs[0]? = some a ∧ bs[1]? = some b ∧ n = a.toNat * 256 + b.toNat := by
  match bs, h with
  | a :: b :: rest, h =>
    simp only [rowLen] at h
    split at h
    · simp only [Option.some.injEq] at h
      subst h
      exact ⟨by simp; omega, a, b, rfl, rfl, rfl⟩
    · cases h
theorem rowLen_none {bs : List UInt8} (h : rowLen bs = none) (h2 : 2 ≤ bs.length) : ∃ a b, bs[0]? = some a ∧ bs[1]? = some b ∧ bs.length < 2 + (a.toNat * 256 + b.toNat) := by
  match bs, h2 with
  | a :: b :: rest, _ =>
    simp only [rowLen] at h
    split at h
    · cases h
    · exact ⟨a, b, rfl, rfl, by simp; omega⟩
theorem rowsF_fuel : ∀ (f g : Nat) (bs : List UInt8), bs.length ≤ f → bs.length ≤ g → rowsF f bs = rowsF g bs
  | 0, 0, _, _, _ => rfl
  | 0, g + 1, bs, hf, _ => by
    obtain rfl : bs = [] := List.eq_nil_of_length_eq_zero (by omega)
    rfl
  | f + 1, 0, bs, _, hg => by
    obtain rfl : bs = [] := List.eq_nil_of_length_eq_zero (by omega)
    rfl
  | f + 1, g + 1, bs, hf, hg => by
    rw [rowsF, rowsF]
    cases h : rowLen bs with
    | none => rfl
    | some n =>
      have := (rowLen_some h).1
      simp only
      rw [rowsF_fuel f g (bs.drop (2 + n)) (by simp; omega) (by simp; omega)]
theorem rowsOf_none {bs : List UInt8} (h : rowLen bs = none) : rowsOf bs = [] := by
  unfold rowsOf
  cases bs.length with
  | zero => rfl
  | succ f => rw [rowsF, h]
theorem rowsOf_some {bs : List UInt8} {n : Nat} (h : rowLen bs = some n) : rowsOf bs = (bs.drop 2).take n :: rowsOf (bs.drop (2 + n)) := by
  have h2 := (rowLen_some h).1
  unfold rowsOf
  obtain ⟨f, hf⟩ : ∃ f, bs.length = f + 1 := ⟨bs.length - 1, by omega⟩
  rw [hf, rowsF, h]
  simp only
  rw [rowsF_fuel f (bs.drop (2 + n)).length _ (by simp; omega) (Nat.le_refl _)]

/-- 0, or the row's length and the two bytes ahead. -/
def firstN (bs : List UInt8) : Nat := match rowLen bs with | none => 0 | some n => 2 + n

theorem first_c {w : World} {B : Nat} {A : Option Addr} {n c : Nat} {bs : List UInt8} (ha : SlB w B A n c bs) :
    Calls Try.prog 31 #[.slice A n c] w fun e w' => e = .returned (.int .i64 (firstN bs)) ∧ ∃ d, w' = w.drewN d := by
  have hl := ha.len
  have hnc := ha.le
  have hcm : c ≤ 9223372036854775807 := ha.cap
  by_cases h2 : n < 2
  · have hf : firstN bs = 0 := by
      cases h : rowLen bs with
      | none => simp [firstN, h]
      | some m => have := (rowLen_some h).1; omega
    have HF := Lib.hid hf
    clear hf ha hl
    go_enter Try.func31, Try.ntmps31
    go_wp2_with fail
    go_ret
    exact ⟨by rw [HF.out]; rfl, 0, rfl⟩
  · obtain ⟨b, off, rfl, _, hj⟩ := ha.at_ (by omega)
    obtain ⟨x, hx⟩ : ∃ x, bs[0]? = some x := ⟨bs[0]'(by omega), List.getElem?_eq_getElem _⟩
    obtain ⟨y, hy⟩ : ∃ y, bs[1]? = some y := ⟨bs[1]'(by omega), List.getElem?_eq_getElem _⟩
    have hc0 : w.cell? ⟨b, off, none⟩ = some (.int .u8 (x.toNat : Int)) := hj 0 x hx
    have hc1 : w.cell? ⟨b, off + 1, none⟩ = some (.int .u8 (y.toNat : Int)) := hj 1 y hy
    have hf : firstN bs = if 2 + (x.toNat * 256 + y.toNat) ≤ n then 2 + (x.toNat * 256 + y.toNat) else 0 := by
      cases h : rowLen bs with
      | none =>
        obtain ⟨a, b', ea, eb, hlt⟩ := rowLen_none h (by omega)
        rw [hx] at ea; rw [hy] at eb
        obtain rfl := Option.some.inj ea
        obtain rfl := Option.some.inj eb
        rw [if_neg (by omega)]
        simp [firstN, h]
      | some m =>
        obtain ⟨hle, a, b', ea, eb, hm⟩ := rowLen_some h
        rw [hx] at ea; rw [hy] at eb
        obtain rfl := Option.some.inj ea
        obtain rfl := Option.some.inj eb
        subst hm
        rw [if_pos (by omega)]
        simp [firstN, h]
    have HF := Lib.hid hf
    have hx1 : (x.toNat : Int) < 256 := by have := UInt8.toNat_lt x; omega
    have hy1 : (y.toNat : Int) < 256 := by have := UInt8.toNat_lt y; omega
    have hx0 : (0 : Int) ≤ (x.toNat : Int) := by omega
    have hy0 : (0 : Int) ≤ (y.toNat : Int) := by omega
    have h2' : 2 ≤ n := by omega
    clear hf ha hl hj hx hy h2
    by_cases hfit : 2 + (x.toNat * 256 + y.toNat) ≤ n
    · have hfi : 2 + (x.toNat : Int) * 256 + (y.toNat : Int) ≤ (n : Int) := by omega
      rw [if_pos hfit] at HF
      clear hfit
      go_enter Try.func31, Try.ntmps31
      go_wp2_with fail
      go_quiet (fail)
      go_wp2_with fail
      go_ret
      exact ⟨ret_int (by rw [HF.out]; omega), _, rfl⟩
    · have hfi : (n : Int) < 2 + (x.toNat : Int) * 256 + (y.toNat : Int) := by omega
      rw [if_neg hfit] at HF
      clear hfit
      go_enter Try.func31, Try.ntmps31
      go_wp2_with fail
      go_quiet (fail)
      go_wp2_with fail
      go_ret
      exact ⟨ret_int (by rw [HF.out]; rfl), _, rfl⟩
end Go.Proofs.Ytkiiobfomnggcaa
