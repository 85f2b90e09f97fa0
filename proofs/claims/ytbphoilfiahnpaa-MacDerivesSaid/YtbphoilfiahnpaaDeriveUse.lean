/-
  Both Derives, at any number of bytes.
-/
import Derived.Test.YtbphoilfiahnpaaRefDerive
import Derived.Test.YtbphoilfiahnpaaApart2
namespace Go.Proofs.Ytbphoilfiahnpaa
open Go.RowKit
set_option linter.unusedVariables false

/-- What is derived at any number: nothing outside 1..1024. -/
def derivedI (key lab : List UInt8) (m : Int) : List UInt8 := if m < 1 ∨ 1024 < m then [] else derived key lab m.toNat
theorem len_derivedI (key lab : List UInt8) (m : Int) : (derivedI key lab m).length ≤ 1024 := by
  unfold derivedI; split
  · simp
  · rw [len_derived _ _ _ (by omega)]; omega

theorem derive_any {w : World} {B : Nat} {A : Option Addr} {n c : Nat} {key : List UInt8} (hk : SlB w B A n c key) (hB : B ≤ w.heap.size) (hn : n ≤ 1099511627776) (s : ByteArray) (hs : s.size ≤ 1099511620000) (m : Int) :
    Calls Try.prog 47 #[.slice A n c, .string s, .int .i64 m] w fun e w' => ∃ A' n', e = .returned (.slice A' n' n') ∧ n' ≤ 1024 ∧ OwB w' w.heap.size A' n' n' (derivedI key s.data.toList m) ∧ Below w.heap.size w w' := by
  by_cases h : m < 1 ∨ 1024 < m
  · refine (derive_bad s m h).mono ?_
    rintro e w' ⟨rfl, hb⟩
    refine ⟨none, 0, rfl, by omega, ?_, hb⟩
    rw [derivedI, if_pos h]
    exact OwB.nil _ _ _
  · obtain ⟨k, rfl⟩ : ∃ k : Nat, m = (k : Int) := ⟨m.toNat, by omega⟩
    refine (derive_c hk hB hn s hs k (by omega) (by omega)).mono ?_
    rintro e w' ⟨A', rfl, ho, hb⟩
    refine ⟨A', k, rfl, by omega, ?_, hb⟩
    rw [derivedI, if_neg h]
    exact ho

theorem refderive_any {w : World} {B : Nat} {A : Option Addr} {n c : Nat} {key : List UInt8} (hk : SlB w B A n c key) (hB : B ≤ w.heap.size) (hn : n ≤ 1099511627776) (s : ByteArray) (hs : s.size ≤ 1099511620000) (m : Int) :
    Calls Try.prog 48 #[.slice A n c, .string s, .int .i64 m] w fun e w' => ∃ A' n' c', e = .returned (.slice A' n' c') ∧ n' ≤ 1024 ∧ OwB w' w.heap.size A' n' c' (derivedI key s.data.toList m) ∧ Below w.heap.size w w' := by
  by_cases h : m < 1 ∨ 1024 < m
  · refine (refderive_bad s m h).mono ?_
    rintro e w' ⟨rfl, rfl⟩
    refine ⟨none, 0, 0, rfl, by omega, ?_, Below.refl _ _⟩
    rw [derivedI, if_pos h]
    exact OwB.nil _ _ _
  · obtain ⟨k, rfl⟩ : ∃ k : Nat, m = (k : Int) := ⟨m.toNat, by omega⟩
    refine (refderive_c hk hB hn s hs k (by omega) (by omega)).mono ?_
    rintro e w' ⟨A', c', rfl, ho, hb⟩
    refine ⟨A', k, c', rfl, by omega, ?_, hb⟩
    rw [derivedI, if_neg h]
    exact ho
end Go.Proofs.Ytbphoilfiahnpaa
