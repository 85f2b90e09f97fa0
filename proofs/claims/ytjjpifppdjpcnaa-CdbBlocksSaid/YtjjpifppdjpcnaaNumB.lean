/-
  Numbers as bytes, the highest first: plain lemmas.
-/
import Derived.Test.YtjjpifppdjpcnaaBase
namespace Go.Proofs.Ytjjpifppdjpcnaa
open Go.RowKit
set_option linter.unusedVariables false
set_option maxRecDepth 100000

def sz (s : Int) : Prop := s = 1 ∨ s = 2 ∨ s = 4 ∨ s = 8
/-- Byte number i of a whole number, the lowest first. -/
def byteAt (n : Int) (i : Nat) : UInt8 := UInt8.ofNat (n / (2 : Int) ^ (8 * i) % 256).toNat
/-- The first j of a number's k bytes, the highest first. -/
def numB (n : Int) (k j : Nat) : List UInt8 := (List.range j).map fun t => byteAt n (k - 1 - t)
theorem len_numB (n : Int) (k j : Nat) : (numB n k j).length = j := by simp [numB]
theorem numB_succ (n : Int) (k j : Nat) : numB n k (j + 1) = numB n k j ++ [byteAt n (k - 1 - j)] := by simp [numB, List.range_succ]
theorem byteAt_wrap (n : Int) (i : Nat) : IntKind.u8.wrap (n / (2 : Int) ^ (8 * i)) = ((byteAt n i).toNat : Int) := by
  rw [IntKind.wrap_u8', byteAt, UInt8.toNat_ofNat']
  omega

/-- There is such a size, and the number is in its range. -/
def okPut (s x : Int) : Prop := sz s ∧ (s = 8 ∨ (0 ≤ x ∧ x < (2 : Int) ^ (8 * s.toNat)))
def putErr (s : Int) : Int := if s = 1 ∨ s = 2 ∨ s = 4 ∨ s = 8 then 1 else 2
theorem putErr_ne (s : Int) : (putErr s == 0) = false := by unfold putErr; split <;> rfl
end Go.Proofs.Ytjjpifppdjpcnaa
