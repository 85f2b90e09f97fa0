/-
  The constants are what is reckoned: by the kernel.
-/
import Derived.Test.YtbphoilfiahnpaaRoot
import Derived.Test.YtbphoilfiahnpaaShaK
namespace Go.Proofs.Ytbphoilfiahnpaa
set_option linter.unusedVariables false

noncomputable def good (p : Nat) (out : List Nat) : Bool := List.rec (motive := fun _ => Bool) true (fun q _ ih => cond (Nat.beq (Nat.mod p q) 0) false ih) out
noncomputable def prStep (p : Nat) (out : List Nat) : List Nat := cond (good p out) (out ++ [p]) out
noncomputable def primesGo (n : Nat) : Nat → List Nat → List Nat := Nat.rec (motive := fun _ => Nat → List Nat → List Nat) (fun _ out => out) (fun _ ih p out => ih (p + 1) (prStep p out)) n
def P64 : List Nat := [2, 3, 5, 7, 11, 13, 17, 19, 23, 29, 31, 37, 41, 43, 47, 53, 59, 61, 67, 71, 73, 79, 83, 89, 97, 101, 103, 107, 109, 113, 127, 131, 137, 139, 149, 151, 157, 163, 167, 173, 179, 181, 191, 193, 197, 199, 211, 223, 227, 229, 233, 239, 241, 251, 257, 263, 269, 271, 277, 281, 283, 293, 307, 311]
def P8 : List Nat := [2, 3, 5, 7, 11, 13, 17, 19]
theorem primes64 : primesGo 310 2 [] = P64 := by decide +kernel
theorem primes8 : primesGo 18 2 [] = P8 := by decide +kernel
theorem roots64 : (P64.map fun p => rootL p 3 % 4294967296) = K64.map (·.toNat) := by decide +kernel
theorem roots8 : (P8.map fun p => rootL p 2 % 4294967296) = H8.map (·.toNat) := by decide +kernel
theorem small64 : ∀ p ∈ P64, p < 18446744073709551616 := by decide +kernel
theorem small8 : ∀ p ∈ P8, p < 18446744073709551616 := by decide +kernel
end Go.Proofs.Ytbphoilfiahnpaa
