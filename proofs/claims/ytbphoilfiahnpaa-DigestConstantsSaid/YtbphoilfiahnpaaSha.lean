/-
  The digest in plain words: schedules, and the laws on lists of words that the walks use. No function of the program is named here.
-/
import Derived.Test.YtbphoilfiahnpaaOct
namespace Go.Proofs.Ytbphoilfiahnpaa
open Go.RowKit
set_option linter.unusedVariables false

/-- A shift right. -/
def shR (x : UInt32) (n : Nat) : UInt32 := UInt32.ofNat (x.toNat / 2 ^ n)
def sig0 (x : UInt32) : UInt32 := rotR x 7 ^^^ rotR x 18 ^^^ shR x 3
def sig1 (x : UInt32) : UInt32 := rotR x 17 ^^^ rotR x 19 ^^^ shR x 10
/-- Word number k of a piece. -/
def wordAt (p : List UInt8) (k : Nat) : UInt32 := UInt32.ofNat (bigN ((p.drop (4 * k)).take 4))
/-- The next word of a schedule. -/
def nextW (p : List UInt8) (w : List UInt32) (k : Nat) : UInt32 :=
  if k < 16 then wordAt p k else w[k - 16]?.getD 0 + w[k - 7]?.getD 0 + sig0 (w[k - 15]?.getD 0) + sig1 (w[k - 2]?.getD 0)
/-- The first k words of a schedule. -/
def schedTo (p : List UInt8) : Nat → List UInt32
  | 0 => []
  | k + 1 => schedTo p k ++ [nextW p (schedTo p k) k]
theorem len_schedTo (p : List UInt8) (k : Nat) : (schedTo p k).length = k := by
  induction k with
  | zero => rfl
  | succ k ih => simp [schedTo, ih]
def sched (p : List UInt8) : List UInt32 := schedTo p 64
theorem len_sched (p : List UInt8) : (sched p).length = 64 := len_schedTo p 64

def z32 (n : Nat) : List UInt32 := List.replicate n 0
theorem len_z32 (n : Nat) : (z32 n).length = n := by simp [z32]
theorem b32_def (x : UInt32) : b32 x = .int .u32 (x.toNat : Int) := rfl
/-- The first k of n words stand, the others are noughts: the next one is stored. -/
theorem arr32_next (ws : List UInt32) (n k : Nat) (hl : ws.length = k) (hk : k < n) (x : UInt32) :
    (arr32 (ws ++ z32 (n - k))).setIfInBounds k (.int .u32 (x.toNat : Int)) = arr32 ((ws ++ [x]) ++ z32 (n - (k + 1))) := by
  subst hl
  rw [arr32, arr32, ← b32_def, List.setIfInBounds_toArray, ← List.map_set]
  congr 2
  rw [List.set_append_right _ _ (by omega), Nat.sub_self, show n - ws.length = (n - (ws.length + 1)) + 1 from by omega, z32, List.replicate_succ, List.set_cons_zero]
  simp [z32]
theorem arr32_at (ws : List UInt32) (j : Nat) (h : j < ws.length) (rest : List UInt32) : (arr32 (ws ++ rest))[j]? = some (.int .u32 ((ws[j]?.getD 0).toNat : Int)) := by
  rw [arr32_get, List.getElem?_append_left h, List.getElem?_eq_getElem h]
  rfl
theorem word_lt (bs : List UInt8) (h : bs.length ≤ 4) : bigN bs < 4294967296 := by
  match bs, h with
  | [], _ => decide
  | [a], _ => have := UInt8.toNat_lt a; simp [bigN]; omega
  | [a, b], _ => have := UInt8.toNat_lt a; have := UInt8.toNat_lt b; simp [bigN]; omega
  | [a, b, c], _ => have := UInt8.toNat_lt a; have := UInt8.toNat_lt b; have := UInt8.toNat_lt c; simp [bigN]; omega
  | [a, b, c, d], _ => have := UInt8.toNat_lt a; have := UInt8.toNat_lt b; have := UInt8.toNat_lt c; have := UInt8.toNat_lt d; simp [bigN]; omega
  | _ :: _ :: _ :: _ :: _ :: _, h => simp at h
theorem word_conv (bs : List UInt8) (h : bs.length ≤ 4) : IntKind.u32.wrap (u64v (bigN bs)) = ((UInt32.ofNat (bigN bs)).toNat : Int) := by
  have := word_lt bs h
  rw [IntKind.wrap_u32', u64v, wrap_u64, UInt32.toNat_ofNat']
  omega
theorem shr32' (x : UInt32) (n : Nat) : ((x.toNat : Int)) / (2 : Int) ^ n = ((shR x n).toNat : Int) := shr32 x n
end Go.Proofs.Ytbphoilfiahnpaa
