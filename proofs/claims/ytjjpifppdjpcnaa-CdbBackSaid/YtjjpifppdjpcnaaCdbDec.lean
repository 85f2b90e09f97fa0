/-
  The plain law of commands' bytes: which bytes are a command's.
-/
import Derived.Test.YtjjpifppdjpcnaaCdbNext
import Derived.Test.YtjjpifppdjpcnaaNumLaw
namespace Go.Proofs.Ytjjpifppdjpcnaa
open Go.RowKit
set_option linter.unusedVariables false
set_option linter.unusedSimpArgs false
set_option maxRecDepth 100000

/-- The number that stands at a place. -/
def nm (bs : List UInt8) (a k : Nat) : Int := i64v (bigN ((bs.drop a).take k))
theorem nm_wf (bs : List UInt8) (a k : Nat) : (Lit.int .i64 (nm bs a k)).wf = true := i64v_wf _
theorem nm_bytes {bs : List UInt8} {a k : Nat} (h : a + k ≤ bs.length) (hk : k ≤ 8) : numB (nm bs a k) k k = (bs.drop a).take k := by
  have hl : ((bs.drop a).take k).length = k := by rw [List.length_take, List.length_drop]; omega
  have := back_bytes ((bs.drop a).take k) (by omega)
  rwa [hl] at this
theorem nm_one {bs : List UInt8} {a : Nat} (h : a + 1 ≤ bs.length) : 0 ≤ nm bs a 1 ∧ nm bs a 1 ≤ 255 := okPut_one.1 (back_ok (k := 1) (.inl rfl) _ (by rw [List.length_take, List.length_drop]; omega))
theorem nm_two {bs : List UInt8} {a : Nat} (h : a + 2 ≤ bs.length) : 0 ≤ nm bs a 2 ∧ nm bs a 2 ≤ 65535 := okPut_two.1 (back_ok (k := 2) (by simp [sz]) _ (by rw [List.length_take, List.length_drop]; omega))
theorem seg (bs : List UInt8) (a k b : Nat) (h : a + k = b) : (bs.drop a).take k ++ bs.drop b = bs.drop a := by
  subst h
  rw [← List.drop_drop, List.take_append_drop]
theorem split4 {bs : List UInt8} (h : 6 ≤ bs.length) : fbytes (fl4 (nm bs 0 1) (nm bs 1 1) (nm bs 2 2) (nm bs 4 2)) ++ bs.drop 6 = bs := by
  show (numB (nm bs 0 1) 1 1 ++ (numB (nm bs 1 1) 1 1 ++ (numB (nm bs 2 2) 2 2 ++ (numB (nm bs 4 2) 2 2 ++ [])))) ++ bs.drop 6 = bs
  rw [nm_bytes (by omega) (by omega), nm_bytes (by omega) (by omega), nm_bytes (by omega) (by omega), nm_bytes (by omega) (by omega), List.append_nil, List.append_assoc, List.append_assoc, List.append_assoc, seg bs 4 2 6 rfl, seg bs 2 2 4 rfl, seg bs 1 1 2 rfl, seg bs 0 1 1 rfl]
  rfl
theorem split9 {bs : List UInt8} (h : bs.length = 25) (st : Bool) : fbytes (fl4 (nm bs 0 1) (nm bs 1 1) (nm bs 2 2) (nm bs 4 2) ++ fl5 (nm bs 6 1) (nm bs 7 8) (nm bs 15 8) (nm bs 23 1) st) = bs.take 24 ++ numB (stI st) 1 1 := by
  have e4 := split4 (bs := bs) (by omega)
  have e6 : bs.drop 6 = (bs.drop 6).take 18 ++ bs.drop 24 := (seg bs 6 18 24 rfl).symm
  have e5 : numB (nm bs 6 1) 1 1 ++ (numB (nm bs 7 8) 8 8 ++ (numB (nm bs 15 8) 8 8 ++ numB (nm bs 23 1) 1 1)) = (bs.drop 6).take 18 := by
    have h1 : numB (nm bs 6 1) 1 1 ++ (numB (nm bs 7 8) 8 8 ++ (numB (nm bs 15 8) 8 8 ++ (numB (nm bs 23 1) 1 1 ++ bs.drop 24))) = bs.drop 6 := by
      rw [nm_bytes (by omega) (by omega), nm_bytes (by omega) (by omega), nm_bytes (by omega) (by omega), nm_bytes (by omega) (by omega), seg bs 23 1 24 rfl, seg bs 15 8 23 rfl, seg bs 7 8 15 rfl, seg bs 6 1 7 rfl]
    have h2 : (numB (nm bs 6 1) 1 1 ++ (numB (nm bs 7 8) 8 8 ++ (numB (nm bs 15 8) 8 8 ++ numB (nm bs 23 1) 1 1))).length = 18 := by simp [len_numB]
    rw [← h1]
    rw [show numB (nm bs 6 1) 1 1 ++ (numB (nm bs 7 8) 8 8 ++ (numB (nm bs 15 8) 8 8 ++ (numB (nm bs 23 1) 1 1 ++ bs.drop 24))) = (numB (nm bs 6 1) 1 1 ++ (numB (nm bs 7 8) 8 8 ++ (numB (nm bs 15 8) 8 8 ++ numB (nm bs 23 1) 1 1))) ++ bs.drop 24 by simp [List.append_assoc]]
    rw [List.take_left' h2]
  have e24 : bs.take 24 = fbytes (fl4 (nm bs 0 1) (nm bs 1 1) (nm bs 2 2) (nm bs 4 2)) ++ (bs.drop 6).take 18 := by
    have hl : (fbytes (fl4 (nm bs 0 1) (nm bs 1 1) (nm bs 2 2) (nm bs 4 2))).length = 6 := by rw [len_fbytes]; rfl
    conv => lhs; rw [← e4]
    rw [List.take_append, List.take_of_length_le (by omega), hl]
  rw [e24, ← e5]
  show (numB (nm bs 0 1) 1 1 ++ (numB (nm bs 1 1) 1 1 ++ (numB (nm bs 2 2) 2 2 ++ (numB (nm bs 4 2) 2 2 ++ (numB (nm bs 6 1) 1 1 ++ (numB (nm bs 7 8) 8 8 ++ (numB (nm bs 15 8) 8 8 ++ (numB (nm bs 23 1) 1 1 ++ (numB (stI st) 1 1 ++ []))))))))) = (numB (nm bs 0 1) 1 1 ++ (numB (nm bs 1 1) 1 1 ++ (numB (nm bs 2 2) 2 2 ++ (numB (nm bs 4 2) 2 2 ++ [])))) ++ (numB (nm bs 6 1) 1 1 ++ (numB (nm bs 7 8) 8 8 ++ (numB (nm bs 15 8) 8 8 ++ numB (nm bs 23 1) 1 1))) ++ numB (stI st) 1 1
  simp [List.append_assoc]
/-- The last byte says whether it stays. -/
theorem last9 {bs : List UInt8} (h : bs.length = 25) (st : Bool) : bs.take 24 ++ numB (stI st) 1 1 = bs ↔ nm bs 24 1 = stI st := by
  have hb := nm_bytes (bs := bs) (a := 24) (k := 1) (by omega) (by omega)
  have hd : (bs.drop 24).take 1 = bs.drop 24 := List.take_of_length_le (by rw [List.length_drop]; omega)
  have hw : (Lit.int .i64 (stI st)).wf = true := by cases st <;> rfl
  constructor
  · intro e
    have e2 : numB (stI st) 1 1 = bs.drop 24 := by
      have h1 : bs.take 24 ++ bs.drop 24 = bs := List.take_append_drop _ _
      rw [← h1] at e
      have hl : (bs.take 24).length = 24 := by rw [List.length_take]; omega
      have := List.append_cancel_left (show bs.take 24 ++ numB (stI st) 1 1 = bs.take 24 ++ bs.drop 24 by
        conv => rhs; rw [List.take_append_drop]
        rw [List.take_append_drop] at e
        exact e)
      exact this
    rw [nm, hd, ← e2]
    exact back_num (stI_put st) hw
  · intro e
    rw [← e, hb, hd, List.take_append_drop]
end Go.Proofs.Ytjjpifppdjpcnaa
