/-
  The plain law of TreeBinds: up a path, a leaf that is another one stays another one, or unlike children have one tag.
-/
import Derived.Test.YtdifepfplfkfoaaTreeLaw
namespace Go.Proofs.Ytdifepfplfkfoaa
open Go.RowKit
set_option linter.unusedVariables false
set_option linter.unusedSimpArgs false
set_option maxRecDepth 100000

/-- What stands ahead of round x of the walk up the path. -/
def BindAt (key T U O : List UInt8) (k x : Nat) (was now : List UInt8) : Prop :=
  x ≤ 5 ∧ was.length = 32 ∧ now.length = 32 ∧ was ≠ now ∧ (x = 0 → was = elt T (16 + k) ∧ now = O) ∧
    (∀ y, x = y + 1 → was = elt T (pathAt (k : Int) y) ∧ now = elt (cl key U O (k : Int) x) (pathAt (k : Int) y))

/-- Two children, one of them set. -/
def pairOf (xs : List UInt8) (i s : Nat) (v : List UInt8) : List UInt8 := putS (elt xs (2 * i) ++ elt xs (2 * i + 1)) s v

theorem elt_app0 {a b : List UInt8} (ha : a.length = 32) : elt (a ++ b) 0 = a := by
  rw [elt, Nat.mul_zero, List.drop_zero, ← ha, List.take_left']
  rfl
theorem elt_app1 {a b : List UInt8} (ha : a.length = 32) (hb : b.length = 32) : elt (a ++ b) 1 = b := by
  rw [elt, Nat.mul_one, ← ha, List.drop_left' rfl, List.take_of_length_le (by omega)]

theorem len_pair {xs v : List UInt8} {i s : Nat} (hx : xs.length = 32 * 32) (hi : i < 16) (hs : s < 2) (hv : v.length = 32) : (pairOf xs i s v).length = 2 * 32 := by
  have h0 := len_elt hx (i := 2 * i) (by omega)
  have h1 := len_elt hx (i := 2 * i + 1) (by omega)
  exact len_putS (by rw [List.length_append, h0, h1]) hs hv
theorem elt_pair {xs v : List UInt8} {i s : Nat} (hx : xs.length = 32 * 32) (hi : i < 16) (hs : s < 2) (hv : v.length = 32) (j : Nat) (hj : j < 2) :
    elt (pairOf xs i s v) j = if j = s then v else elt xs (2 * i + j) := by
  have h0 := len_elt hx (i := 2 * i) (by omega)
  have h1 := len_elt hx (i := 2 * i + 1) (by omega)
  rw [pairOf, elt_putS (n := 2) (by rw [List.length_append, h0, h1]) hs hv]
  split
  · rfl
  · rcases (show j = 0 ∨ j = 1 by omega) with rfl | rfl
    · rw [elt_app0 h0]; rfl
    · rw [elt_app1 h0 h1]

theorem cl_other {key U O : List UInt8} {k : Nat} (hU : U.length = 32 * 32) (hO : O.length = 32) (hk : k < 16) : ∀ x j, (∀ y, y < x → j ≠ pathAt (k : Int) y) → elt (cl key U O (k : Int) x) j = elt U j := by
  intro x
  induction x with
  | zero => intro j _; rfl
  | succ x ih =>
    intro j hj
    have hb : (0 : Int) ≤ (k : Int) ∧ (k : Int) < 16 := ⟨by omega, by omega⟩
    rw [cl, elt_putS (len_cl hU hO hb x) (by have := pathAt_le hb x; omega) (by split; exact hO; exact len_joinOf _ _ _ _), if_neg (hj x (by omega))]
    exact ih j (fun y hy => hj y (by omega))
theorem cl_here {key U O : List UInt8} {k : Nat} (hU : U.length = 32 * 32) (hO : O.length = 32) (hk : k < 16) (x : Nat) :
    elt (cl key U O (k : Int) (x + 1)) (pathAt (k : Int) x) = if x = 0 then O else joinOf key (pathAt (k : Int) x : Int) (elt (cl key U O (k : Int) x) (2 * pathAt (k : Int) x)) (elt (cl key U O (k : Int) x) (2 * pathAt (k : Int) x + 1)) := by
  have hb : (0 : Int) ≤ (k : Int) ∧ (k : Int) < 16 := ⟨by omega, by omega⟩
  rw [cl, elt_putS (len_cl hU hO hb x) (by have := pathAt_le hb x; omega) (by split; exact hO; exact len_joinOf _ _ _ _), if_pos rfl]

theorem bind_zero {key T U O was now : List UInt8} {k : Nat} (hU : U.length = 32 * 32) (hO : O.length = 32) (hk : k < 16) (h : BindAt key T U O k 0 was now) : BindAt key T U O k 1 was now := by
  obtain ⟨_, h1, h2, h3, h4, _⟩ := h
  obtain ⟨rfl, rfl⟩ := h4 rfl
  refine ⟨by omega, h1, h2, h3, fun e => by omega, fun y hy => ?_⟩
  obtain rfl : y = 0 := by omega
  refine ⟨by rw [pathAt_zero]; rfl, ?_⟩
  rw [cl_here hU hO hk 0, if_pos rfl]

theorem path_le_of {k : Nat} (hk : k < 16) : ∀ y d, pathAt (k : Int) (y + d) * 2 ^ d ≤ pathAt (k : Int) y := by
  intro y d
  rw [pathAt, pathAt, Nat.pow_add, ← Nat.div_div_eq_div_mul]
  exact Nat.div_mul_le_self _ _

theorem bind_step {key T U O was now : List UInt8} {k x i : Nat} (hT : IsTree key T) (hU : U.length = 32 * 32) (hO : O.length = 32) (hk : k < 16) (h : BindAt key T U O k (x + 1) was now) (hx : x + 1 < 5)
    (hi : i = pathAt (k : Int) (x + 1)) (s : Nat) (hs : s = pathAt (k : Int) x % 2) :
    pairOf T i s was ≠ pairOf U i s now ∧
    (joinOf key (i : Int) (elt (pairOf T i s was) 0) (elt (pairOf T i s was) 1) ≠ joinOf key (i : Int) (elt (pairOf U i s now) 0) (elt (pairOf U i s now) 1) →
      BindAt key T U O k (x + 2) (joinOf key (i : Int) (elt (pairOf T i s was) 0) (elt (pairOf T i s was) 1)) (joinOf key (i : Int) (elt (pairOf U i s now) 0) (elt (pairOf U i s now) 1))) := by
  obtain ⟨_, h1, h2, h3, _, h5⟩ := h
  obtain ⟨hw, hn⟩ := h5 x rfl
  have hb : (0 : Int) ≤ (k : Int) ∧ (k : Int) < 16 := ⟨by omega, by omega⟩
  have hp := pathAt_succ (k : Int) x
  have hle := pathAt_le hb x
  have hpos := pathAt_pos hb (j := x + 1) hx
  have hi16 : i < 16 := by omega
  have hs2 : s < 2 := by omega
  have hsum : 2 * i + s = pathAt (k : Int) x := by omega
  have a0 := elt_pair hT.1 hi16 hs2 h1 0 (by omega)
  have a1 := elt_pair hT.1 hi16 hs2 h1 1 (by omega)
  have b0 := elt_pair hU hi16 hs2 h2 0 (by omega)
  have b1 := elt_pair hU hi16 hs2 h2 1 (by omega)
  have hoth : ∀ j, j < 2 → j ≠ s → elt (cl key U O (k : Int) (x + 1)) (2 * i + j) = elt U (2 * i + j) := fun j hj hne => by
    refine cl_other hU hO hk _ _ fun y hy e => ?_
    rcases (show y = x ∨ y < x by omega) with rfl | hlt
    · omega
    · obtain ⟨d, rfl⟩ : ∃ d, x = y + (d + 1) := ⟨x - y - 1, by omega⟩
      have := path_le_of hk y (d + 1)
      have h2d : 2 ≤ 2 ^ (d + 1) := by rw [Nat.pow_succ]; have := Nat.two_pow_pos d; omega
      have := Nat.mul_le_mul_left (pathAt (k : Int) (y + (d + 1))) h2d
      omega
  refine ⟨fun e => ?_, fun hne => ?_⟩
  · have es := elt_pair hT.1 hi16 hs2 h1 s hs2
    have et := elt_pair hU hi16 hs2 h2 s hs2
    rw [if_pos rfl] at es et
    rw [e, et] at es
    exact h3 es.symm
  · have ha : ∀ j, j < 2 → elt (pairOf T i s was) j = elt T (2 * i + j) := fun j hj => by
      rw [elt_pair hT.1 hi16 hs2 h1 j hj]
      split
      · rename_i e; rw [e, hsum, hw]
      · rfl
    have hbb : ∀ j, j < 2 → elt (pairOf U i s now) j = elt (cl key U O (k : Int) (x + 1)) (2 * i + j) := fun j hj => by
      rw [elt_pair hU hi16 hs2 h2 j hj]
      split
      · rename_i e; rw [hn, e, hsum]
      · rename_i e; rw [hoth j hj e]
    refine ⟨by omega, len_joinOf _ _ _ _, len_joinOf _ _ _ _, hne, fun e => by omega, fun y hy => ?_⟩
    obtain rfl : y = x + 1 := by omega
    rw [← hi]
    refine ⟨?_, ?_⟩
    · rw [ha 0 (by omega), ha 1 (by omega), Nat.add_zero]
      exact (hT.2 i (by omega) hi16).symm
    · have hc := cl_here (key := key) hU hO hk (x + 1)
      rw [if_neg (by omega), ← hi] at hc
      rw [hc, hbb 0 (by omega), hbb 1 (by omega)]
      rfl

theorem bind_end {key T U O was now : List UInt8} {k : Nat} (hk : k < 16) (h : BindAt key T U O k 5 was now) (hr : elt (climbT key U (k : Int) O) 1 = elt T 1) : False := by
  obtain ⟨_, _, _, h3, _, h5⟩ := h
  obtain ⟨hw, hn⟩ := h5 4 rfl
  have h4 : pathAt (k : Int) 4 = 1 := by rw [pathAt]; omega
  rw [h4] at hw hn
  rw [climbT] at hr
  exact h3 (by rw [hw, hn, hr])
end Go.Proofs.Ytdifepfplfkfoaa
