/-
  What a piece's words hang on.
-/
import Derived.Test.YtbphoilfiahnpaaSha
namespace Go.Proofs.Ytbphoilfiahnpaa
open Go.RowKit
set_option linter.unusedVariables false
set_option linter.unusedSimpArgs false

theorem schedTo_get (p : List UInt8) (n k : Nat) (h : k < n) : (schedTo p n)[k]? = some (nextW p (schedTo p k) k) := by
  induction n with
  | zero => omega
  | succ n ih =>
    rw [schedTo]
    rcases Nat.lt_or_ge k n with h1 | h1
    · rw [List.getElem?_append_left (by rw [len_schedTo]; exact h1), ih h1]
    · obtain rfl : k = n := by omega
      rw [List.getElem?_append_right (by rw [len_schedTo]; exact Nat.le_refl _), len_schedTo, Nat.sub_self]; rfl
theorem sched_lo (p : List UInt8) (k : Nat) (h : k < 16) : (sched p)[k]? = some (wordAt p k) := by
  rw [sched, schedTo_get p 64 k (by omega), nextW, if_pos h]
def w16 (p : List UInt8) : UInt32 := wordAt p 0 + wordAt p 9 + sig0 (wordAt p 1) + sig1 (wordAt p 14)
theorem sched_16 (p : List UInt8) : (sched p)[16]? = some (w16 p) := by
  rw [sched, schedTo_get p 64 16 (by omega), nextW, if_neg (by omega)]
  have e : ∀ k, k < 16 → (schedTo p 16)[k]?.getD 0 = wordAt p k := fun k h => by rw [schedTo_get p 16 k h, nextW, if_pos h]; rfl
  rw [e _ (by omega), e _ (by omega), e _ (by omega), e _ (by omega)]; rfl

theorem four_at {p : List UInt8} {j : Nat} {a b c d : UInt8} (ha : p[j]? = some a) (hb : p[j + 1]? = some b) (hc : p[j + 2]? = some c) (hd : p[j + 3]? = some d) : (p.drop j).take 4 = [a, b, c, d] := by
  apply List.ext_getElem?
  intro i
  match i with
  | 0 => simp [List.getElem?_take, ha]
  | 1 => simp [List.getElem?_take, hb]
  | 2 => simp [List.getElem?_take, hc]
  | 3 => simp [List.getElem?_take, hd]
  | i + 4 => rw [List.getElem?_take, if_neg (by omega)]; rfl
theorem word4 {p : List UInt8} {k : Nat} {a b c d : UInt8} (ha : p[4 * k]? = some a) (hb : p[4 * k + 1]? = some b) (hc : p[4 * k + 2]? = some c) (hd : p[4 * k + 3]? = some d) :
    (wordAt p k).toNat = ((a.toNat * 256 + b.toNat) * 256 + c.toNat) * 256 + d.toNat := by
  have h1 := UInt8.toNat_lt a; have h2 := UInt8.toNat_lt b; have h3 := UInt8.toNat_lt c; have h4 := UInt8.toNat_lt d
  rw [wordAt, four_at ha hb hc hd, UInt32.toNat_ofNat']
  simp [bigN]
  omega
theorem or_chain (a b c d : Nat) (ha : a < 256) (hb : b < 256) (hc : c < 256) (hd : d < 256) :
    ((a * 16777216 ||| b * 65536) ||| c * 256) ||| d = ((a * 256 + b) * 256 + c) * 256 + d := by
  have e1 : a * 16777216 ||| b * 65536 = (a * 256 + b) * 65536 := by
    rw [show a * 16777216 = a <<< 24 from by rw [Nat.shiftLeft_eq], ← Nat.shiftLeft_add_eq_or_of_lt (by omega), Nat.shiftLeft_eq]; omega
  have e2 : (a * 256 + b) * 65536 ||| c * 256 = ((a * 256 + b) * 256 + c) * 256 := by
    rw [show (a * 256 + b) * 65536 = (a * 256 + b) <<< 16 from by rw [Nat.shiftLeft_eq], ← Nat.shiftLeft_add_eq_or_of_lt (by omega), Nat.shiftLeft_eq]; omega
  rw [e1, e2, show ((a * 256 + b) * 256 + c) * 256 = ((a * 256 + b) * 256 + c) <<< 8 from by rw [Nat.shiftLeft_eq], ← Nat.shiftLeft_add_eq_or_of_lt (by omega)]

-- the sums of a schedule are linear
theorem tb32 (x : UInt32) (i : Nat) (h : 32 ≤ i) : x.toNat.testBit i = false :=
  Nat.testBit_lt_two_pow (Nat.lt_of_lt_of_le (UInt32.toNat_lt x) (Nat.pow_le_pow_right (by omega) h))
theorem shR_bit (x : UInt32) (n i : Nat) : (shR x n).toNat.testBit i = x.toNat.testBit (i + n) := by
  have hx := UInt32.toNat_lt x
  have : x.toNat / 2 ^ n ≤ x.toNat := Nat.div_le_self _ _
  rw [shR, UInt32.toNat_ofNat', Nat.mod_eq_of_lt (by omega), Nat.testBit_div_two_pow]
theorem rotR_bit (x : UInt32) (n i : Nat) (hn : n ≤ 32) (hi : i < 32) : (rotR x n).toNat.testBit i = if i + n < 32 then x.toNat.testBit (i + n) else x.toNat.testBit (i - (32 - n)) := by
  have h1 := shR_bit x n i
  rw [shR] at h1
  rw [rotR, UInt32.toNat_or, Nat.testBit_or, h1, UInt32.toNat_ofNat', Nat.testBit_mod_two_pow, Nat.testBit_mul_two_pow]
  split
  · simp [hi]; omega
  · rw [tb32 x _ (by omega)]; simp [hi]; omega
theorem ext32 {x y : UInt32} (h : ∀ i, i < 32 → x.toNat.testBit i = y.toNat.testBit i) : x = y :=
  UInt32.toNat_inj.1 (Nat.eq_of_testBit_eq fun i => by
    by_cases hi : i < 32
    · exact h i hi
    · rw [tb32 x i (by omega), tb32 y i (by omega)])
theorem shR_xor (x y : UInt32) (n : Nat) : shR (x ^^^ y) n = shR x n ^^^ shR y n :=
  ext32 fun i hi => by rw [shR_bit, UInt32.toNat_xor, UInt32.toNat_xor, Nat.testBit_xor, Nat.testBit_xor, shR_bit, shR_bit]
theorem rotR_xor (x y : UInt32) (n : Nat) (hn : n ≤ 32) : rotR (x ^^^ y) n = rotR x n ^^^ rotR y n :=
  ext32 fun i hi => by
    rw [rotR_bit _ _ _ hn hi, UInt32.toNat_xor, UInt32.toNat_xor, Nat.testBit_xor, Nat.testBit_xor, Nat.testBit_xor, rotR_bit _ _ _ hn hi, rotR_bit _ _ _ hn hi]
    split <;> rfl
theorem xor6 (a b c a' b' c' : UInt32) : (a ^^^ a') ^^^ (b ^^^ b') ^^^ (c ^^^ c') = (a ^^^ b ^^^ c) ^^^ (a' ^^^ b' ^^^ c') := by
  ac_rfl
theorem sig0_xor (x y : UInt32) : sig0 (x ^^^ y) = sig0 x ^^^ sig0 y := by
  rw [sig0, sig0, sig0, rotR_xor _ _ _ (by omega), rotR_xor _ _ _ (by omega), shR_xor]; exact xor6 ..
theorem sig1_xor (x y : UInt32) : sig1 (x ^^^ y) = sig1 x ^^^ sig1 y := by
  rw [sig1, sig1, sig1, rotR_xor _ _ _ (by omega), rotR_xor _ _ _ (by omega), shR_xor]; exact xor6 ..

-- one byte one higher
theorem bump8 : ∀ d : Fin 256, (d.val ^^^ ((d.val + 1) % 256)) ∈ [1, 3, 7, 15, 31, 63, 127, 255] := by decide +kernel
theorem xor_low (h a b : Nat) (ha : a < 256) (hb : b < 256) : (h * 256 + a) ^^^ (h * 256 + b) = a ^^^ b := by
  apply Nat.eq_of_testBit_eq
  intro j
  rw [Nat.testBit_xor, Nat.testBit_xor, Nat.mul_comm, show 256 = 2 ^ 8 from rfl, Nat.testBit_two_pow_mul_add _ ha, Nat.testBit_two_pow_mul_add _ hb]
  split
  · rfl
  · have hp : 2 ^ 8 ≤ 2 ^ j := Nat.pow_le_pow_right (by omega) (by omega)
    rw [Nat.testBit_lt_two_pow (Nat.lt_of_lt_of_le ha hp), Nat.testBit_lt_two_pow (Nat.lt_of_lt_of_le hb hp)]; simp
/-- Word k's last byte one higher. -/
def bump (p : List UInt8) (k : Nat) : List UInt8 := p.set (4 * k + 3) (p[4 * k + 3]?.getD 0 + 1)
theorem len_bump (p : List UInt8) (k : Nat) : (bump p k).length = p.length := List.length_set ..
theorem get_some {p : List UInt8} (i : Nat) (h : i < p.length) : ∃ a, p[i]? = some a := ⟨_, List.getElem?_eq_getElem h⟩
theorem word_bump_ne (p : List UInt8) (hp : p.length = 64) (k n : Nat) (hn : n ≠ k) : wordAt (bump p k) n = wordAt p n := by
  rw [wordAt, wordAt]
  congr 2
  apply List.ext_getElem?
  intro i
  rw [List.getElem?_take, List.getElem?_take, List.getElem?_drop, List.getElem?_drop, bump]
  split
  · rw [List.getElem?_set_ne (by omega)]
  · rfl
theorem word_bump (p : List UInt8) (hp : p.length = 64) (k : Nat) (hk : k < 16) : ∃ e : UInt32, (wordAt p k) ^^^ (wordAt (bump p k) k) = e ∧ e.toNat ∈ [1, 3, 7, 15, 31, 63, 127, 255] := by
  obtain ⟨a, ha⟩ := get_some (p := p) (4 * k) (by omega)
  obtain ⟨b, hb⟩ := get_some (p := p) (4 * k + 1) (by omega)
  obtain ⟨c, hc⟩ := get_some (p := p) (4 * k + 2) (by omega)
  obtain ⟨d, hd⟩ := get_some (p := p) (4 * k + 3) (by omega)
  have h1 := word4 ha hb hc hd
  have h2 := word4 (p := bump p k) (k := k) (a := a) (b := b) (c := c) (d := d + 1) (by rw [bump, List.getElem?_set_ne (by omega), ha]) (by rw [bump, List.getElem?_set_ne (by omega), hb]) (by rw [bump, List.getElem?_set_ne (by omega), hc])
    (by rw [bump, List.getElem?_set_self (by omega), hd]; rfl)
  refine ⟨_, rfl, ?_⟩
  have hd1 : (d + 1).toNat = (d.toNat + 1) % 256 := by rw [UInt8.toNat_add]; rfl
  rw [UInt32.toNat_xor, h1, h2, xor_low _ _ _ (UInt8.toNat_lt _) (UInt8.toNat_lt _), hd1]
  exact bump8 ⟨d.toNat, UInt8.toNat_lt d⟩
theorem e_cases {e : UInt32} (h : e.toNat ∈ [1, 3, 7, 15, 31, 63, 127, 255]) : e ≠ 0 ∧ sig0 e ≠ 0 ∧ sig1 e ≠ 0 := by
  have H : ∀ n ∈ [1, 3, 7, 15, 31, 63, 127, 255], UInt32.ofNat n ≠ 0 ∧ sig0 (UInt32.ofNat n) ≠ 0 ∧ sig1 (UInt32.ofNat n) ≠ 0 := by decide +kernel
  have := H _ h
  rwa [UInt32.ofNat_toNat] at this
theorem word_bump_self (p : List UInt8) (hp : p.length = 64) (k : Nat) (hk : k < 16) : wordAt (bump p k) k ≠ wordAt p k ∧ sig0 (wordAt (bump p k) k) ≠ sig0 (wordAt p k) ∧ sig1 (wordAt (bump p k) k) ≠ sig1 (wordAt p k) := by
  obtain ⟨e, he, hm⟩ := word_bump p hp k hk
  obtain ⟨h0, h1, h2⟩ := e_cases hm
  refine ⟨fun h => h0 ?_, fun h => h1 ?_, fun h => h2 ?_⟩
  · rw [← he, h, UInt32.xor_self]
  · rw [← he, sig0_xor, h, UInt32.xor_self]
  · rw [← he, sig1_xor, h, UInt32.xor_self]
/-- Word 16 hangs on the words 0, 1, 9 and 14 alone. -/
theorem w16_bump (p : List UInt8) (hp : p.length = 64) (k : Nat) (hk : k < 16) : (w16 (bump p k) = w16 p) ↔ ¬ (k = 0 ∨ k = 1 ∨ k = 9 ∨ k = 14) := by
  have hs := word_bump_self p hp k hk
  have hn := word_bump_ne p hp k
  by_cases h0 : k = 0
  · subst h0
    rw [w16, w16, hn 9 (by omega), hn 1 (by omega), hn 14 (by omega)]
    simpa using hs.1
  by_cases h1 : k = 1
  · subst h1
    rw [w16, w16, hn 9 (by omega), hn 0 (by omega), hn 14 (by omega)]
    simpa using hs.2.1
  by_cases h9 : k = 9
  · subst h9
    rw [w16, w16, hn 1 (by omega), hn 0 (by omega), hn 14 (by omega)]
    simpa using hs.1
  by_cases h14 : k = 14
  · subst h14
    rw [w16, w16, hn 1 (by omega), hn 0 (by omega), hn 9 (by omega)]
    simpa using hs.2.2
  rw [w16, w16, hn 1 (by omega), hn 0 (by omega), hn 9 (by omega), hn 14 (by omega)]
  simp [h0, h1, h9, h14]
end Go.Proofs.Ytbphoilfiahnpaa
