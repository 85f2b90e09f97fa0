/-
  Rows as bytes: first, TakeRow, Row; the reference's Row and Rows.
-/
import Derived.Test.YtjjpifppdjpcnaaPut
import Derived.Deep.RegionWith
import Derived.Test.YtjjpifppdjpcnaaBase
namespace Go.Proofs.Ytjjpifppdjpcnaa
open Go.RowKit
set_option linter.unusedVariables false
set_option maxRecDepth 100000

theorem ret_int {k : IntKind} {a b : Int} (h : a = b) : Ending.returned (.int k a) = .returned (.int k b) := by rw [h]
/-- How long the row is that bytes begin with. -/
def rowLen (bs : List UInt8) : Option Nat :=
  match bs with
  | a :: b :: rest => if a.toNat * 256 + b.toNat ≤ rest.length then some (a.toNat * 256 + b.toNat) else none
  | _ => none
def rowsF : Nat → List UInt8 → List (List UInt8)
  | 0, _ => []
  | f + 1, bs => match rowLen bs with
    | none => []
    | some n => (bs.drop 2).take n :: rowsF f (bs.drop (2 + n))
/-- The rows that bytes begin with. -/
def rowsOf (bs : List UInt8) : List (List UInt8) := rowsF bs.length bs

theorem rowLen_some {bs : List UInt8} {n : Nat} (h : rowLen bs = some n) : 2 + n ≤ bs.length ∧ ∃ a b, bs[0]? = some a ∧ bs[1]? = some b ∧ n = a.toNat * 256 + b.toNat := by
  match bs, h with
  | a :: b :: rest, h =>
    simp only [rowLen] at h
    split at h
    · simp only [Option.some.injEq] at h
      subst h
      exact ⟨by simp; omega, a, b, rfl, rfl, rfl⟩
    · cases h
theorem rowLen_none {bs : List UInt8} (h : rowLen bs = none) (h2 : 2 ≤ bs.length) : ∃ a b, bs[0]? = some a ∧ bs[1]? = some b ∧ bs.length < 2 + (a.toNat * 256 + b.toNat) := by
  match bs, h2 with
  | a :: b :: rest, _ =>
    simp only [rowLen] at h
    split at h
    · cases h
    · exact ⟨a, b, rfl, rfl, by simp; omega⟩
theorem rowsF_fuel : ∀ (f g : Nat) (bs : List UInt8), bs.length ≤ f → bs.length ≤ g → rowsF f bs = rowsF g bs
  | 0, 0, _, _, _ => rfl
  | 0, g + 1, bs, hf, _ => by
    obtain rfl : bs = [] := List.eq_nil_of_length_eq_zero (by omega)
    rfl
  | f + 1, 0, bs, _, hg => by
    obtain rfl : bs = [] := List.eq_nil_of_length_eq_zero (by omega)
    rfl
  | f + 1, g + 1, bs, hf, hg => by
    rw [rowsF, rowsF]
    cases h : rowLen bs with
    | none => rfl
    | some n =>
      have := (rowLen_some h).1
      simp only
      rw [rowsF_fuel f g (bs.drop (2 + n)) (by simp; omega) (by simp; omega)]
theorem rowsOf_none {bs : List UInt8} (h : rowLen bs = none) : rowsOf bs = [] := by
  unfold rowsOf
  cases bs.length with
  | zero => rfl
  | succ f => rw [rowsF, h]
theorem rowsOf_some {bs : List UInt8} {n : Nat} (h : rowLen bs = some n) : rowsOf bs = (bs.drop 2).take n :: rowsOf (bs.drop (2 + n)) := by
  have h2 := (rowLen_some h).1
  unfold rowsOf
  obtain ⟨f, hf⟩ : ∃ f, bs.length = f + 1 := ⟨bs.length - 1, by omega⟩
  rw [hf, rowsF, h]
  simp only
  rw [rowsF_fuel f (bs.drop (2 + n)).length _ (by simp; omega) (Nat.le_refl _)]

/-- 0, or the row's length and the two bytes ahead. -/
def firstN (bs : List UInt8) : Nat := match rowLen bs with | none => 0 | some n => 2 + n

theorem first_c {w : World} {B : Nat} {A : Option Addr} {n c : Nat} {bs : List UInt8} (ha : SlB w B A n c bs) :
    Calls Try.prog 66 #[.slice A n c] w fun e w' => e = .returned (.int .i64 (firstN bs)) ∧ ∃ d, w' = w.drewN d := by
  have hl := ha.len
  have hnc := ha.le
  have hcm : c ≤ 9223372036854775807 := ha.cap
  by_cases h2 : n < 2
  · have hf : firstN bs = 0 := by
      cases h : rowLen bs with
      | none => simp [firstN, h]
      | some m => have := (rowLen_some h).1; omega
    have HF := Lib.hid hf
    clear hf ha hl
    go_enter Try.func66, Try.ntmps66
    go_wp2_with fail
    go_ret
    exact ⟨by rw [HF.out]; rfl, 0, rfl⟩
  · obtain ⟨b, off, rfl, _, hj⟩ := ha.at_ (by omega)
    obtain ⟨x, hx⟩ : ∃ x, bs[0]? = some x := ⟨bs[0]'(by omega), List.getElem?_eq_getElem _⟩
    obtain ⟨y, hy⟩ : ∃ y, bs[1]? = some y := ⟨bs[1]'(by omega), List.getElem?_eq_getElem _⟩
    have hc0 : w.cell? ⟨b, off, none⟩ = some (.int .u8 (x.toNat : Int)) := hj 0 x hx
    have hc1 : w.cell? ⟨b, off + 1, none⟩ = some (.int .u8 (y.toNat : Int)) := hj 1 y hy
    have hf : firstN bs = if 2 + (x.toNat * 256 + y.toNat) ≤ n then 2 + (x.toNat * 256 + y.toNat) else 0 := by
      cases h : rowLen bs with
      | none =>
        obtain ⟨a, b', ea, eb, hlt⟩ := rowLen_none h (by omega)
        rw [hx] at ea; rw [hy] at eb
        obtain rfl := Option.some.inj ea
        obtain rfl := Option.some.inj eb
        rw [if_neg (by omega)]
        simp [firstN, h]
      | some m =>
        obtain ⟨hle, a, b', ea, eb, hm⟩ := rowLen_some h
        rw [hx] at ea; rw [hy] at eb
        obtain rfl := Option.some.inj ea
        obtain rfl := Option.some.inj eb
        subst hm
        rw [if_pos (by omega)]
        simp [firstN, h]
    have HF := Lib.hid hf
    have hx1 : (x.toNat : Int) < 256 := by have := UInt8.toNat_lt x; omega
    have hy1 : (y.toNat : Int) < 256 := by have := UInt8.toNat_lt y; omega
    have hx0 : (0 : Int) ≤ (x.toNat : Int) := by omega
    have hy0 : (0 : Int) ≤ (y.toNat : Int) := by omega
    have h2' : 2 ≤ n := by omega
    clear hf ha hl hj hx hy h2
    by_cases hfit : 2 + (x.toNat * 256 + y.toNat) ≤ n
    · have hfi : 2 + (x.toNat : Int) * 256 + (y.toNat : Int) ≤ (n : Int) := by omega
      rw [if_pos hfit] at HF
      clear hfit
      go_enter Try.func66, Try.ntmps66
      go_wp2_with fail
      go_quiet (fail)
      go_wp2_with fail
      go_ret
      exact ⟨ret_int (by rw [HF.out]; omega), _, rfl⟩
    · have hfi : (n : Int) < 2 + (x.toNat : Int) * 256 + (y.toNat : Int) := by omega
      rw [if_neg hfit] at HF
      clear hfit
      go_enter Try.func66, Try.ntmps66
      go_wp2_with fail
      go_quiet (fail)
      go_wp2_with fail
      go_ret
      exact ⟨ret_int (by rw [HF.out]; rfl), _, rfl⟩

/-- A row that was there is apart from one that was made later. -/
theorem far_later {w w1 : World} {base : Nat} {A1 A2 : Option Addr} {n1 c1 n2 c2 : Nat} {b1 b2 : List UInt8} (h1 : OwB w base A1 n1 c1 b1) (h2 : OwB w1 w.heap.size A2 n2 c2 b2) : wrote A1 c1 = none ∨ wrote A1 c1 ≠ wrote A2 c2 := by
  rcases Nat.eq_zero_or_pos c1 with hc | hc
  · left; simp [wrote, hc]
  · obtain ⟨g, cur, rfl, _, hb, _⟩ := h1.2.2.2 hc
    right
    rw [wrote, if_neg (by omega)]
    rcases Nat.eq_zero_or_pos c2 with hc2 | hc2
    · simp [wrote, hc2]
    · obtain ⟨g2, cur2, rfl, hg2, hb2, _⟩ := h2.2.2.2 hc2
      have := hb.lt
      rw [wrote, if_neg (by omega)]
      simp
      omega

theorem takerow_none {w : World} {B : Nat} {A : Option Addr} {n c : Nat} {bs : List UInt8} (ha : SlB w B A n c bs) (hr : rowLen bs = none) :
    Calls Try.prog 50 #[.slice A n c] w fun e w' => e = .returned (.tuple #[.slice none 0 0, .slice none 0 0, .iface 35 (.int .i64 2)]) ∧ ∃ d, w' = w.drewN d := by
  have HF := Lib.hid (show firstN bs = 0 by simp [firstN, hr])
  have HA := Lib.hid ha
  clear ha hr
  go_enter Try.func50, Try.ntmps50
  go_wp2_with fail
  refine (first_c HA.out).mono ?_
  rintro e w1 ⟨rfl, d, rfl⟩
  rw [HF.out]
  go_wp2_with fail
  go_ret3
  exact ⟨rfl, d, rfl⟩

set_option maxHeartbeats 1000000 in
theorem takerow_some {w : World} {B : Nat} {A : Option Addr} {n c : Nat} {bs : List UInt8} (ha : SlB w B A n c bs) (hB : B ≤ w.heap.size) (hn : n ≤ 140737488355328) {m : Nat} (hr : rowLen bs = some m) :
    Calls Try.prog 50 #[.slice A n c] w fun e w' => ∃ A1 c1 A2 c2, e = .returned (.tuple #[.slice A1 m c1, .slice A2 (n - (2 + m)) c2, .nilIface]) ∧
      OwB w' w.heap.size A1 m c1 ((bs.drop 2).take m) ∧ OwB w' w.heap.size A2 (n - (2 + m)) c2 (bs.drop (2 + m)) ∧ (wrote A1 c1 = none ∨ wrote A1 c1 ≠ wrote A2 c2) ∧ Below w.heap.size w w' := by
  have hle := (rowLen_some hr).1
  have hl := ha.len
  obtain ⟨N, hN⟩ : ∃ N, N = 2 + m := ⟨_, rfl⟩
  have HF := Lib.hid (show firstN bs = N by simp [firstN, hr, hN])
  obtain ⟨AR, hAR, hslR⟩ := ha.cutRun (lo := 2) (hi := N) (by omega) (by omega) 2 (N : Int) rfl rfl
  obtain ⟨AT, hAT, hslT⟩ := ha.tailRun (lo := N) (by omega)
  have HR : Hid (∀ W, Below w.heap.size w W → SlB W B AR (N - 2) (c - 2) ((bs.drop 2).take (N - 2))) := fun W hW => hAR.below (hW.mono hB)
  have HT : Hid (∀ W, Below w.heap.size w W → SlB W B AT (n - N) (c - N) (bs.drop N)) := fun W hW => hAT.below (hW.mono hB)
  have HA := Lib.hid ha
  have HNM := Lib.hid hN
  have h2N : 2 ≤ N := by omega
  have hNn : N ≤ n := by omega
  clear ha hr hAR hAT hN hl hle
  go_enter Try.func50, Try.ntmps50
  go_wp2_with fail
  refine (first_c HA.out).mono ?_
  rintro e w1 ⟨rfl, d, rfl⟩
  rw [HF.out]
  go_wp2_with fail
  go_region_with (first
    | (go_at_call_of 64 AR; refine (clone_c (HR.out _ (below_drewN (Below.refl _ _) _)) hB (by omega)).mono ?_; rintro e wR ⟨A1, c1, rfl, ho1, hb1, _⟩; have hwR : Below w.heap.size w wR := (below_drewN (Below.refl _ _) (d + 1)).trans hb1)
    | (go_at_call_of 64 AR; refine (clone_c (HR.out _ hwT) (Nat.le_trans hB hwT.size) (by omega)).mono ?_; rintro e wR ⟨A1, c1, rfl, ho1, hb1, _⟩; have hwR : Below w.heap.size w wR := hwT.trans (hb1.mono hwT.size))
    | (go_at_call_of 64 AT; refine (clone_c (HT.out _ (below_drewN (Below.refl _ _) _)) hB (by omega)).mono ?_; rintro e wT ⟨A2, c2, rfl, ho2, hb2, _⟩; have hwT : Below w.heap.size w wT := (below_drewN (Below.refl _ _) (d + 1)).trans hb2)
    | (go_at_call_of 64 AT; refine (clone_c (HT.out _ hwR) (Nat.le_trans hB hwR.size) (by omega)).mono ?_; rintro e wT ⟨A2, c2, rfl, ho2, hb2, _⟩; have hwT : Below w.heap.size w wT := hwR.trans (hb2.mono hwR.size)))
  go_wp2_with fail
  go_ret3
  have e1 := HNM.out
  subst e1
  rw [Nat.add_sub_cancel_left] at ho1
  refine ⟨A1, c1, A2, c2, by rw [Nat.add_sub_cancel_left]; rfl, ho1.below hb2, Row.base_le ho2 hwR.size, far_later ho1 ho2, hwT⟩

/-- Row. -/
theorem row_big {w : World} {A A' : Option Addr} {n c n' c' : Nat} (hn : 65535 < n') (hm : n' ≤ 9223372036854775807) :
    Calls Try.prog 41 #[.slice A n c, .slice A' n' c'] w fun e w' => e = .returned (.tuple #[.slice none 0 0, .iface 35 (.int .i64 1)]) ∧ w = w' := by
  have hI : (65535 : Int) < (n' : Int) := by omega
  go_enter Try.func41, Try.ntmps41
  go_wp2_with fail
  go_ret2
  exact ⟨rfl, rfl⟩
/-- A row's two bytes ahead. -/
def head2 (n : Nat) : List UInt8 := [UInt8.ofNat (n / 256), UInt8.ofNat (n % 256)]
theorem numB_two (n : Nat) (h : n ≤ 65535) : numB (n : Int) 2 2 = head2 n := by
  have e : numB (n : Int) 2 2 = [byteAt (n : Int) 1, byteAt (n : Int) 0] := rfl
  rw [e, head2, byteAt, byteAt]
  simp only [Nat.mul_one, Nat.mul_zero, Int.reducePow]
  have h1 : ((n : Int) / 256 % 256).toNat = n / 256 := by omega
  have h0 : ((n : Int) / 1 % 256).toNat = n % 256 := by omega
  rw [h1, h0]
theorem row_ok {w : World} {B B' : Nat} {A A' : Option Addr} {n c n' c' : Nat} {bs row : List UInt8} (ha : SlB w B A n c bs) (hB : B ≤ w.heap.size) (hr : SlB w B' A' n' c' row) (hB' : B' ≤ w.heap.size) (hn : n ≤ 140737488280000) (hn' : n' ≤ 65535) :
    Calls Try.prog 41 #[.slice A n c, .slice A' n' c'] w fun e w' => ∃ A3 c3, e = .returned (.tuple #[.slice A3 (n + 2 + n') c3, .nilIface]) ∧ OwB w' w.heap.size A3 (n + 2 + n') c3 (bs ++ (head2 n' ++ row)) ∧ Below w.heap.size w w' := by
  have hI : (n' : Int) ≤ (65535 : Int) := by omega
  have HA := Lib.hid ha
  have HR := Lib.hid hr
  clear ha hr
  go_enter Try.func41, Try.ntmps41
  go_wp2_with fail
  refine (put_good HA.out hB (by omega) (k := 2) (n' : Int) (WalkArith.wf_i64 (by omega)) ⟨by simp [sz], .inr ⟨by omega, by simp; omega⟩⟩).mono ?_
  rintro e w1 ⟨A1, c1, rfl, ho1, hb1⟩
  rw [numB_two n' hn'] at ho1
  have hr1 := HR.out.below (hb1.mono hB')
  have HO1 := Lib.hid ho1
  have HR1 := Lib.hid hr1
  clear ho1 hr1
  go_wp2_with (at_builtin; refine wpList_append8 rfl (.tmp 22) (.tmp 23) rfl rfl HO1.out rfl HR1.out (by omega) hb1.size (n + 2 + n') rfl ?_; intro A4 c4 w4 h4 q4; have hb4 : Below w.heap.size w w4 := q4.below HO1.out hb1 (Nat.le_refl _) hb1.size)
  go_ret2
  exact ⟨A4, c4, rfl, by rw [← List.append_assoc]; exact h4, hb4⟩
theorem refrow_ok {w : World} {B' : Nat} {A' : Option Addr} {n' c' : Nat} {row : List UInt8} (hr : SlB w B' A' n' c' row) (hB' : B' ≤ w.heap.size) (hn' : n' ≤ 65535) :
    Calls Try.prog 43 #[.slice A' n' c'] w fun e w' => ∃ A3 c3, e = .returned (.slice A3 (2 + n') c3) ∧ OwB w' w.heap.size A3 (2 + n') c3 (head2 n' ++ row) ∧ Below w.heap.size w w' := by
  have h1 : (n' : Int) / 256 = ((UInt8.ofNat (n' / 256)).toNat : Int) := by rw [UInt8.toNat_ofNat']; omega
  have h2 : (n' : Int) % 256 = ((UInt8.ofNat (n' % 256)).toNat : Int) := by rw [UInt8.toNat_ofNat']; omega
  have hlit := OwB.lit w w.heap.size #[.int .u8 ((UInt8.ofNat (n' / 256)).toNat : Int), .int .u8 ((UInt8.ofNat (n' % 256)).toNat : Int)] (head2 n') 2 (Nat.le_refl _) rfl (by simp [maxLen]) rfl
  have hra := hr.alloc hB' (.cells #[.int .u8 ((n' : Int) / 256), .int .u8 ((n' : Int) % 256)] 5)
  rw [← h1, ← h2] at hlit
  have HL := Lib.hid hlit
  have HR := Lib.hid hra
  have hn0 : (n' : Int) ≤ 65535 := by omega
  clear hr hlit hra h1 h2
  go_enter Try.func43, Try.ntmps43
  go_wp2_with (at_builtin; refine wpList_append8 rfl (.tmp 11) (.tmp 12) rfl rfl HL.out rfl HR.out (by omega) (by simp) (2 + n') rfl ?_; intro A4 c4 w4 h4 q4; have hb4 : Below w.heap.size w w4 := q4.below HL.out ((Below.refl _ _).alloc (Nat.le_refl _) _) (Nat.le_refl _) (by simp))
  go_ret
  exact ⟨A4, c4, rfl, h4, hb4⟩
end Go.Proofs.Ytjjpifppdjpcnaa
