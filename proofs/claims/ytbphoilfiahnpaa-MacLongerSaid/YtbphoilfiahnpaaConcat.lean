/-
  slices.Grow at nil, slices.Concat: rows joined.
-/
import Derived.Test.YtbphoilfiahnpaaZeros
namespace Go.Proofs.Ytbphoilfiahnpaa
open Go.RowKit
set_option linter.unusedVariables false
set_option maxRecDepth 100000

theorem growNil_c (k : Nat) (hk : k ≤ 140737488353000) (w : World) :
    Calls Try.prog 70 #[.slice none 0 0, .int .i64 (k : Int)] w fun e w' => ∃ A' c', e = .returned (.slice A' 0 c') ∧ OwB w' w.heap.size A' 0 c' [] ∧ k ≤ c' ∧ Below w.heap.size w w' := by
  have hn0 := OwB.nil w w.heap.size none
  rcases Nat.eq_zero_or_pos k with h0 | h0
  · subst h0
    go_enter Try.func70, Try.ntmps70
    go_wp2_with fail
    go_ret
    exact ⟨none, 0, rfl, hn0, Nat.le_refl _, Below.refl _ _⟩
  · go_enter Try.func70, Try.ntmps70
    go_wp2_with (at_builtin; refine wpList_append_mk (m := k) rfl (.tmp 20) (.tmp 21) rfl rfl hn0 rfl (by omega) (Nat.le_refl _) k (by omega) ?_; intro A1 c1 w1 h1 q1; have hle1 := h1.le; have hcp1 := h1.cap; have hb1 : Below w.heap.size w w1 := q1.below hn0 (Below.refl _ _) (Nat.le_refl _) (Nat.le_refl _))
    go_ret
    refine ⟨A1, c1, rfl, ?_, hle1, hb1⟩
    have := h1.trim (k := 0) (Nat.zero_le _)
    rwa [List.take_zero] at this

/-- A row that is to be joined: the slice, and the bytes that it reads as. -/
structure Part where
  A : Option Addr
  n : Nat
  c : Nat
  bs : List UInt8
def Part.v (p : Part) : Value := .slice p.A p.n p.c
def total (ps : List Part) : Nat := (ps.map (·.n)).sum
def joined (ps : List Part) : List UInt8 := (ps.map (·.bs)).flatten
theorem total_snoc (ps : List Part) (p : Part) : total (ps ++ [p]) = total ps + p.n := by simp [total]
theorem joined_snoc (ps : List Part) (p : Part) : joined (ps ++ [p]) = joined ps ++ p.bs := by simp [joined]
theorem total_append (a b : List Part) : total (a ++ b) = total a + total b := by simp [total]
theorem total_take_le (ps : List Part) (k : Nat) : total (ps.take k) ≤ total ps := by
  have h : total ps = total (ps.take k) + total (ps.drop k) := by
    have e : total ps = total (ps.take k ++ ps.drop k) := by rw [List.take_append_drop]
    exact e.trans (total_append _ _)
  omega

set_option maxHeartbeats 1000000 in
theorem concat_c {w : World} {B : Nat} {A : Option Addr} {n c : Nat} (ps : List Part) (ha : Sl w B 1 A n c (ps.map Part.v)) (hB : B ≤ w.heap.size) (hps : ∀ p ∈ ps, SlB w B p.A p.n p.c p.bs) (ht : total ps ≤ 140737488353000) :
    Calls Try.prog 58 #[.slice A n c] w fun e w' => ∃ A' c', e = .returned (.slice A' (total ps) c') ∧ OwB w' w.heap.size A' (total ps) c' (joined ps) ∧ Below w.heap.size w w' := by
  have hl : ps.length = n := by have := ha.1; simpa using this
  have hcm : c ≤ 9223372036854775807 := ha.2.2.1
  have hnc := ha.2.1
  have HL := Lib.hid hl
  have HPS := Lib.hid hps
  have HT := Lib.hid ht
  -- the cells, where there is a row
  have hcell : ∃ b off, (0 < n → A = some ⟨b, off, none⟩ ∧ b < B ∧ ∀ (j : Nat) (p : Part), ps[j]? = some p → w.cell? ⟨b, off + j, none⟩ = some p.v) := by
    rcases Nat.eq_zero_or_pos n with h0 | h0
    · exact ⟨0, 0, fun h => absurd h (by omega)⟩
    · obtain ⟨b, off, e, hb, hj⟩ := ha.2.2.2 (by omega)
      exact ⟨b, off, fun _ => ⟨e, hb, fun j p hp => hj j _ (by rw [List.getElem?_map, hp]; rfl)⟩⟩
  obtain ⟨b, off, hcl⟩ := hcell
  have HC := Lib.hid hcl
  clear hl hps ha ht hcl
  go_enter Try.func58, Try.ntmps58
  go_wp2_with fail
  go_loop [3, 11] (fun v3 v11 => ∃ k s : Nat, k ≤ n ∧ v11 = .int .i64 (k : Int) ∧ v3 = .int .i64 (s : Int) ∧ s = total (ps.take k)) (fun _ v11 => n - (intOf v11).toNat)
  case atStart => exact ⟨0, 0, by omega, rfl, rfl, by simp [total]⟩
  case round =>
    obtain ⟨k, s, hk, rfl, rfl, hs⟩ := hrel
    have hsl : s ≤ 140737488353000 := by rw [hs]; exact Nat.le_trans (total_take_le _ _) HT.out
    have HS := Lib.hid hs
    clear hs
    by_cases hlt : k < n
    · obtain ⟨rfl, _, hj⟩ := HC.out (by omega)
      obtain ⟨p, hp⟩ : ∃ p, p = ps[k]'(by rw [HL.out]; exact hlt) := ⟨_, rfl⟩
      have hc := hj k p (by rw [hp]; exact List.getElem?_eq_getElem _)
      unfold Part.v at hc
      have hnx : total (ps.take (k + 1)) = s + p.n := by rw [List.take_succ_eq_append_getElem (by rw [HL.out]; exact hlt), total_snoc, ← hp, HS.out]
      have hle : s + p.n ≤ 140737488353000 := by rw [← hnx]; exact Nat.le_trans (total_take_le _ _) HT.out
      have HN := Lib.hid hnx
      have hik : (k : Int) < (n : Int) := by omega
      clear hj hp hnx
      go_wp2_with fail
      go_round
      case rel => exact ⟨k + 1, s + p.n, by omega, by go_num, by go_num, HN.out.symm⟩
      case measure => simp [intOf]; omega
    · obtain rfl : k = n := by omega
      have hst : s = total ps := by rw [HS.out, List.take_of_length_le (by rw [HL.out]; exact Nat.le_refl _)]
      have HST := Lib.hid hst
      clear hst HS
      go_wp2_with fail
      refine (growNil_c s hsl w).mono ?_
      rintro e w1 ⟨A1, c1, rfl, h1, hc1, hb1⟩
      have H1 := Lib.hid h1
      clear h1
      go_wp2_with fail
      go_loopw [6, 27] (fun v6 v27 wr => ∃ (k' s' : Nat) (A' : Option Addr) (c' : Nat), k' ≤ k ∧ v27 = .int .i64 (k' : Int) ∧ v6 = .slice A' s' c' ∧ s' = total (ps.take k') ∧ OwB wr w.heap.size A' s' c' (joined (ps.take k')) ∧ Below w.heap.size w wr) (fun _ v27 _ => k - (intOf v27).toNat)
      case atStart => exact ⟨0, 0, A1, c1, by omega, rfl, rfl, by simp [total], by simpa [joined] using H1.out, hb1⟩
      case round =>
        clear H1
        obtain ⟨k', s', A', c', hk', rfl, rfl, hs', ho, hb⟩ := hrel
        have hz := hb.size
        have HO := Lib.hid ho
        have HS' := Lib.hid hs'
        clear ho hs'
        by_cases hlt' : k' < k
        · obtain ⟨rfl, hbB, hj⟩ := HC.out (by omega)
          obtain ⟨p, hp⟩ : ∃ p, p = ps[k']'(by rw [HL.out]; exact hlt') := ⟨_, rfl⟩
          have hc : wr.cell? ⟨b, off + k', none⟩ = some p.v := (hb.cell (p := ⟨b, off + k', none⟩) (Nat.lt_of_lt_of_le hbB hB)).trans (hj k' p (by rw [hp]; exact List.getElem?_eq_getElem _))
          unfold Part.v at hc
          have hnx : total (ps.take (k' + 1)) = s' + p.n := by rw [List.take_succ_eq_append_getElem (by rw [HL.out]; exact hlt'), total_snoc, ← hp, HS'.out]
          have hjx : joined (ps.take (k' + 1)) = joined (ps.take k') ++ p.bs := by rw [List.take_succ_eq_append_getElem (by rw [HL.out]; exact hlt'), joined_snoc, ← hp]
          have hle : s' + p.n ≤ 140737488353000 := by rw [← hnx]; exact Nat.le_trans (total_take_le _ _) HT.out
          have hpr : SlB wr B p.A p.n p.c p.bs := (HPS.out p (by rw [hp]; exact List.getElem_mem _)).below (hb.mono hB)
          have HN := Lib.hid hnx
          have HJ := Lib.hid hjx
          have HP := Lib.hid hpr
          have hik : (k' : Int) < (k : Int) := by omega
          clear hj hp hnx hjx hpr
          go_wp2_with (at_builtin; refine wpList_append8 rfl (.tmp 31) (.tmp 32) rfl rfl HO.out rfl HP.out (by omega) hz (s' + p.n) rfl ?_; intro A9 c9 w9 h9 q9)
          go_roundw
          case rel =>
            refine ⟨k' + 1, s' + p.n, A9, c9, by omega, by go_num, rfl, HN.out.symm, ?_, q9.below HO.out hb (Nat.le_refl _) hz⟩
            rw [HJ.out]
            exact h9
          case measure => simp [intOf]; omega
        · obtain rfl : k' = k := by omega
          have e1 : s' = total ps := by rw [HS'.out, List.take_of_length_le (by rw [HL.out]; exact Nat.le_refl _)]
          have e2 : joined (ps.take k') = joined ps := by rw [List.take_of_length_le (by rw [HL.out]; exact Nat.le_refl _)]
          have HE1 := Lib.hid e1
          have HE2 := Lib.hid e2
          clear e1 e2
          go_wp2_with fail
          go_ret
          refine ⟨A', c', by rw [← HE1.out]; rfl, ?_, hb⟩
          rw [← HE1.out, ← HE2.out]
          exact HO.out
end Go.Proofs.Ytbphoilfiahnpaa
