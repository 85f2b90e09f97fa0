/-
  The statements' 'large': more than 4096 bytes in all.
-/
import Derived.Test.YtbphoilfiahnpaaConcat
namespace Go.Proofs.Ytbphoilfiahnpaa
open Go.RowKit
set_option linter.unusedVariables false
set_option maxRecDepth 100000

set_option maxHeartbeats 1000000 in
theorem large_c {w : World} {B : Nat} {A : Option Addr} {n c : Nat} (ps : List Part) (ha : Sl w B 1 A n c (ps.map Part.v)) (ht : total ps ≤ 9223372036854775000) (r : Bool) (hr : decide (4096 < total ps) = r) :
    Calls Try.prog 38 #[.slice A n c] w fun e w' => e = .returned (.bool r) ∧ w = w' := by
  have hl : ps.length = n := by have := ha.1; simpa using this
  have hcm : c ≤ 9223372036854775807 := ha.2.2.1
  have hnc := ha.2.1
  have hcell : 0 < n → ∃ b off, A = some ⟨b, off, none⟩ ∧ ∀ (j : Nat) (p : Part), ps[j]? = some p → w.cell? ⟨b, off + j, none⟩ = some p.v := fun h => by
    obtain ⟨b, off, e, _, hj⟩ := ha.2.2.2 (by omega)
    exact ⟨b, off, e, fun j p hp => hj j _ (by rw [List.getElem?_map, hp]; rfl)⟩
  have HC := Lib.hid hcell
  have HL := Lib.hid hl
  have HR := Lib.hid hr
  have HT := Lib.hid ht
  clear ha hcell hl hr ht
  go_enter Try.func38, Try.ntmps38
  go_wp2_with fail
  go_loopw [3, 8] (fun v3 v8 wr => ∃ i t : Nat, i ≤ n ∧ t = total (ps.take i) ∧ t ≤ 4096 ∧ v8 = .int .i64 (i : Int) ∧ v3 = .int .i64 (t : Int) ∧ wr = w) (fun v3 v8 _ => n - (intOf v8).toNat)
  case atStart => exact ⟨0, 0, by omega, by simp [total], by omega, rfl, rfl, rfl⟩
  case round =>
    obtain ⟨i, t, hi, hti, ht4, rfl, rfl, rfl⟩ := hrel
    by_cases hlt : i < n
    · have hip : i < ps.length := by rw [HL.out]; exact hlt
      obtain ⟨b, off, rfl, hj⟩ := HC.out (by omega)
      obtain ⟨p, hp⟩ : ∃ p, p = ps[i] := ⟨_, rfl⟩
      have hg : ps[i]? = some p := by rw [List.getElem?_eq_getElem hip, hp]
      have d1 := hj i p hg
      rw [Part.v] at d1
      have hnext : total (ps.take (i + 1)) = t + p.n := by rw [List.take_add_one, hg, Option.toList_some, total_snoc, hti]
      have htl := total_take_le ps (i + 1)
      rw [hnext] at htl
      have hTb := HT.out
      have hil : (i : Int) < (n : Int) := by omega
      have hpn : (p.n : Int) ≤ 9223372036854775000 := by omega
      have hsum : (t : Int) + (p.n : Int) ≤ 9223372036854775000 := by omega
      have HNX := Lib.hid hnext
      have HTL := Lib.hid htl
      clear hg hp hnext htl hti hTb hj
      by_cases hbig : 4096 < t + p.n
      · have hbi : (4096 : Int) < (t : Int) + (p.n : Int) := by omega
        have hdec : decide ((4096 : Int) < (t : Int) + (p.n : Int)) = true := decide_eq_true hbi
        go_wp2_with fail
        go_ret
        exact ⟨by rw [← HR.out, decide_eq_true (Nat.lt_of_lt_of_le hbig HTL.out)]; rfl, rfl⟩
      · have hbi : ¬ (4096 : Int) < (t : Int) + (p.n : Int) := by omega
        have hdec : decide ((4096 : Int) < (t : Int) + (p.n : Int)) = false := decide_eq_false hbi
        go_wp2_with fail
        exact ⟨⟨i + 1, t + p.n, by omega, HNX.out.symm, by omega, by go_num, by go_num, trivial⟩, by simp [intOf]; omega⟩
    · obtain rfl : i = n := by omega
      have htt : t = total ps := by rw [hti, List.take_of_length_le (by rw [HL.out]; omega)]
      have hil : ¬ (i : Int) < (i : Int) := by omega
      clear hti
      go_wp2_with fail
      go_ret
      exact ⟨by rw [← HR.out, ← htt, decide_eq_false (by omega)]; rfl, rfl⟩
end Go.Proofs.Ytbphoilfiahnpaa
