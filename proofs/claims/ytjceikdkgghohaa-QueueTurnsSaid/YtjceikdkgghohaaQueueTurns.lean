/-
  QueueTurns returns true for every tick and number of tenants.
-/
import Derived.Test.YtjceikdkgghohaaRows
import Derived.Test.YtjceikdkgghohaaLib
namespace Go.Proofs.Ytjceikdkgghohaa.queueTurns
open Go.ChangeShapes Go.WideShapes Go.ChangeAt Go.RowKit
set_option linter.unusedVariables false

theorem turn_neg (a b : Int) (w : World) (h : a < 0 ∨ b < 1) :
    Calls Try.prog 15 #[.int .i64 a, .int .i64 b] w fun e w' => e = .returned (.int .i64 (-1)) ∧ w = w' := by
  by_cases h0 : a < 0
  · clear h
    go_enter Try.func15, Try.ntmps15
    go_wp2
    go_ret
    exact ⟨rfl, rfl⟩
  · have h1 : b < 1 := by omega
    clear h
    go_enter Try.func15, Try.ntmps15
    go_wp2
    go_ret
    exact ⟨rfl, rfl⟩

theorem turn_pos (a b m : Int) (w : World) (h0 : 0 ≤ a) (h1 : 1 ≤ b) (hm : a % b = m) :
    Calls Try.prog 15 #[.int .i64 a, .int .i64 b] w fun e w' => e = .returned (.int .i64 m) ∧ w = w' := by
  have H := Lib.hid hm
  clear hm
  go_enter Try.func15, Try.ntmps15
  go_wp2
  go_ret
  exact ⟨by rw [H.out]; rfl, rfl⟩

/-- How many of the first k ticks are tenant j's. -/
def cnt (a : Int) (n k j : Nat) : Nat := ((List.range k).filter (fun i : Nat => (a + (i : Int)) % (n : Int) == (j : Int))).length

theorem cnt_le (a : Int) (n k j : Nat) : cnt a n k j ≤ k := by
  unfold cnt; have := List.length_filter_le (fun i : Nat => (a + (i : Int)) % (n : Int) == (j : Int)) (List.range k); simpa using this

theorem cnt_succ (a : Int) (n k j : Nat) : cnt a n (k + 1) j = cnt a n k j + if (a + (k : Int)) % (n : Int) = (j : Int) then 1 else 0 := by
  unfold cnt
  rw [List.range_succ, List.filter_append, List.length_append]
  congr 1
  by_cases h : (a + (k : Int)) % (n : Int) = (j : Int) <;> simp [h]

def row (a : Int) (n k : Nat) : Array Value := ((List.range n).map fun j => Value.int .i64 (cnt a n k j)).toArray

theorem row_zero (a : Int) (n : Nat) : row a n 0 = madeCells #[.int .i64 0] n := by
  apply Array.ext_getElem?
  intro i
  simp [row, madeCells, cnt]
  by_cases h : i < n <;> simp [h, Nat.mod_one]

theorem row_get (a : Int) (n k j : Nat) (h : j < n) : (row a n k)[j]? = some (.int .i64 (cnt a n k j)) := by
  simp [row, h]

theorem row_set (a : Int) (n k m : Nat) (hm : m < n) (he : (a + (k : Int)) % (n : Int) = (m : Int)) :
    (row a n k).setIfInBounds m (.int .i64 ((cnt a n k m : Int) + 1)) = row a n (k + 1) := by
  apply Array.ext_getElem?
  intro i
  rw [Array.getElem?_setIfInBounds]
  by_cases h : m = i
  · subst h
    simp [row, hm, cnt_succ, he]
  · rw [if_neg h]
    by_cases hi : i < n
    · rw [row_get _ _ _ _ hi, row_get _ _ _ _ hi, cnt_succ, if_neg (by omega)]
      simp
    · simp [row, hi]

theorem filter_one (i n : Nat) : ((List.range n).filter (fun k => k == i)).length = if i < n then 1 else 0 := by
  induction n with
  | zero => simp
  | succ n ih =>
    rw [List.range_succ, List.filter_append, List.length_append, ih]
    by_cases h : n = i
    · subst h; simp
    · have : (n == i) = false := by simpa using h
      have e : List.filter (fun k => k == i) [n] = [] := by simp [this]
      rw [e]
      by_cases h1 : i < n
      · have h2 : i < n + 1 := by omega
        simp [h1, h2]
      · have h2 : ¬ i < n + 1 := by omega
        simp [h1, h2]

/-- In as many ticks as there are tenants each has one turn. -/
theorem one_each (a : Int) (n j : Nat) (hj : j < n) : cnt a n n j = 1 := by
  obtain ⟨i, hi⟩ : ∃ i : Nat, (i : Int) = ((j : Int) - a) % (n : Int) := ⟨(((j : Int) - a) % (n : Int)).toNat, by rw [Int.toNat_of_nonneg (Int.emod_nonneg _ (by omega))]⟩
  have hlt : i < n := by have := Int.emod_lt_of_pos ((j : Int) - a) (show (0 : Int) < n by omega); omega
  have key : ∀ k : Nat, k < n → ((a + (k : Int)) % (n : Int) = (j : Int) ↔ k = i) := by
    intro k hk
    constructor
    · intro h
      have h1 : ((j : Int) - a) % (n : Int) = (k : Int) % (n : Int) := by
        rw [← h, Int.emod_sub_emod, show a + (k : Int) - a = k from by omega]
      rw [Int.emod_eq_of_lt (a := (k : Int)) (by omega) (by omega)] at h1
      omega
    · rintro rfl
      rw [hi, Int.add_emod, Int.emod_emod_of_dvd _ (Int.dvd_refl _), ← Int.add_emod, show a + ((j : Int) - a) = j from by omega]
      exact Int.emod_eq_of_lt (by omega) (by omega)
  unfold cnt
  rw [List.filter_congr (q := fun k => k == i), filter_one, if_pos hlt]
  intro k hk
  have := key k (by simpa using hk)
  rw [Bool.eq_iff_iff]
  simpa using this

theorem int_info : (Try.prog.info? 3).map (fun i => (i.zero, i.size, i.bytes)) = some (some (.int .i64 0), 1, 8) := by kernel_rfl

set_option maxRecDepth 100000 in
set_option maxHeartbeats 400000 in
theorem walk (a0 : Int) (a1 : Int) (w : World) (w0 : (Lit.int .i64 a0).wf = true) (w1 : (Lit.int .i64 a1).wf = true) :
    Calls Try.prog 3 #[.int .i64 a0, .int .i64 a1] w fun e w' => e = .returned (.bool true) ∧ Below w.heap.size w w' := by
  have hx := i64_bd w0
  have hy := i64_bd w1
  clear w0 w1
  by_cases hn : a0 < 0 ∨ a1 < 1
  · have HN := Lib.hid hn
    by_cases h0 : a0 < 0
    · clear hn
      go_enter Try.func3, Try.ntmps3
      go_wp2_with fail
      refine (turn_pos 7 3 1 _ (by omega) (by omega) (by omega)).mono ?_
      rintro e w' ⟨rfl, rfl⟩
      go_wp2_with fail
      refine (turn_neg _ _ _ HN.out).mono ?_
      rintro e w' ⟨rfl, rfl⟩
      go_wp2_with fail
      go_ret
      exact ⟨rfl, Below.refl _ _⟩
    · have h1 : a1 < 1 := by omega
      clear hn
      go_enter Try.func3, Try.ntmps3
      go_wp2_with fail
      refine (turn_pos 7 3 1 _ (by omega) (by omega) (by omega)).mono ?_
      rintro e w' ⟨rfl, rfl⟩
      go_wp2_with fail
      refine (turn_neg _ _ _ HN.out).mono ?_
      rintro e w' ⟨rfl, rfl⟩
      go_wp2_with fail
      go_ret
      exact ⟨rfl, Below.refl _ _⟩
  · have h0 : 0 ≤ a0 := by omega
    obtain ⟨n, rfl⟩ := Int.eq_ofNat_of_zero_le (show 0 ≤ a1 by omega)
    have h1 : (1 : Int) ≤ (n : Int) := by omega
    clear hn
    obtain ⟨i0, hi, hz0, hz1, hz2⟩ := info_parts int_info
    go_enter Try.func3, Try.ntmps3
    go_wp2_with fail
    refine (turn_pos 7 3 1 _ (by omega) (by omega) (by omega)).mono ?_
    rintro e w' ⟨rfl, rfl⟩
    go_wp2_with fail
    go_quiet ((go_at_call 15; exact quiet_left (turn_pos _ _ _ _ h0 h1 rfl)))
    by_cases hb1 : (50 : Int) < (n : Int)
    · go_wp2_with fail
      go_ret
      exact ⟨rfl, below_drewN (Below.refl _ _) _⟩
    by_cases hb2 : (4611686018427387904 : Int) < a0
    · go_wp2_with fail
      go_ret
      exact ⟨rfl, below_drewN (Below.refl _ _) _⟩
    have hb1' : n ≤ 50 := by omega
    have hb2' : a0 ≤ 4611686018427387904 := by omega
    clear hb1 hb2
    have hmk := fun W => run_make_rowN (P := Try.prog) 23 3 i0 (.int .i64 0) Try.underlying23 hi hz0 .i64 .i64 n n (Nat.le_refl _) (by rw [hz2]; omega) (by omega) W
    rw [hz1] at hmk
    clear hi hz0 hz1 hz2
    go_wp2_with fail
    clear hmk
    go_loopw [37] (fun i wr => ∃ k : Nat, k ≤ n ∧ i = .int .i64 k ∧ Blk wr w.heap.size 3 (row a0 n k) ∧ Below w.heap.size w wr)
      (fun i _ => n - (intOf i).toNat)
    case atStart => exact ⟨0, by omega, rfl, by rw [row_zero]; exact Blk.new (w.drewN nq) _ _, (below_drewN (Below.refl _ _) _).alloc (Nat.le_refl _) _⟩
    case round =>
      obtain ⟨k, hk, rfl, hblk, hbel⟩ := hrel
      by_cases hlt : k < n
      · obtain ⟨m, hm⟩ : ∃ m : Nat, (m : Int) = (a0 + (k : Int)) % (n : Int) := ⟨((a0 + (k : Int)) % (n : Int)).toNat, by rw [Int.toNat_of_nonneg (Int.emod_nonneg _ (by omega))]⟩
        have hmn : m < n := by have := Int.emod_lt_of_pos (a0 + (k : Int)) (show (0 : Int) < n by omega); omega
        have HM := Lib.hid hm
        clear hm
        have hc : wr.cell? ⟨w.heap.size, m, none⟩ = some (.int .i64 (cnt a0 n k m)) := by rw [hblk.cell, row_get _ _ _ _ hmn]
        have hf : wr.frozen? ⟨w.heap.size, m, none⟩ = false := hblk.frozen m
        have hcl := cnt_le a0 n k m
        have HB := Lib.hid hblk
        have HL := Lib.hid hbel
        clear hblk hbel
        go_wp2_with fail
        refine (turn_pos _ _ (m : Int) _ (by omega) (by omega) HM.out.symm).mono ?_
        rintro e w' ⟨rfl, rfl⟩
        go_wp2_with fail
        go_roundw
        case rel =>
          refine ⟨k + 1, by omega, by go_num, ?_, HL.out.setCell (Nat.le_refl _) _⟩
          rw [← row_set a0 n k m hmn HM.out.symm]
          exact HB.out.set_ m _
        case measure => simp [intOf]; omega
      · obtain rfl : k = n := by omega
        have HB := Lib.hid hblk
        clear hblk
        go_wp2_with fail
        go_loop [53] (fun i => ∃ j : Nat, j ≤ k ∧ i = .int .i64 j) (fun i => k - (intOf i).toNat)
        case atStart => exact ⟨0, by omega, rfl⟩
        case round =>
          obtain ⟨j, hj, rfl⟩ := hrel
          by_cases hjk : j < k
          · have hc : wr.cell? ⟨w.heap.size, j, none⟩ = some (.int .i64 1) := by rw [HB.out.cell, row_get _ _ _ _ hjk, one_each a0 k j hjk]; rfl
            go_wp2_with fail
            go_round
            case rel => exact ⟨j + 1, by omega, by go_num⟩
            case measure => simp [intOf]; omega
          · go_wp2_with fail
            go_ret
            exact ⟨rfl, hbel⟩
end Go.Proofs.Ytjceikdkgghohaa.queueTurns
