/-
  tree.Path: the numbers of a block's path, as an iterator.
-/
import Derived.WalkMore
import Derived.Test.YtdifepfplfkfoaaBase
import Derived.Test.YtdifepfplfkfoaaDigB
namespace Go.Proofs.Ytdifepfplfkfoaa
open Go.RowKit Go.Shelf
set_option linter.unusedVariables false
set_option linter.unusedSimpArgs false
set_option maxRecDepth 100000

theorem has_c (b : Int) (r : Bool) (hr : decide (0 ≤ b ∧ b < 16) = r) (w : World) : Calls Try.prog 45 #[.int .i64 b] w fun e w' => e = .returned (.bool r) ∧ w = w' := by
  by_cases h0 : 0 ≤ b
  · by_cases h1 : b < 16
    · obtain rfl : r = true := by rw [← hr]; exact decide_eq_true ⟨h0, h1⟩
      go_enter Try.func45, Try.ntmps45
      go_wp2_with fail
      go_ret
      exact ⟨rfl, rfl⟩
    · obtain rfl : r = false := by rw [← hr]; exact decide_eq_false (fun h => h1 h.2)
      go_enter Try.func45, Try.ntmps45
      go_wp2_with fail
      go_ret
      exact ⟨rfl, rfl⟩
  · obtain rfl : r = false := by rw [← hr]; exact decide_eq_false (fun h => h0 h.1)
    go_enter Try.func45, Try.ntmps45
    go_wp2_with fail
    go_ret
    exact ⟨rfl, rfl⟩

/-- How many numbers a path has; which. -/
def pathLen (b : Int) : Nat := if 0 ≤ b ∧ b < 16 then 5 else 0
def pathAt (b : Int) (j : Nat) : Nat := (16 + b.toNat) / 2 ^ j
theorem pathAt_zero (b : Int) : pathAt b 0 = 16 + b.toNat := by simp [pathAt]
theorem pathAt_succ (b : Int) (j : Nat) : pathAt b (j + 1) = pathAt b j / 2 := by rw [pathAt, pathAt, Nat.pow_succ, Nat.div_div_eq_div_mul]
theorem pathAt_le {b : Int} (hb : 0 ≤ b ∧ b < 16) (j : Nat) : pathAt b j ≤ 31 := Nat.le_trans (Nat.div_le_self _ _) (by omega)
theorem pathAt_pos {b : Int} (hb : 0 ≤ b ∧ b < 16) {j : Nat} (hj : j < 5) : 0 < pathAt b j := by
  rw [pathAt]
  refine Nat.div_pos ?_ (Nat.two_pow_pos j)
  have : 2 ^ j ≤ 2 ^ 4 := Nat.pow_le_pow_right (by omega) (by omega)
  omega
theorem pathAt_five {b : Int} (hb : 0 ≤ b ∧ b < 16) : pathAt b 5 = 0 := by rw [pathAt]; omega

set_option maxHeartbeats 4000000 in
theorem path_iter {w : World} {p1 : Nat} {b : Int} (hw : (Lit.int .i64 b).wf = true) (b1 : Blk w p1 3 #[.int .i64 b]) :
    Iter Try.prog 44 #[.pointer (some ⟨p1, 0, none⟩)] (fun j : Nat => #[Value.int .i64 (pathAt b j : Int)]) (fun k => k ≠ p1)
      (fun pre x W => x = pre.length ∧ x < pathLen b) (fun xs => xs = upTo (pathLen b)) (fun pre => ∃ k, k < pathLen b ∧ pre = upTo (k + 1)) w := by
  intro l J Jx O W hW hJ hJx hO hY h0
  refine callsIn_wide.2 ?_
  show Calls _ _ #[.func (.yield l) #[] #[], .pointer (some ⟨p1, 0, none⟩)] _ _
  have HY := Lib.hid hY
  have hB1 := b1.below hW b1.lt
  have d0 : W.cell? ⟨p1, 0, none⟩ = some (.int .i64 b) := by rw [hB1.cell]; rfl
  have HB1 := Lib.hid hB1
  have HJ := Lib.hid hJ
  have ho1 : ¬ O p1 := fun h => (hO _ h).1 rfl
  have hbd := i64_bd hw
  clear hY b1 hJ hO hB1
  by_cases hb : 0 ≤ b ∧ b < 16
  · have hlen : pathLen b = 5 := if_pos hb
    rw [hlen] at HY ⊢
    obtain ⟨N, hN⟩ : ∃ N : Nat, N = 16 + b.toNat := ⟨_, rfl⟩
    have hNi : 16 + b = (N : Int) := by omega
    have HN0 := Lib.hid (show N = pathAt b 0 by rw [hN, pathAt_zero])
    clear hN
    have hb0 : 0 ≤ b := hb.1
    have hb1 : b < 16 := hb.2
    have HB := Lib.hid hb
    have hdb : decide (0 ≤ b ∧ b < 16) = true := decide_eq_true hb
    have HDB := Lib.hid hdb
    clear hdb hb
    go_enter Try.func44, Try.ntmps44
    go_wp2_with fail
    go_step3
    go_wp2_with fail
    go_step3
    go_wp2_with fail
    go_loopw [3] (fun v3 wr => ∃ (k i : Nat) (O : Nat → Prop), k ≤ 5 ∧ i = pathAt b k ∧ v3 = .int .i64 (i : Int) ∧ J O (upTo k) wr ∧ ¬ O p1 ∧ Blk wr p1 3 #[.int .i64 b] ∧ W.heap.size ≤ wr.heap.size) (fun v3 _ => (intOf v3).toNat)
    case atStart => exact ⟨0, N, O, by omega, HN0.out, rfl, h0, ho1, HB1.out, Nat.le_refl _⟩
    case round =>
      clear HB1 h0 ho1 d0 hNi
      obtain ⟨k, i, O, hk, hik, rfl, hj, ho1, C1, hz⟩ := hrel
      have hi31 : i ≤ 31 := by rw [hik]; exact pathAt_le HB.out k
      have hii : (i : Int) ≤ 31 := by omega
      have hi0 : (0 : Int) ≤ (i : Int) := by omega
      have d1 : wr.cell? ⟨p1, 0, none⟩ = some (.int .i64 b) := by rw [C1.cell]; rfl
      by_cases hlt : k < 5
      · have hpos : 0 < i := by rw [hik]; exact pathAt_pos HB.out hlt
        have hpi : (0 : Int) < (i : Int) := by omega
        have HIK := Lib.hid hik
        have HC1 := Lib.hid C1
        have HJ0 := Lib.hid hj
        obtain ⟨q, hq⟩ : ∃ q, q = i / 2 := ⟨_, rfl⟩
        have htd : ((i : Int)).tdiv 2 = (q : Int) := by rw [Int.tdiv_eq_ediv_of_nonneg (by omega), hq]; rfl
        have hed : (i : Int) / 2 = (q : Int) := by rw [hq]; rfl
        have HQ := Lib.hid (show q = pathAt b (k + 1) by rw [pathAt_succ, ← hik, hq])
        have HQ2 := Lib.hid (show q < i by omega)
        clear C1 hj hik hq
        refine wp_seq_k fun K' hK' => ?_
        have HK' := Lib.hid hK'
        clear hK'
        go_wp2_with (go_at_call 45; refine (has_c b true HDB.out _).mono ?_; rintro e w2 ⟨rfl, rfl⟩)
        refine HK'.out _ _ ?_
        refine (wpIn_wide (n := 4)).1 ?_
        obtain ⟨fn, tmps, assign, body, hy, hR⟩ := HY.out O (upTo k) k wr HJ0.out ⟨(len_upTo k).symm, hlt⟩
        rw [← HIK.out] at hy
        have HR := Lib.hid hR
        clear hR
        gi_wp2
        refine HR.out.mono ?_
        rintro e W3 (⟨rfl, O3, hJ3, hk3⟩ | ⟨rfl, _, hJx3⟩)
        · have E1 := Lib.hid (hk3.blk HC1.out ho1)
          have e1 := hk3.far HC1.out.lt ho1
          have EJ := Lib.hid hJ3
          have ez := Nat.le_trans hz hk3.size
          clear hJ3 hk3
          gi_wp2
          go_wp2_with fail
          exact ⟨⟨k + 1, q, O3, by omega, HQ.out, rfl, by rw [upTo_succ]; exact EJ.out, e1, E1.out, ez⟩, by have := HQ2.out; simp [intOf]; omega⟩
        · gi_wp2
          go_wp2_with fail
          unfold Exit.noGoto
          go_end0
          exact ⟨⟨_, rfl⟩, .inr ⟨_, ⟨k, hlt, rfl⟩, by rw [upTo_succ]; exact hJx3⟩⟩
      · obtain rfl : k = 5 := by omega
        have h5 : i = 0 := by rw [hik]; exact pathAt_five HB.out
        subst h5
        have HJ0 := Lib.hid hj
        clear hj hik
        have hpi : ¬ (0 : Int) < ((0 : Nat) : Int) := by omega
        go_wp2_with (go_at_call 45; refine (has_c b true HDB.out _).mono ?_; rintro e w2 ⟨rfl, rfl⟩)
        unfold Exit.noGoto
        go_end0
        exact ⟨⟨_, rfl⟩, .inl ⟨O, _, rfl, HJ0.out⟩⟩
  · have hlen : pathLen b = 0 := if_neg hb
    rw [hlen]
    have HDB := Lib.hid (show decide (0 ≤ b ∧ b < 16) = false from decide_eq_false hb)
    clear hb
    go_enter Try.func44, Try.ntmps44
    go_wp2_with fail
    go_step3
    go_wp2_with fail
    go_step3
    go_wp2_with fail
    refine wp_loop_rounds 1 ?_
    rw [rounds_succ]
    go_wp2_with (go_at_call 45; refine (has_c b false HDB.out _).mono ?_; rintro e w2 ⟨rfl, rfl⟩)
    unfold Exit.noGoto
    go_end0
    exact ⟨⟨_, rfl⟩, .inl ⟨O, _, rfl, h0⟩⟩

theorem path_c (b : Int) (w : World) : Calls Try.prog 26 #[.int .i64 b] w fun e w' => e = .returned (.func (.func 44) #[] #[.pointer (some ⟨w.heap.size, 0, none⟩)]) ∧ w' = w.alloc (.cells #[.int .i64 b] 3) := by
  go_enter Try.func26, Try.ntmps26
  go_wp2_with fail
  go_ret
  exact ⟨rfl, rfl⟩
end Go.Proofs.Ytdifepfplfkfoaa
