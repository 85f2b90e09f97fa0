/-
  chap.Draws: draws from a number on, as an iterator.
-/
import Derived.WalkMore
import Derived.Test.YtbjiokjmidipaaaDraw
namespace Go.Proofs.Ytbjiokjmidipaaa
open Go.RowKit Go.Shelf
set_option linter.unusedVariables false
set_option linter.unusedSimpArgs false
set_option maxRecDepth 100000

/-- The number behind k steps. -/
def nth (fr : Int) (k : Nat) : Int := wrap64 (fr + (k : Int))

set_option maxHeartbeats 4000000 in
theorem draws_iter {w : World} {p1 p2 : Nat} {fr seed : Int} (b1 : Blk w p1 3 #[.int .i64 fr]) (b2 : Blk w p2 3 #[.int .i64 seed]) :
    Iter Try.prog 64 #[.pointer (some ⟨p1, 0, none⟩), .pointer (some ⟨p2, 0, none⟩)] (fun j : Nat => #[Value.int .i64 (nth fr j), Value.agg (arr8 (drawOf seed (nth fr j)))]) (fun k => k ≠ p1 ∧ k ≠ p2)
      (fun pre x W => x = pre.length ∧ x < 4096) (fun xs => xs = upTo 4096) (fun pre => ∃ k, k < 4096 ∧ pre = upTo (k + 1)) w := by
  intro l J Jx O W hW hJ hJx hO hY h0
  refine callsIn_wide.2 ?_
  show Calls _ _ #[.func (.yield l) #[] #[], .pointer (some ⟨p1, 0, none⟩), .pointer (some ⟨p2, 0, none⟩)] _ _
  have HY := Lib.hid hY
  have HB1 := Lib.hid (b1.below hW b1.lt)
  have HB2 := Lib.hid (b2.below hW b2.lt)
  have HJ := Lib.hid hJ
  have ho1 : ¬ O p1 := fun h => (hO _ h).1.1 rfl
  have ho2 : ¬ O p2 := fun h => (hO _ h).1.2 rfl
  clear hY b1 b2 hJ hO
  go_enter Try.func64, Try.ntmps64
  go_wp2_with fail
  go_step3
  go_wp2_with fail
  go_step3
  go_wp2_with fail
  go_loopw [5] (fun v5 wr => ∃ (k : Nat) (O : Nat → Prop), k ≤ 4096 ∧ v5 = .int .i64 (k : Int) ∧ J O (upTo k) wr ∧ ¬ O p1 ∧ ¬ O p2 ∧ Blk wr p1 3 #[.int .i64 fr] ∧ Blk wr p2 3 #[.int .i64 seed] ∧ W.heap.size ≤ wr.heap.size) (fun v5 _ => 4096 - (intOf v5).toNat)
  case atStart => exact ⟨0, O, by omega, rfl, h0, ho1, ho2, HB1.out, HB2.out, Nat.le_refl _⟩
  case round =>
    clear HB1 HB2 h0 ho1 ho2
    obtain ⟨k, O, hk, rfl, hj, ho1, ho2, C1, C2, hz⟩ := hrel
    by_cases hlt : k < 4096
    · have hi1 : (k : Int) < 4096 := by omega
      have hi0 : (0 : Int) ≤ (k : Int) := by omega
      have HC1 := Lib.hid C1
      have HC2 := Lib.hid C2
      have HJ0 := Lib.hid hj
      clear C1 C2 hj
      go_wp2_with fail
      refine (wpIn_wide (n := 4)).1 ?_
      refine wpIn_region_rel free_wide rfl 9 (fun W W' => Below W.heap.size W W') (fun W => Below wr.heap.size wr W)
        [Det (.func (.yield l) #[] #[]), Det (.int .i64 fr), Det (.int .i64 (k : Int)), Det (.int .i64 (nth fr k)), Det (.int .i64 seed), Det (.int .i64 fr), Det (.int .i64 (k : Int)), Det (.int .i64 (nth fr k)), Det (.agg (arr8 (drawOf seed (nth fr k)))), Any, Any]
        [[], [], [], [(1, some 9), (2, some 10)], [], [], [], [(5, some 13), (6, some 14)], [(4, some 12), (7, some 15)], [(0, some 8), (3, some 11), (8, some 16)], [(9, some 17)]]
        [[], [], [], [1, 2], [], [], [], [5, 6], [4, 5, 6, 7], [0, 1, 2, 3, 4, 5, 6, 7, 8], [0, 1, 2, 3, 4, 5, 6, 7, 8, 9]]
        [(0, some 8), (1, some 9), (2, some 10), (3, some 11), (4, some 12), (5, some 13), (6, some 14), (7, some 15), (8, some 16), (9, some 17), (10, some 18)] (by kernel_rfl) (by kernel_rfl) (by kernel_rfl) (fun W W' h1 h2 => h1.trans (h2.mono h1.size)) ((Below.refl _ _).drew) ?_ ?_ ?_
      · exact (AllMono.cons Det.later (AllMono.cons Det.later (AllMono.cons Det.later (AllMono.cons Det.later (AllMono.cons Det.later (AllMono.cons Det.later (AllMono.cons Det.later (AllMono.cons Det.later (AllMono.cons Det.later (AllMono.cons Any.later (AllMono.cons Any.later AllMono.nil)))))))))))
      · refine AllOb.cons ?_ (AllOb.cons ?_ (AllOb.cons ?_ (AllOb.cons ?_ (AllOb.cons ?_ (AllOb.cons ?_ (AllOb.cons ?_ (AllOb.cons ?_ (AllOb.cons ?_ (AllOb.nil)))))))))
        · intro uF W hC' hU aF hF
          have hC : Below wr.heap.size wr W := hC'
          clear hC'
          simp only [puts] at hF
          subst hF
          go_wp2_with (fail)
          exact ⟨rfl, rfl, (Below.refl _ _), rfl⟩
        · intro uF W hC' hU aF hF
          have hC : Below wr.heap.size wr W := hC'
          clear hC'
          simp only [puts] at hF
          subst hF
          have d1 : W.cell? ⟨p1, 0, none⟩ = some (.int .i64 fr) := by rw [(HC1.out.below hC HC1.out.lt).cell]; rfl
          go_wp2_with (fail)
          exact ⟨rfl, rfl, (Below.refl _ _), rfl⟩
        · intro uF W hC' hU aF hF
          have hC : Below wr.heap.size wr W := hC'
          clear hC'
          simp only [puts] at hF
          subst hF
          go_wp2_with (fail)
          exact ⟨rfl, rfl, (Below.refl _ _), rfl⟩
        · intro uF W hC' hU aF hF
          have hC : Below wr.heap.size wr W := hC'
          clear hC'
          have h9 : (Det (.int .i64 fr)) (uF 1) W := hU.1
          have h10 : (Det (.int .i64 (k : Int))) (uF 2) W := hU.2.1
          clear hU
          simp only [puts, Act.put, List.setIfInBounds_toArray, List.set_cons_zero, List.set_cons_succ] at hF
          generalize uF 1 = x9 at h9 hF
          generalize uF 2 = x10 at h10 hF
          obtain rfl : x9 = (.int .i64 fr) := h9
          obtain rfl : x10 = (.int .i64 (k : Int)) := h10
          subst hF
          go_wp2_with (fail)
          exact ⟨rfl, rfl, (Below.refl _ _), rfl⟩
        · intro uF W hC' hU aF hF
          have hC : Below wr.heap.size wr W := hC'
          clear hC'
          simp only [puts] at hF
          subst hF
          have d1 : W.cell? ⟨p2, 0, none⟩ = some (.int .i64 seed) := by rw [(HC2.out.below hC HC2.out.lt).cell]; rfl
          go_wp2_with (fail)
          exact ⟨rfl, rfl, (Below.refl _ _), rfl⟩
        · intro uF W hC' hU aF hF
          have hC : Below wr.heap.size wr W := hC'
          clear hC'
          simp only [puts] at hF
          subst hF
          have d1 : W.cell? ⟨p1, 0, none⟩ = some (.int .i64 fr) := by rw [(HC1.out.below hC HC1.out.lt).cell]; rfl
          go_wp2_with (fail)
          exact ⟨rfl, rfl, (Below.refl _ _), rfl⟩
        · intro uF W hC' hU aF hF
          have hC : Below wr.heap.size wr W := hC'
          clear hC'
          simp only [puts] at hF
          subst hF
          go_wp2_with (fail)
          exact ⟨rfl, rfl, (Below.refl _ _), rfl⟩
        · intro uF W hC' hU aF hF
          have hC : Below wr.heap.size wr W := hC'
          clear hC'
          have h13 : (Det (.int .i64 fr)) (uF 5) W := hU.1
          have h14 : (Det (.int .i64 (k : Int))) (uF 6) W := hU.2.1
          clear hU
          simp only [puts, Act.put, List.setIfInBounds_toArray, List.set_cons_zero, List.set_cons_succ] at hF
          generalize uF 5 = x13 at h13 hF
          generalize uF 6 = x14 at h14 hF
          obtain rfl : x13 = (.int .i64 fr) := h13
          obtain rfl : x14 = (.int .i64 (k : Int)) := h14
          subst hF
          go_wp2_with (fail)
          exact ⟨rfl, rfl, (Below.refl _ _), rfl⟩
        · intro uF W hC' hU aF hF
          have hC : Below wr.heap.size wr W := hC'
          clear hC'
          have h12 : (Det (.int .i64 seed)) (uF 4) W := hU.1
          have h15 : (Det (.int .i64 (nth fr k))) (uF 7) W := hU.2.1
          clear hU
          simp only [puts, Act.put, List.setIfInBounds_toArray, List.set_cons_zero, List.set_cons_succ] at hF
          generalize uF 4 = x12 at h12 hF
          generalize uF 7 = x15 at h15 hF
          obtain rfl : x12 = (.int .i64 seed) := h12
          obtain rfl : x15 = (.int .i64 (nth fr k)) := h15
          subst hF
          go_wp2_with ((go_at_call 43; refine (draw_c seed (nth fr k) _).mono ?_; rintro e W1 ⟨rfl, hb⟩))
          exact ⟨rfl, rfl, hb, rfl⟩
      intro uF W5 hC' hU aF hF
      have hCW5 : Below wr.heap.size wr W5 := hC'
      clear hC'
      have h8 : (Det (.func (.yield l) #[] #[])) (uF 0) W5 := hU.1
      have h11 : (Det (.int .i64 (nth fr k))) (uF 3) W5 := hU.2.2.2.1
      have h16 : (Det (.agg (arr8 (drawOf seed (nth fr k))))) (uF 8) W5 := hU.2.2.2.2.2.2.2.2.1
      clear hU
      simp only [List.take_succ_cons, List.take_zero, puts, Act.put, List.setIfInBounds_toArray, List.set_cons_zero, List.set_cons_succ] at hF
      generalize uF 0 = x8 at h8 hF
      generalize uF 1 = x9 at hF
      generalize uF 2 = x10 at hF
      generalize uF 3 = x11 at h11 hF
      generalize uF 4 = x12 at hF
      generalize uF 5 = x13 at hF
      generalize uF 6 = x14 at hF
      generalize uF 7 = x15 at hF
      generalize uF 8 = x16 at h16 hF
      obtain rfl : x8 = (.func (.yield l) #[] #[]) := h8
      obtain rfl : x11 = (.int .i64 (nth fr k)) := h11
      obtain rfl : x16 = (.agg (arr8 (drawOf seed (nth fr k)))) := h16
      subst hF
      simp only [List.drop_succ_cons, List.drop_zero]
      have hj5 : J O (upTo k) W5 := OwnFrom.calm (HJ.out O) HJ0.out (Calm.of_below hCW5)
      obtain ⟨fn, tmps, assign, body, hy, hR⟩ := HY.out O (upTo k) k W5 hj5 ⟨(len_upTo k).symm, hlt⟩
      have k5 : Kept O O wr W5 := Kept.below hCW5
      have HR := Lib.hid hR
      clear hR hj5
      gi_wp2
      refine HR.out.mono ?_
      rintro e W3 (⟨rfl, O3, hJ3, hk3⟩ | ⟨rfl, _, hJx3⟩)
      · have kk := k5.trans hk3
        have E1 := Lib.hid (kk.blk HC1.out ho1)
        have E2 := Lib.hid (kk.blk HC2.out ho2)
        have e1 := kk.far HC1.out.lt ho1
        have e2 := kk.far HC2.out.lt ho2
        have EJ := Lib.hid hJ3
        have ez := Nat.le_trans hz kk.size
        clear hJ3 hk3 kk k5
        gi_wp2
        go_wp2_with fail
        exact ⟨⟨k + 1, O3, by omega, by go_num, by rw [upTo_succ]; exact EJ.out, e1, e2, E1.out, E2.out, ez⟩, by simp [intOf]; omega⟩
      · gi_wp2
        go_wp2_with fail
        unfold Exit.noGoto
        go_end0
        exact ⟨⟨_, rfl⟩, .inr ⟨_, ⟨k, hlt, rfl⟩, by rw [upTo_succ]; exact hJx3⟩⟩
    · obtain rfl : k = 4096 := by omega
      have HJ0 := Lib.hid hj
      clear hj
      go_wp2_with fail
      unfold Exit.noGoto
      go_end0
      exact ⟨⟨_, rfl⟩, .inl ⟨O, _, rfl, HJ0.out⟩⟩

theorem fold_two (p q : Tmp) (v u : Value) (t : Array Value) : ((#[p, q].zip #[v, u]).foldl (fun t (x : Tmp × Value) => match x with | (p, v) => t.setIfInBounds p v) t) = (t.setIfInBounds p v).setIfInBounds q u := by simp
theorem nth_wf (fr : Int) (k : Nat) : (Lit.int .i64 (nth fr k)).wf = true := wrap64_wf _
theorem nth_succ (fr : Int) (k : Nat) : wrap64 (nth fr k + 1) = nth fr (k + 1) := by unfold nth wrap64; omega
theorem nth_zero {fr : Int} (h : (Lit.int .i64 fr).wf = true) : nth fr 0 = fr := by
  have := i64_bd h
  unfold nth wrap64; omega
theorem nth_nth (fr : Int) (k j : Nat) : nth (nth fr k) j = nth fr (k + j) := by unfold nth wrap64; omega

theorem draws_c (seed fr : Int) (w : World) : Calls Try.prog 41 #[.int .i64 seed, .int .i64 fr] w fun e w' => e = .returned (.func (.func 64) #[] #[.pointer (some ⟨w.heap.size + 1, 0, none⟩), .pointer (some ⟨w.heap.size, 0, none⟩)]) ∧
    Blk w' (w.heap.size + 1) 3 #[.int .i64 fr] ∧ Blk w' w.heap.size 3 #[.int .i64 seed] ∧ Below w.heap.size w w' ∧ w'.heap.size = w.heap.size + 2 := by
  have b1 := (Blk.new w 3 #[.int .i64 seed]).alloc (.cells #[.int .i64 fr] 3)
  have b2 := Blk.new (w.alloc (.cells #[.int .i64 seed] 3)) 3 #[.int .i64 fr]
  rw [World.size_alloc] at b2
  have hb := below_alloc w (.cells #[.int .i64 seed] 3)
  have hb2 := hb.alloc hb.size (.cells #[.int .i64 fr] 3)
  go_enter Try.func41, Try.ntmps41
  go_wp2_with fail
  go_ret
  exact ⟨rfl, b2, b1, hb2, by simp⟩
end Go.Proofs.Ytbjiokjmidipaaa

