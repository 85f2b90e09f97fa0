/-
  slices.Chunk at pieces of 64 bytes, of a row whose length is a multiple of 64: its iterator.
-/
import Derived.Test.YtbphoilfiahnpaaRng
import Derived.Test.YtbphoilfiahnpaaByt3
namespace Go.Proofs.Ytbphoilfiahnpaa
open Go.RowKit Go.Shelf
set_option linter.unusedVariables false
set_option maxRecDepth 100000
attribute [local go_sem] Oper.semAt_some

theorem chunk_c (A : Option Addr) (n c : Nat) (w : World) :
    Calls Try.prog 61 #[.slice A n c, .int .i64 64] w fun e w' => e = .returned (.func (.func 71) #[] #[.pointer (some ⟨w.heap.size, 0, none⟩), .pointer (some ⟨w.heap.size + 1, 0, none⟩)]) ∧
      (w.alloc (.cells #[.slice A n c] 31)).alloc (.cells #[.int .i64 64] 3) = w' := by
  go_enter Try.func61, Try.ntmps61
  go_wp2_with fail
  go_ret
  exact ⟨rfl, rfl⟩

/-- 's[i:j:j]'. -/
theorem slice3_run (g off n c i j m : Nat) (h1 : i < j) (h2 : j ≤ c) (hm : j - i = m) (I J : Int) (hI : I = i) (hJ : J = j) (W : World) :
    (Instr.sliceAt 31 (.slice (some ⟨g, off, none⟩) n c) (some (.int .i64 I)) (some (.int .i64 J)) (some (.int .i64 J))).run Try.prog W = .ok (.slice (some ⟨g, off + i, none⟩) m m) W := by
  subst hm hI hJ
  have he : Try.prog.underlying 31 = some (.slice (Try.prog.elem 31)) := by rw [bytes_elem]; exact Try.underlying31
  have hs : (sizeOf (Try.prog.elem 31)).run Try.prog W = .ok 1 W := by rw [bytes_elem]; kernel_rfl
  rw [run_sliceAt_slice W _ _ _ _ _ he, run_slice_lhm W _ _ n c he .i64 .i64 .i64 (i : Int) (j : Int) (j : Int) (by omega) (by omega) (by omega) (by omega), hs]
  have e : j ≠ i := by omega
  simp [Result.andThen, sliced, Addr.add, e]
/-- 's[i:]'. -/
theorem slice1_run (g off n c i : Nat) (h1 : i ≤ n) (h2 : i < c) (W : World) :
    (Instr.sliceAt 31 (.slice (some ⟨g, off, none⟩) n c) (some (.int .i64 (i : Int))) none none).run Try.prog W = .ok (.slice (some ⟨g, off + i, none⟩) (n - i) (c - i)) W := by
  have he : Try.prog.underlying 31 = some (.slice (Try.prog.elem 31)) := by rw [bytes_elem]; exact Try.underlying31
  have hs : (sizeOf (Try.prog.elem 31)).run Try.prog W = .ok 1 W := by rw [bytes_elem]; kernel_rfl
  rw [run_sliceAt_slice W _ _ _ _ _ he, run_slice_l W _ _ n c he .i64 (i : Int) (by omega) (by omega), hs]
  have e : c ≠ i := by omega
  simp [Result.andThen, sliced, Addr.add, e]

/-- What has come: the numbers of the first k pieces. -/
def upTo (k : Nat) : List Nat := List.range k
theorem upTo_succ (k : Nat) : upTo (k + 1) = upTo k ++ [k] := by simp [upTo, List.range_succ]
theorem len_upTo (k : Nat) : (upTo k).length = k := by simp [upTo]

set_option maxHeartbeats 2000000 in
theorem chunk_iter {w : World} {p1 p2 g off N c : Nat} (b1 : Blk w p1 31 #[.slice (some ⟨g, off, none⟩) (64 * N) c]) (b2 : Blk w p2 3 #[.int .i64 64])
    (hc : 64 * N ≤ c) (hcn : 64 * N ≤ 9223372036854775000) (hcm : c ≤ 9223372036854775807) :
    Iter Try.prog 71 #[.pointer (some ⟨p1, 0, none⟩), .pointer (some ⟨p2, 0, none⟩)] (fun j : Nat => #[Value.slice (some ⟨g, off + 64 * j, none⟩) 64 64]) (fun k => k ≠ p1 ∧ k ≠ p2)
      (fun pre x W => x = pre.length ∧ x < N) (fun xs => xs = upTo N) (fun pre => ∃ k, k < N ∧ pre = upTo (k + 1)) w := by
  intro l J Jx O W hW hJ hJx hO hY h0
  refine callsIn_of_wp Try.func71 rfl trivial ?_ rfl
  simp only [Try.ntmps71, List.size_toArray, List.length_cons, List.length_nil, Nat.reduceAdd, Nat.reduceSub, Array.replicate_succ, Array.replicate_zero, List.push_toArray, List.append_toArray, List.nil_append, List.cons_append]
  have B1 := b1.below hW b1.lt
  have B2 := b2.below hW b2.lt
  obtain ⟨n, hn⟩ : ∃ n, n = 64 * N := ⟨_, rfl⟩
  rw [← hn] at hc hcn B1
  have HN := Lib.hid hn
  have HY := Lib.hid hY
  have HB1 := Lib.hid B1
  have HB2 := Lib.hid B2
  have HJ := Lib.hid hJ
  have ho1 : ¬ O p1 := fun h => (hO _ h).1.1 rfl
  have ho2 : ¬ O p2 := fun h => (hO _ h).1.2 rfl
  clear hn hY b1 b2 B1 B2 hW hJ hO
  gi_wp2
  gi_loopw [4] (fun v4 wr => ∃ (k i : Nat) (O : Nat → Prop), k ≤ N ∧ i = 64 * k ∧ i ≤ n ∧ v4 = .int .i64 (i : Int) ∧ J O (upTo k) wr ∧ ¬ O p1 ∧ ¬ O p2 ∧ Blk wr p1 31 #[.slice (some ⟨g, off, none⟩) n c] ∧ Blk wr p2 3 #[.int .i64 64]) (fun v4 _ => n - (intOf v4).toNat)
  case atStart => exact ⟨0, 0, O, by omega, rfl, by omega, rfl, h0, ho1, ho2, HB1.out, HB2.out⟩
  case round =>
    clear HB1 HB2 ho1 ho2 h0
    obtain ⟨k, i, O, hk, hi, hin, rfl, hj, ho1, ho2, C1, C2⟩ := hrel
    have d1 : wr.cell? ⟨p1, 0, none⟩ = some (.slice (some ⟨g, off, none⟩) n c) := by rw [C1.cell]; rfl
    have d2 : wr.cell? ⟨p2, 0, none⟩ = some (.int .i64 64) := by rw [C2.cell]; rfl
    have HC1 := Lib.hid C1
    have HC2 := Lib.hid C2
    clear C1 C2
    by_cases hlt : k < N
    · have hi64 : i + 64 ≤ n := by have := HN.out; omega
      have hil : (i : Int) < (n : Int) := by omega
      have hs1 := slice1_run g off n c i (by omega) (by omega)
      have hs3 := slice3_run g off n c i (i + 64) 64 (by omega) (by omega) (by omega) (i : Int) ((i : Int) + 64) rfl (by omega)
      have hmin : (64 : Int) ≤ ((n - i : Nat) : Int) := by omega
      have hjd : ∀ m, J O (upTo k) (wr.drewN m) := fun m => HJ.out O _ _ _ none hj ⟨rfl, rfl, rfl, Nat.le_refl _, fun _ _ _ => rfl⟩ (fun r e => by cases e)
      have HJD := Lib.hid hjd
      have HI := Lib.hid hi
      clear hi hjd hj
      gi_wp2
      refine wpIn_wide.2 ?_
      go_quiet (fail)
      obtain ⟨w2, hw2⟩ : ∃ w2, w2 = wr.drewN nq := ⟨_, rfl⟩
      rw [← hw2]
      have d1 : w2.cell? ⟨p1, 0, none⟩ = some (.slice (some ⟨g, off, none⟩) n c) := by rw [hw2]; exact d1
      have hj2 : J O (upTo k) w2 := by rw [hw2]; exact HJD.out nq
      have D1 : Blk w2 p1 31 #[.slice (some ⟨g, off, none⟩) n c] := by rw [hw2]; exact HC1.out
      have D2 : Blk w2 p2 3 #[.int .i64 64] := by rw [hw2]; exact HC2.out
      have HD1 := Lib.hid D1
      have HD2 := Lib.hid D2
      clear hw2 HC1 HC2 d2 HJD hs1 D1 D2
      obtain ⟨fn, tmps, assign, body, hy, hR⟩ := HY.out O (upTo k) k w2 hj2 ⟨(len_upTo k).symm, hlt⟩
      rw [← HI.out] at hy
      gi_wp2
      refine hR.mono ?_
      rintro e W3 (⟨rfl, O3, hJ3, hk3⟩ | ⟨rfl, _, hJx3⟩)
      · have E1 := Lib.hid (hk3.blk HD1.out ho1)
        have E2 := hk3.blk HD2.out ho2
        have hp1 := hk3.far HD1.out.lt ho1
        have hp2 := hk3.far HD2.out.lt ho2
        have d2 : W3.cell? ⟨p2, 0, none⟩ = some (.int .i64 64) := by rw [E2.cell]; rfl
        have HE2 := Lib.hid E2
        have HJ3 := Lib.hid hJ3
        clear hJ3 hs3 hk3 E2
        gi_wp2
        go_roundw
        case rel => exact ⟨k + 1, i + 64, O3, by omega, by rw [HI.out]; omega, hi64, by go_num, by rw [upTo_succ]; exact HJ3.out, hp1, hp2, E1.out, HE2.out⟩
        case measure => simp [intOf]; omega
      · gi_wp2
        refine bodyPost_ret (results_none rfl _ _ _) rfl ?_
        exact ⟨⟨_, rfl⟩, .inr ⟨_, ⟨k, hlt, rfl⟩, by rw [upTo_succ]; exact hJx3⟩⟩
    · obtain rfl : k = N := by omega
      have hie : i = n := by rw [hi, HN.out]
      subst hie
      clear hi
      gi_wp2
      go_end0
      exact ⟨⟨_, rfl⟩, .inl ⟨O, _, rfl, hj⟩⟩
end Go.Proofs.Ytbphoilfiahnpaa
