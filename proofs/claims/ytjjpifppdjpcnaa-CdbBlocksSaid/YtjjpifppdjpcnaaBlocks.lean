/-
  cdb.Blocks: a command's blocks, as an iterator.
-/
import Derived.Laws.Cover3
import Derived.Test.YtjjpifppdjpcnaaCatB
import Derived.Test.YtjjpifppdjpcnaaCdbCheck
namespace Go.Proofs.Ytjjpifppdjpcnaa
open Go.RowKit Go.Shelf
set_option linter.unusedVariables false
set_option linter.unusedSimpArgs false
set_option maxRecDepth 100000

def NotIn (O : Nat → Prop) (A : Option Addr) (c : Nat) : Prop := ∀ g, wrote A c = some g → ¬ O g
theorem OwB.kept {w w' : World} {base : Nat} {A : Option Addr} {n c : Nat} {bs : List UInt8} {O O' : Nat → Prop} (h : OwB w base A n c bs) (hk : Kept O O' w w') (ho : NotIn O A c) : OwB w' base A n c bs :=
  hk.row h fun g e hc => ho g (by rw [wrote, if_neg (by omega), e]; rfl)
theorem NotIn.kept {w w' : World} {base : Nat} {A : Option Addr} {n c : Nat} {bs : List UInt8} {O O' : Nat → Prop} (h : OwB w base A n c bs) (hk : Kept O O' w w') (ho : NotIn O A c) : NotIn O' A c := fun g e => by
  rcases Row.wrote_lt h with h1 | ⟨g', _, h1, _, hlt, _⟩
  · rw [h1] at e; cases e
  · rw [h1] at e; cases e
    exact hk.far hlt (ho _ h1)
theorem aggC : AggT Try.prog 75 128 := ⟨⟨_, Try.underlying75, rfl⟩, by kernel_rfl⟩
/-- Block number j of a row of bytes. -/
def blkAt (bs : List UInt8) (j : Nat) : List UInt8 := (bs.drop (128 * j)).take 128
theorem len_blkAt {bs : List UInt8} {j M : Nat} (h : 128 * M ≤ bs.length) (hj : j < M) : (blkAt bs j).length = 128 := by
  rw [blkAt, List.length_take, List.length_drop]; omega
theorem blk_cell {w : World} {B g N c : Nat} {bs : List UInt8} {i j : Nat} {v : Value} (h : OwB w B (some ⟨g, 0, none⟩) N c bs) (hv : (arr8 (blkAt bs i))[j]? = some v) : w.cell? ⟨g, 128 * i + j, none⟩ = some v := by
  rw [arr8_get, blkAt, List.getElem?_take] at hv
  split at hv
  · rw [List.getElem?_drop] at hv
    cases hb : bs[128 * i + j]? with
    | none => rw [hb] at hv; cases hv
    | some x =>
      rw [hb] at hv
      cases hv
      obtain ⟨hl, rfl⟩ := List.getElem?_eq_some_iff.1 hb
      exact h.cellAt hl
  · cases hv
theorem slice1I (g n c i : Nat) (I : Int) (hI : I = i) (h1 : i ≤ n) (h2 : i < c) (W : World) :
    (Instr.sliceAt 22 (.slice (some ⟨g, 0, none⟩) n c) (some (.int .i64 I)) none none).run Try.prog W = .ok (.slice (some ⟨g, i, none⟩) (n - i) (c - i)) W := by
  subst hI
  have := slice1_run g 0 n c i h1 h2 W
  rwa [Nat.zero_add] at this

set_option maxHeartbeats 4000000 in
theorem blocks_iter {w : World} {p1 p3 p4 B N c M : Nat} {A : Option Addr} {data : List UInt8} {block : Int} {cs : Array Value} (b3 : Blk w p3 3 #[.int .i64 (M : Int)]) (b1 : Blk w p1 56 cs) (hcs : cs[2]? = some (.int .i64 block)) (b4 : Blk w p4 22 #[.slice A N c]) (ha : OwB w B A N c data)
    (hM : M ≤ 65536) (hN : 128 * M ≤ N) (hbl : 0 < M → 0 ≤ block ∧ block ≤ 65536) :
    Iter Try.prog 61 #[.pointer (some ⟨p3, 0, none⟩), .pointer (some ⟨p1, 0, none⟩), .pointer (some ⟨p4, 0, none⟩)] (fun j : Nat => #[Value.int .i64 (block + (j : Int)), Value.agg (arr8 (blkAt data j))]) (fun k => k ≠ p3 ∧ k ≠ p1 ∧ k ≠ p4 ∧ wrote A c ≠ some k)
      (fun pre x W => x = pre.length ∧ x < M) (fun xs => xs = upTo M) (fun pre => ∃ k, k < M ∧ pre = upTo (k + 1)) w := by
  intro l J Jx O W hW hJ hJx hO hY h0
  refine callsIn_wide.2 ?_
  show Calls _ _ #[.func (.yield l) #[] #[], .pointer (some ⟨p3, 0, none⟩), .pointer (some ⟨p1, 0, none⟩), .pointer (some ⟨p4, 0, none⟩)] _ _
  have B1 := b1.below hW b1.lt
  have B3 := b3.below hW b3.lt
  have B4 := b4.below hW b4.lt
  have HA := Lib.hid (ha.below hW)
  have HY := Lib.hid hY
  have d3 : W.cell? ⟨p3, 0, none⟩ = some (.int .i64 (M : Int)) := by rw [B3.cell]; rfl
  have HB1 := Lib.hid B1
  have HB3 := Lib.hid B3
  have HB4 := Lib.hid B4
  have HJ := Lib.hid hJ
  have HCS := Lib.hid hcs
  have ho3 : ¬ O p3 := fun h => (hO _ h).1.1 rfl
  have ho1 : ¬ O p1 := fun h => (hO _ h).1.2.1 rfl
  have ho4 : ¬ O p4 := fun h => (hO _ h).1.2.2.1 rfl
  have ho5 : NotIn O A c := fun g e h => (hO _ h).1.2.2.2 e
  have HO5 := Lib.hid ho5
  clear hY b1 b3 b4 B1 B3 B4 hJ hO ha ho5 hcs
  go_enter Try.func61, Try.ntmps61
  go_wp2_with fail
  go_step3
  go_wp2_with fail
  go_step3
  go_wp2_with fail
  go_loopw [7] (fun v7 wr => ∃ (i : Nat) (O : Nat → Prop), i ≤ M ∧ v7 = .int .i64 (i : Int) ∧ J O (upTo i) wr ∧ ¬ O p1 ∧ ¬ O p3 ∧ ¬ O p4 ∧ NotIn O A c ∧ Blk wr p1 56 cs ∧ Blk wr p3 3 #[.int .i64 (M : Int)] ∧ Blk wr p4 22 #[.slice A N c] ∧ OwB wr B A N c data ∧ W.heap.size ≤ wr.heap.size) (fun v7 _ => M - (intOf v7).toNat)
  case atStart => exact ⟨0, O, by omega, rfl, h0, ho1, ho3, ho4, HO5.out, HB1.out, HB3.out, HB4.out, HA.out, Nat.le_refl _⟩
  case round =>
    clear HB1 HB3 HB4 HA HO5 h0 ho1 ho3 ho4 d3
    obtain ⟨i, O, hi, rfl, hj, ho1, ho3, ho4, hO5, C1, C3, C4, hA, hz⟩ := hrel
    have HO5 := Lib.hid hO5
    clear hO5
    by_cases hlt : i < M
    · have hil : (i : Int) < (M : Int) := by omega
      have hi0 : (0 : Int) ≤ (i : Int) := by omega
      have hiM : (i : Int) ≤ 65536 := by omega
      obtain ⟨hbl0, hbl1⟩ := hbl (by omega)
      obtain ⟨gd, cur, rfl, hgd, hgb, _, _⟩ := OwB.open_ hA (by have := OwB.le hA; omega)
      have hgl := hgb.lt
      have HLN := Lib.hid (show (arr8 (blkAt data i)).size = 128 by rw [size_arr8]; exact len_blkAt (M := M) (by rw [OwB.len hA]; exact hN) hlt)
      have hNc := OwB.le hA
      have HC1 := Lib.hid C1
      have HC3 := Lib.hid C3
      have HC4 := Lib.hid C4
      have HJ0 := Lib.hid hj
      have HA := Lib.hid hA
      clear C1 C3 C4 hj hA hgb
      have hsl := fun W => slice1I gd N c (128 * i) ((i : Int) * 128) (by omega) (by omega) (by omega) W
      have har := fun W => Go.run_arrayAt (P := Try.prog) (w := W) 75 5 128 (some ⟨gd, 128 * i, none⟩) (N - 128 * i) (c - 128 * i) Try.underlying75 (by omega)
      go_wp2_with fail
      refine (wpIn_wide (n := 4)).1 ?_
      refine wpIn_region_rel free_wide rfl 11 (fun W W' => Below W.heap.size W W') (fun W => Below wr.heap.size wr W)
        [Det (.func (.yield l) #[] #[]), Det (.pointer (some ⟨p1, 2, none⟩)), Det (.int .i64 block), Det (.int .i64 (i : Int)), Det (.int .i64 (block + (i : Int))), Det (.slice (some ⟨gd, 0, none⟩) N c), Det (.int .i64 (i : Int)), Det (.int .i64 ((i : Int) * 128)), Det (.slice (some ⟨gd, 128 * i, none⟩) (N - 128 * i) (c - 128 * i)), Det (.pointer (some ⟨gd, 128 * i, none⟩)), Det (.agg (arr8 (blkAt data i))), Any, Any]
        [[], [], [(1, some 11)], [], [(2, some 12), (3, some 13)], [], [], [(6, some 16)], [(5, some 15), (7, some 17)], [(8, some 18)], [(9, some 19)], [(0, some 10), (4, some 14), (10, some 20)], [(11, some 21)]]
        [[], [], [1], [], [1, 2, 3], [], [], [6], [5, 6, 7], [5, 6, 7, 8], [5, 6, 7, 8, 9], [0, 1, 2, 3, 4, 5, 6, 7, 8, 9, 10], [0, 1, 2, 3, 4, 5, 6, 7, 8, 9, 10, 11]]
        [(0, some 10), (1, some 11), (2, some 12), (3, some 13), (4, some 14), (5, some 15), (6, some 16), (7, some 17), (8, some 18), (9, some 19), (10, some 20), (11, some 21), (12, some 22)] (by kernel_rfl) (by kernel_rfl) (by kernel_rfl) (fun W W' h1 h2 => h1.trans (h2.mono h1.size)) ((Below.refl _ _).drew) ?_ ?_ ?_
      · exact (AllMono.cons Det.later (AllMono.cons Det.later (AllMono.cons Det.later (AllMono.cons Det.later (AllMono.cons Det.later (AllMono.cons Det.later (AllMono.cons Det.later (AllMono.cons Det.later (AllMono.cons Det.later (AllMono.cons Det.later (AllMono.cons Det.later (AllMono.cons Any.later (AllMono.cons Any.later AllMono.nil)))))))))))))
      · refine AllOb.cons ?_ (AllOb.cons ?_ (AllOb.cons ?_ (AllOb.cons ?_ (AllOb.cons ?_ (AllOb.cons ?_ (AllOb.cons ?_ (AllOb.cons ?_ (AllOb.cons ?_ (AllOb.cons ?_ (AllOb.cons ?_ (AllOb.nil)))))))))))
        · intro uF W hC' hU aF hF
          have hC : Below wr.heap.size wr W := hC'
          clear hC'
          simp only [puts] at hF
          subst hF
          go_wp2_with (fail)
          exact ⟨rfl, rfl, (Below.refl _ _), rfl⟩
        · intro uF W hC' hU aF hF
          have hC : Below wr.heap.size wr W := hC'
          clear hC'
          simp only [puts] at hF
          subst hF
          go_wp2_with (fail)
          exact ⟨rfl, rfl, (Below.refl _ _), rfl⟩
        · intro uF W hC' hU aF hF
          have hC : Below wr.heap.size wr W := hC'
          clear hC'
          have h11 : (Det (.pointer (some ⟨p1, 2, none⟩))) (uF 1) W := hU.1
          clear hU
          simp only [puts, Act.put, List.setIfInBounds_toArray, List.set_cons_zero, List.set_cons_succ] at hF
          generalize uF 1 = x11 at h11 hF
          obtain rfl : x11 = (.pointer (some ⟨p1, 2, none⟩)) := h11
          subst hF
          have d1 : W.cell? ⟨p1, 2, none⟩ = some (.int .i64 block) := by rw [(HC1.out.below hC HC1.out.lt).cell]; exact HCS.out
          go_wp2_with (fail)
          exact ⟨rfl, rfl, (Below.refl _ _), rfl⟩
        · intro uF W hC' hU aF hF
          have hC : Below wr.heap.size wr W := hC'
          clear hC'
          simp only [puts] at hF
          subst hF
          go_wp2_with (fail)
          exact ⟨rfl, rfl, (Below.refl _ _), rfl⟩
        · intro uF W hC' hU aF hF
          have hC : Below wr.heap.size wr W := hC'
          clear hC'
          have h12 : (Det (.int .i64 block)) (uF 2) W := hU.1
          have h13 : (Det (.int .i64 (i : Int))) (uF 3) W := hU.2.1
          clear hU
          simp only [puts, Act.put, List.setIfInBounds_toArray, List.set_cons_zero, List.set_cons_succ] at hF
          generalize uF 2 = x12 at h12 hF
          generalize uF 3 = x13 at h13 hF
          obtain rfl : x12 = (.int .i64 block) := h12
          obtain rfl : x13 = (.int .i64 (i : Int)) := h13
          subst hF
          go_wp2_with (fail)
          exact ⟨rfl, rfl, (Below.refl _ _), rfl⟩
        · intro uF W hC' hU aF hF
          have hC : Below wr.heap.size wr W := hC'
          clear hC'
          simp only [puts] at hF
          subst hF
          have d1 : W.cell? ⟨p4, 0, none⟩ = some (.slice (some ⟨gd, 0, none⟩) N c) := by rw [(HC4.out.below hC HC4.out.lt).cell]; rfl
          go_wp2_with (fail)
          exact ⟨rfl, rfl, (Below.refl _ _), rfl⟩
        · intro uF W hC' hU aF hF
          have hC : Below wr.heap.size wr W := hC'
          clear hC'
          simp only [puts] at hF
          subst hF
          go_wp2_with (fail)
          exact ⟨rfl, rfl, (Below.refl _ _), rfl⟩
        · intro uF W hC' hU aF hF
          have hC : Below wr.heap.size wr W := hC'
          clear hC'
          have h16 : (Det (.int .i64 (i : Int))) (uF 6) W := hU.1
          clear hU
          simp only [puts, Act.put, List.setIfInBounds_toArray, List.set_cons_zero, List.set_cons_succ] at hF
          generalize uF 6 = x16 at h16 hF
          obtain rfl : x16 = (.int .i64 (i : Int)) := h16
          subst hF
          go_wp2_with (fail)
          exact ⟨rfl, rfl, (Below.refl _ _), rfl⟩
        · intro uF W hC' hU aF hF
          have hC : Below wr.heap.size wr W := hC'
          clear hC'
          have h15 : (Det (.slice (some ⟨gd, 0, none⟩) N c)) (uF 5) W := hU.1
          have h17 : (Det (.int .i64 ((i : Int) * 128))) (uF 7) W := hU.2.1
          clear hU
          simp only [puts, Act.put, List.setIfInBounds_toArray, List.set_cons_zero, List.set_cons_succ] at hF
          generalize uF 5 = x15 at h15 hF
          generalize uF 7 = x17 at h17 hF
          obtain rfl : x15 = (.slice (some ⟨gd, 0, none⟩) N c) := h15
          obtain rfl : x17 = (.int .i64 ((i : Int) * 128)) := h17
          subst hF
          go_wp2_with (fail)
          exact ⟨rfl, rfl, (Below.refl _ _), rfl⟩
        · intro uF W hC' hU aF hF
          have hC : Below wr.heap.size wr W := hC'
          clear hC'
          have h18 : (Det (.slice (some ⟨gd, 128 * i, none⟩) (N - 128 * i) (c - 128 * i))) (uF 8) W := hU.1
          clear hU
          simp only [puts, Act.put, List.setIfInBounds_toArray, List.set_cons_zero, List.set_cons_succ] at hF
          generalize uF 8 = x18 at h18 hF
          obtain rfl : x18 = (.slice (some ⟨gd, 128 * i, none⟩) (N - 128 * i) (c - 128 * i)) := h18
          subst hF
          go_wp2_with (fail)
          exact ⟨rfl, rfl, (Below.refl _ _), rfl⟩
        · intro uF W hC' hU aF hF
          have hC : Below wr.heap.size wr W := hC'
          clear hC'
          have h19 : (Det (.pointer (some ⟨gd, 128 * i, none⟩))) (uF 9) W := hU.1
          clear hU
          simp only [puts, Act.put, List.setIfInBounds_toArray, List.set_cons_zero, List.set_cons_succ] at hF
          generalize uF 9 = x19 at h19 hF
          obtain rfl : x19 = (.pointer (some ⟨gd, 128 * i, none⟩)) := h19
          subst hF
          go_wp2_with (((with_reducible show wpList _ _ _ (Oper.mk (some 20) (Op.load 75 _) _ _ _ _ :: _) _ _); refine wpList_load_agg (by rfl) 75 (.tmp 19) rfl gd (128 * i) rfl (arr8 (blkAt data i)) aggC HLN.out (fun j v hv => blk_cell (OwB.below HA.out hC) hv) ?_))
          exact ⟨rfl, rfl, (Below.refl _ _), rfl⟩
      intro uF W5 hC' hU aF hF
      have hCW5 : Below wr.heap.size wr W5 := hC'
      clear hC'
      have h10 : (Det (.func (.yield l) #[] #[])) (uF 0) W5 := hU.1
      have h14 : (Det (.int .i64 (block + (i : Int)))) (uF 4) W5 := hU.2.2.2.2.1
      have h20 : (Det (.agg (arr8 (blkAt data i)))) (uF 10) W5 := hU.2.2.2.2.2.2.2.2.2.2.1
      clear hU
      simp only [List.take_succ_cons, List.take_zero, puts, Act.put, List.setIfInBounds_toArray, List.set_cons_zero, List.set_cons_succ] at hF
      generalize uF 0 = x10 at h10 hF
      generalize uF 1 = x11 at hF
      generalize uF 2 = x12 at hF
      generalize uF 3 = x13 at hF
      generalize uF 4 = x14 at h14 hF
      generalize uF 5 = x15 at hF
      generalize uF 6 = x16 at hF
      generalize uF 7 = x17 at hF
      generalize uF 8 = x18 at hF
      generalize uF 9 = x19 at hF
      generalize uF 10 = x20 at h20 hF
      obtain rfl : x10 = (.func (.yield l) #[] #[]) := h10
      obtain rfl : x14 = (.int .i64 (block + (i : Int))) := h14
      obtain rfl : x20 = (.agg (arr8 (blkAt data i))) := h20
      subst hF
      simp only [List.drop_succ_cons, List.drop_zero]
      have hj5 : J O (upTo i) W5 := OwnFrom.calm (HJ.out O) HJ0.out (Calm.of_below hCW5)
      obtain ⟨fn, tmps, assign, body, hy, hR⟩ := HY.out O (upTo i) i W5 hj5 ⟨(len_upTo i).symm, hlt⟩
      have k5 : Kept O O wr W5 := Kept.below hCW5
      have HR := Lib.hid hR
      clear hR hj5
      gi_wp2
      refine HR.out.mono ?_
      rintro e W3 (⟨rfl, O3, hJ3, hk3⟩ | ⟨rfl, _, hJx3⟩)
      · have kk := k5.trans hk3
        have E1 := Lib.hid (kk.blk HC1.out ho1)
        have E3 := Lib.hid (kk.blk HC3.out ho3)
        have E4 := Lib.hid (kk.blk HC4.out ho4)
        have EA := Lib.hid (OwB.kept HA.out kk HO5.out)
        have EO := Lib.hid (NotIn.kept HA.out kk HO5.out)
        have e1 := kk.far HC1.out.lt ho1
        have e3 := kk.far HC3.out.lt ho3
        have e4 := kk.far HC4.out.lt ho4
        have EJ := Lib.hid hJ3
        have ez := Nat.le_trans hz kk.size
        clear hJ3 hk3 kk k5
        gi_wp2
        go_wp2_with fail
        exact ⟨⟨i + 1, O3, by omega, by go_num, by rw [upTo_succ]; exact EJ.out, e1, e3, e4, EO.out, E1.out, E3.out, E4.out, EA.out, ez⟩, by simp [intOf]; omega⟩
      · gi_wp2
        go_wp2_with fail
        unfold Exit.noGoto
        go_end0
        exact ⟨⟨_, rfl⟩, .inr ⟨_, ⟨i, hlt, rfl⟩, by rw [upTo_succ]; exact hJx3⟩⟩
    · obtain rfl : i = M := by omega
      have hil : ¬ (i : Int) < (i : Int) := by omega
      have HJ0 := Lib.hid hj
      clear hj
      go_wp2_with fail
      show bodyPost _ _ _ Exit.normal _ _
      go_end0
      exact ⟨⟨_, rfl⟩, .inl ⟨O, _, rfl, HJ0.out⟩⟩
end Go.Proofs.Ytjjpifppdjpcnaa

