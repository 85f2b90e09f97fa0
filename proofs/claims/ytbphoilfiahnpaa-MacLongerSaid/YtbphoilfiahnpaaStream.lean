/-
  mac.Stream: a stream of keys, as an iterator.
-/
import Derived.WalkMore
import Derived.Test.YtbphoilfiahnpaaMacUse
import Derived.Test.YtbphoilfiahnpaaRelIn
import Derived.Test.YtbphoilfiahnpaaClone
namespace Go.Proofs.Ytbphoilfiahnpaa
open Go.RowKit Go.Shelf
set_option linter.unusedVariables false
set_option linter.unusedSimpArgs false
set_option maxRecDepth 100000

/-- The text of a stream's block. -/
def streamText (lab : List UInt8) (i : Nat) : List UInt8 := bigB i 4 ++ (lab ++ [0])
/-- A stream's block. -/
def blockOf (key lab : List UInt8) (i : Nat) : List UInt8 := hmac key (streamText lab i)
theorem len_blockOf (key lab : List UInt8) (i : Nat) : (blockOf key lab i).length = 32 := len_hmac _ _

/-- The caller's own blocks are none of those that a row lies in. -/
def NotIn (O : Nat → Prop) (A : Option Addr) (c : Nat) : Prop := ∀ g, wrote A c = some g → ¬ O g
theorem OwB.kept {w w' : World} {base : Nat} {A : Option Addr} {n c : Nat} {bs : List UInt8} {O O' : Nat → Prop} (h : OwB w base A n c bs) (hk : Kept O O' w w') (ho : NotIn O A c) : OwB w' base A n c bs :=
  hk.row h fun g e hc => ho g (by rw [wrote, if_neg (by omega), e]; rfl)
theorem NotIn.kept {w w' : World} {base : Nat} {A : Option Addr} {n c : Nat} {bs : List UInt8} {O O' : Nat → Prop} (h : OwB w base A n c bs) (hk : Kept O O' w w') (ho : NotIn O A c) : NotIn O' A c := fun g e => by
  rcases Row.wrote_lt h with h1 | ⟨g', _, h1, _, hlt, _⟩
  · rw [h1] at e; cases e
  · rw [h1] at e; cases e
    exact hk.far hlt (ho _ h1)

theorem stream_c {w : World} {B : Nat} {A : Option Addr} {n c : Nat} {key : List UInt8} (hk : SlB w B A n c key) (hB : B ≤ w.heap.size) (hn : n ≤ 140737488355328) (s : ByteArray) :
    Calls Try.prog 44 #[.slice A n c, .string s] w fun e w' => ∃ g A' c', e = .returned (.func (.func 64) #[] #[.pointer (some ⟨g, 0, none⟩), .pointer (some ⟨w.heap.size, 0, none⟩)]) ∧ w.heap.size < g ∧
      Blk w' g 31 #[.slice A' n c'] ∧ Blk w' w.heap.size 9 #[.string s] ∧ SlB w' w'.heap.size A' n c' key ∧ OwB w' w.heap.size A' n c' key ∧ Below w.heap.size w w' := by
  have hb0 := below_alloc w (.cells #[.string s] 9)
  have b2 := Blk.new w 9 #[.string s]
  have hk0 := hk.alloc hB (.cells #[.string s] 9)
  obtain ⟨v, hv⟩ : ∃ v, v = w.alloc (.cells #[.string s] 9) := ⟨_, rfl⟩
  rw [← hv] at hb0 b2 hk0
  have hz0 := hb0.size
  have HV := Lib.hid hv
  clear hv hk
  go_enter Try.func44, Try.ntmps44
  go_wp2_with (go_at_call 63; rw [← HV.out]; refine (clone_c hk0 (Nat.le_trans hB hz0) hn).mono ?_; rintro e v1 ⟨A1, c1, rfl, h1, hb1, _⟩)
  have b21 := b2.below hb1 b2.lt
  have hlt := b21.lt
  have hw1 := hb0.trans (hb1.mono hz0)
  have ho := (Row.base_le h1 hz0).alloc (.cells #[.slice A1 n c1] 31)
  go_ret
  exact ⟨v1.heap.size, A1, c1, rfl, hlt, Blk.new _ _ _, b21.alloc _, Row.sl ho, ho, hw1.alloc hw1.size _⟩

/-- '[]byte(s)'. -/
theorem conv_str (s : ByteArray) (hs : s.size ≤ 140737488355328) (w : World) : ∃ c W', (convert 9 31 (.string s)).run Try.prog w = .ok (.slice (some ⟨w.heap.size, 0, none⟩) s.size c) W' ∧
    SlB W' W'.heap.size (some ⟨w.heap.size, 0, none⟩) s.size c s.data.toList ∧ Below w.heap.size w W' := by
  refine ⟨_, _, run_bytes_of_string w _ _ _ s Try.underlying9 Try.underlying31 Try.underlying5, ?_, ?_⟩
  · refine ⟨by simp, grownCap_ge w s.size 0 _, grownCap_le_maxLen w s.size 0 _ (by simp only [maxLen]; omega), fun _ => ⟨w.heap.size, 0, rfl, by simp, fun j u hu => ?_⟩⟩
    have := World.cell?_alloc_mark w.drew
    simp only [World.cell?, World.alloc, Array.getElem?_push, World.drew, Nat.zero_add]
    have hj : j < s.data.size := by
      rcases Nat.lt_or_ge j s.data.toList.length with h | h
      · simpa using h
      · rw [List.getElem?_eq_none (by simpa using h)] at hu; cases hu
    rw [List.getElem?_map, List.getElem?_eq_getElem (by simpa using hj)] at hu
    simp only [if_pos, Option.isSome_none, Bool.false_eq_true, if_false, bytesRow]
    rw [Array.getElem?_append_left (by simpa using hj), Array.getElem?_map, Array.getElem?_eq_getElem hj]
    simpa [b8] using hu
  · exact ((Below.refl _ w).drew).alloc (by simp) _

set_option maxHeartbeats 4000000 in
theorem stream_iter {w : World} {p1 p2 B n c : Nat} {A : Option Addr} {key : List UInt8} {s : ByteArray} (b1 : Blk w p1 31 #[.slice A n c]) (b2 : Blk w p2 9 #[.string s]) (ha : OwB w B A n c key) (hn : n ≤ 1099511627776) (hs : s.size ≤ 1099511620000) :
    Iter Try.prog 64 #[.pointer (some ⟨p1, 0, none⟩), .pointer (some ⟨p2, 0, none⟩)] (fun j : Nat => #[Value.agg (arr8 (blockOf key s.data.toList (j + 1)))]) (fun k => k ≠ p1 ∧ k ≠ p2 ∧ wrote A c ≠ some k)
      (fun pre x W => x = pre.length ∧ x < 4096) (fun xs => xs = upTo 4096) (fun pre => ∃ k, k < 4096 ∧ pre = upTo (k + 1)) w := by
  intro l J Jx O W hW hJ hJx hO hY h0
  refine callsIn_wide.2 ?_
  show Calls _ _ #[.func (.yield l) #[] #[], .pointer (some ⟨p1, 0, none⟩), .pointer (some ⟨p2, 0, none⟩)] _ _
  have B1 := b1.below hW b1.lt
  have B2 := b2.below hW b2.lt
  have HA := Lib.hid (ha.below hW)
  have HY := Lib.hid hY
  have HB1 := Lib.hid B1
  have HB2 := Lib.hid B2
  have HJ := Lib.hid hJ
  have ho1 : ¬ O p1 := fun h => (hO _ h).1.1 rfl
  have ho2 : ¬ O p2 := fun h => (hO _ h).1.2.1 rfl
  have ho3 : NotIn O A c := fun g e h => (hO _ h).1.2.2 e
  have HO3 := Lib.hid ho3
  clear hY b1 b2 B1 B2 hJ hO ha ho3
  go_enter Try.func64, Try.ntmps64
  go_wp2_with fail
  go_step3
  go_wp2_with fail
  go_step3
  go_wp2_with fail
  go_loopw [4] (fun v4 wr => ∃ (k i : Nat) (O : Nat → Prop), k ≤ 4096 ∧ i = k + 1 ∧ i ≤ 4097 ∧ v4 = .int .u32 (i : Int) ∧ J O (upTo k) wr ∧ ¬ O p1 ∧ ¬ O p2 ∧ NotIn O A c ∧ Blk wr p1 31 #[.slice A n c] ∧ Blk wr p2 9 #[.string s] ∧ OwB wr B A n c key ∧ W.heap.size ≤ wr.heap.size) (fun v4 _ => 4097 - (intOf v4).toNat)
  case atStart => exact ⟨0, 1, O, by omega, rfl, by omega, rfl, h0, ho1, ho2, HO3.out, HB1.out, HB2.out, HA.out, Nat.le_refl _⟩
  case round =>
    clear HB1 HB2 HA HO3 h0 ho1 ho2
    obtain ⟨k, i, O, hk, hik, hi, rfl, hj, ho1, ho2, hO3, C1, C2, hA, hz⟩ := hrel
    have HO3 := Lib.hid hO3
    clear hO3
    have HIK := Lib.hid hik
    by_cases hlt : k < 4096
    · have hi1 : (i : Int) ≤ 4096 := by omega
      have hi0 : (0 : Int) ≤ (i : Int) := by omega
      have HFL := Lib.hid (show ([bigB i 4, s.data.toList, [0]] : List (List UInt8)).flatten = streamText s.data.toList i from by simp [streamText])
      have htot : ([bigB i 4, s.data.toList, [0]] : List (List UInt8)).flatten.length ≤ 1099511627000 := by
        rw [HFL.out]
        simp [streamText, len_bigB]
        omega
      have HT := Lib.hid htot
      have HC1 := Lib.hid C1
      have HC2 := Lib.hid C2
      have HJ0 := Lib.hid hj
      have HA := Lib.hid hA
      clear hik htot C1 C2 hj hA
      go_wp2_with fail
      refine (wpIn_wide (n := 4)).1 ?_
      refine wpIn_region_rel free_wide rfl 10 (fun W W' => Below W.heap.size W W') (fun W => Below wr.heap.size wr W)
        [Det (.func (.yield l) #[] #[]), Det (.slice A n c), Det (.int .u32 (i : Int)), Det (.int .u64 (i : Int)), RelB 4 (bigB i 4), Det (.string s), RelB s.size s.data.toList, RelB 1 [0], RelP 3 [bigB i 4, s.data.toList, [0]], Det (.agg (arr8 (blockOf key s.data.toList i))), Any, Any]
        [[], [], [], [(2, some 11)], [(3, some 12)], [], [(5, some 14)], [], [(4, some 13), (6, some 15), (7, some 16)], [(1, some 10), (8, some 17)], [(0, some 9), (9, some 18)], [(10, some 19)]]
        [[], [], [], [2], [2, 3], [], [5], [], [2, 3, 4, 5, 6, 7], [1, 2, 3, 4, 5, 6, 7, 8], [0, 1, 2, 3, 4, 5, 6, 7, 8, 9], [0, 1, 2, 3, 4, 5, 6, 7, 8, 9, 10]]
        [(0, some 9), (1, some 10), (2, some 11), (3, some 12), (4, some 13), (5, some 14), (6, some 15), (7, some 16), (8, some 17), (9, some 18), (10, some 19), (11, some 20)] (by kernel_rfl) (by kernel_rfl) (by kernel_rfl) (fun W W' h1 h2 => h1.trans (h2.mono h1.size)) ((Below.refl _ _).drew) ?_ ?_ ?_
      · exact (AllMono.cons Det.later (AllMono.cons Det.later (AllMono.cons Det.later (AllMono.cons Det.later (AllMono.cons RelB.later (AllMono.cons Det.later (AllMono.cons RelB.later (AllMono.cons RelB.later (AllMono.cons RelP.later (AllMono.cons Det.later (AllMono.cons Any.later (AllMono.cons Any.later AllMono.nil))))))))))))
      · refine AllOb.cons ?_ (AllOb.cons ?_ (AllOb.cons ?_ (AllOb.cons ?_ (AllOb.cons ?_ (AllOb.cons ?_ (AllOb.cons ?_ (AllOb.cons ?_ (AllOb.cons ?_ (AllOb.cons ?_ (AllOb.nil))))))))))
        · intro uF W hC' hU aF hF
          have hC : Below wr.heap.size wr W := hC'
          clear hC'
          simp only [puts] at hF
          subst hF
          go_wp2_with (fail)
          exact ⟨rfl, rfl, (Below.refl _ _), rfl⟩
        · intro uF W hC' hU aF hF
          have hC : Below wr.heap.size wr W := hC'
          clear hC'
          simp only [puts] at hF
          subst hF
          have d1 : W.cell? ⟨p1, 0, none⟩ = some (.slice A n c) := by rw [(HC1.out.below hC HC1.out.lt).cell]; rfl
          go_wp2_with (fail)
          exact ⟨rfl, rfl, (Below.refl _ _), rfl⟩
        · intro uF W hC' hU aF hF
          have hC : Below wr.heap.size wr W := hC'
          clear hC'
          simp only [puts] at hF
          subst hF
          go_wp2_with (fail)
          exact ⟨rfl, rfl, (Below.refl _ _), rfl⟩
        · intro uF W hC' hU aF hF
          have hC : Below wr.heap.size wr W := hC'
          clear hC'
          have h11 : (Det (.int .u32 (i : Int))) (uF 2) W := hU.1
          clear hU
          simp only [puts, Act.put, List.setIfInBounds_toArray, List.set_cons_zero, List.set_cons_succ] at hF
          generalize uF 2 = x11 at h11 hF
          obtain rfl : x11 = (.int .u32 (i : Int)) := h11
          subst hF
          go_wp2_with (fail)
          exact ⟨rfl, rfl, (Below.refl _ _), rfl⟩
        · intro uF W hC' hU aF hF
          have hC : Below wr.heap.size wr W := hC'
          clear hC'
          have h12 : (Det (.int .u64 (i : Int))) (uF 3) W := hU.1
          clear hU
          simp only [puts, Act.put, List.setIfInBounds_toArray, List.set_cons_zero, List.set_cons_succ] at hF
          generalize uF 3 = x12 at h12 hF
          obtain rfl : x12 = (.int .u64 (i : Int)) := h12
          subst hF
          go_wp2_with ((go_at_call 53; refine (appendBig_c (OwB.nil W W.heap.size none) (Nat.le_refl _) (by omega) (k := 4) (by omega) (by omega) (x := i) (by omega)).mono ?_; rintro e W1 ⟨A1, c1, rfl, h1, hb⟩))
          exact ⟨rfl, rfl, hb, ⟨_, _, rfl, by have := OwB.sl h1; simpa using this⟩⟩
        · intro uF W hC' hU aF hF
          have hC : Below wr.heap.size wr W := hC'
          clear hC'
          simp only [puts] at hF
          subst hF
          have d1 : W.cell? ⟨p2, 0, none⟩ = some (.string s) := by rw [(HC2.out.below hC HC2.out.lt).cell]; rfl
          go_wp2_with (fail)
          exact ⟨rfl, rfl, (Below.refl _ _), rfl⟩
        · intro uF W hC' hU aF hF
          have hC : Below wr.heap.size wr W := hC'
          clear hC'
          have h14 : (Det (.string s)) (uF 5) W := hU.1
          clear hU
          simp only [puts, Act.put, List.setIfInBounds_toArray, List.set_cons_zero, List.set_cons_succ] at hF
          generalize uF 5 = x14 at h14 hF
          obtain rfl : x14 = (.string s) := h14
          subst hF
          obtain ⟨cc, W1, hrun, hs1, hb⟩ := conv_str s (by omega) W
          go_wp2_with (fail)
          exact ⟨rfl, rfl, hb, ⟨_, _, rfl, hs1⟩⟩
        · intro uF W hC' hU aF hF
          have hC : Below wr.heap.size wr W := hC'
          clear hC'
          simp only [puts] at hF
          subst hF
          go_wp2_with (fail)
          exact ⟨rfl, rfl, (below_alloc _ _), RelB.new _ [0] 1 rfl (by simp [maxLen]) rfl⟩
        · intro uF W hC' hU aF hF
          have hC : Below wr.heap.size wr W := hC'
          clear hC'
          have h13 : (RelB 4 (bigB i 4)) (uF 4) W := hU.1
          have h15 : (RelB s.size s.data.toList) (uF 6) W := hU.2.1
          have h16 : (RelB 1 [0]) (uF 7) W := hU.2.2.1
          clear hU
          simp only [puts, Act.put, List.setIfInBounds_toArray, List.set_cons_zero, List.set_cons_succ] at hF
          generalize uF 4 = x13 at h13 hF
          generalize uF 6 = x15 at h15 hF
          generalize uF 7 = x16 at h16 hF
          obtain ⟨A13, c13, rfl, s13⟩ := h13
          obtain ⟨A15, c15, rfl, s15⟩ := h15
          obtain ⟨A16, c16, rfl, s16⟩ := h16
          subst hF
          go_wp2_with (fail)
          exact ⟨rfl, rfl, (below_alloc _ _), RelP.three s13 s15 s16⟩
        · intro uF W hC' hU aF hF
          have hC : Below wr.heap.size wr W := hC'
          clear hC'
          have h10 : (Det (.slice A n c)) (uF 1) W := hU.1
          have h17 : (RelP 3 [bigB i 4, s.data.toList, [0]]) (uF 8) W := hU.2.1
          clear hU
          simp only [puts, Act.put, List.setIfInBounds_toArray, List.set_cons_zero, List.set_cons_succ] at hF
          generalize uF 1 = x10 at h10 hF
          generalize uF 8 = x17 at h17 hF
          obtain rfl : x10 = (.slice A n c) := h10
          subst hF
          go_wp2_with ((go_at_call 41; refine (tag_p (Row.sl (OwB.below HA.out hC)) (Nat.le_refl _) (by omega) h17 HT.out (by omega)).mono ?_; rintro e W1 ⟨rfl, hb⟩; rw [HFL.out]))
          exact ⟨rfl, rfl, hb, rfl⟩
      intro uF W5 hC' hU aF hF
      have hCW5 : Below wr.heap.size wr W5 := hC'
      clear hC'
      have h9 : (Det (.func (.yield l) #[] #[])) (uF 0) W5 := hU.1
      have h18 : (Det (.agg (arr8 (blockOf key s.data.toList i)))) (uF 9) W5 := hU.2.2.2.2.2.2.2.2.2.1
      clear hU
      simp only [List.take_succ_cons, List.take_zero, puts, Act.put, List.setIfInBounds_toArray, List.set_cons_zero, List.set_cons_succ] at hF
      generalize uF 0 = x9 at h9 hF
      generalize uF 1 = x10 at hF
      generalize uF 2 = x11 at hF
      generalize uF 3 = x12 at hF
      generalize uF 4 = x13 at hF
      generalize uF 5 = x14 at hF
      generalize uF 6 = x15 at hF
      generalize uF 7 = x16 at hF
      generalize uF 8 = x17 at hF
      generalize uF 9 = x18 at h18 hF
      obtain rfl : x9 = (.func (.yield l) #[] #[]) := h9
      obtain rfl : x18 = (.agg (arr8 (blockOf key s.data.toList i))) := h18
      subst hF
      simp only [List.drop_succ_cons, List.drop_zero]
      have hj5 : J O (upTo k) W5 := OwnFrom.calm (HJ.out O) HJ0.out (Calm.of_below hCW5)
      obtain ⟨fn, tmps, assign, body, hy, hR⟩ := HY.out O (upTo k) k W5 hj5 ⟨(len_upTo k).symm, hlt⟩
      rw [← HIK.out] at hy
      have k5 : Kept O O wr W5 := Kept.below hCW5
      have HR := Lib.hid hR
      clear hR hj5
      gi_wp2
      refine HR.out.mono ?_
      rintro e W3 (⟨rfl, O3, hJ3, hk3⟩ | ⟨rfl, _, hJx3⟩)
      · have kk := k5.trans hk3
        have E1 := Lib.hid (kk.blk HC1.out ho1)
        have E2 := Lib.hid (kk.blk HC2.out ho2)
        have EA := Lib.hid (OwB.kept HA.out kk HO3.out)
        have EO := Lib.hid (NotIn.kept HA.out kk HO3.out)
        have e1 := kk.far HC1.out.lt ho1
        have e2 := kk.far HC2.out.lt ho2
        have EJ := Lib.hid hJ3
        have ez := Nat.le_trans hz kk.size
        clear hJ3 hk3 kk k5
        gi_wp2
        go_wp2_with fail
        exact ⟨⟨k + 1, i + 1, O3, by omega, by rw [HIK.out], by omega, by go_num, by rw [upTo_succ]; exact EJ.out, e1, e2, EO.out, E1.out, E2.out, EA.out, ez⟩, by simp [intOf]; omega⟩
      · gi_wp2
        go_wp2_with fail
        unfold Exit.noGoto
        go_end0
        exact ⟨⟨_, rfl⟩, .inr ⟨_, ⟨k, hlt, rfl⟩, by rw [upTo_succ]; exact hJx3⟩⟩
    · obtain rfl : k = 4096 := by omega
      have hi1 : ¬ (i : Int) ≤ 4096 := by omega
      have HJ0 := Lib.hid hj
      clear hik hj
      go_wp2_with fail
      show bodyPost _ _ _ Exit.normal _ _
      go_end0
      exact ⟨⟨_, rfl⟩, .inl ⟨O, _, rfl, HJ0.out⟩⟩
end Go.Proofs.Ytbphoilfiahnpaa

