/-
  tree.Tags: sectors as digests.
-/
import Derived.Test.YtbjiokjmidipaaaSectors
namespace Go.Proofs.Ytbjiokjmidipaaa
open Go.RowKit
set_option linter.unusedVariables false
set_option linter.unusedSimpArgs false
set_option maxRecDepth 100000

theorem make32S (W : World) : (Instr.makeSlice 27 (.int .i64 32) (.int .i64 32)).run Try.prog W = .ok (.slice (some ⟨W.heap.size, 0, none⟩) 32 32) (W.alloc (.cells (arr8 zs8) 40)) := by
  obtain ⟨i, hi, hz⟩ : ∃ i, Try.prog.info? 40 = some i ∧ (i.size, i.bytes) = (32, 32) := by
    have h := sums_info
    cases hh : Try.prog.info? 40 with
    | none => rw [hh] at h; cases h
    | some i => rw [hh] at h; exact ⟨i, rfl, by simpa using h⟩
  have hz0 := zero44
  rw [hi] at hz0
  simp only [Prod.mk.injEq] at hz
  obtain ⟨hz1, hz2⟩ := hz
  simp only [Option.bind_some] at hz0
  have hr := run_make_rowN (P := Try.prog) 27 40 i _ Try.underlying27 hi hz0 .i64 .i64 32 32 (Nat.le_refl _) (by rw [hz2]; omega) (by omega) W
  rw [hz1, show madeCells (Value.cells (.agg (arr8 (z8' 32)))) (32 * 32) = arr8 zs8 from made_zero 32 _ (by omega)] at hr
  exact hr

/-- 'make([]api.Cell, n)'. -/
theorem makeNC (n : Nat) (L : Int) (hL : L = n) (hn : n ≤ 100) (W : World) : (Instr.makeSlice 58 (.int .i64 L) (.int .i64 L)).run Try.prog W = .ok (.slice (some ⟨W.heap.size, 0, none⟩) n n) (W.alloc (.cells (arr8 (List.replicate (n * 128) 0)) 48)) := by
  obtain ⟨i, hi, hz⟩ : ∃ i, Try.prog.info? 48 = some i ∧ (i.size, i.bytes) = (128, 128) := by
    have h := cells_info
    cases hh : Try.prog.info? 48 with
    | none => rw [hh] at h; cases h
    | some i => rw [hh] at h; exact ⟨i, rfl, by simpa using h⟩
  have hz0 := zero128
  rw [hi] at hz0
  simp only [Prod.mk.injEq] at hz
  obtain ⟨hz1, hz2⟩ := hz
  simp only [Option.bind_some] at hz0
  subst hL
  have hr := run_make_rowN (P := Try.prog) 58 48 i _ Try.underlying58 hi hz0 .i64 .i64 n n (Nat.le_refl _) (by rw [hz2]; omega) (by omega) W
  rw [hz1, made_zero 128 _ (by omega)] at hr
  exact hr

theorem SlC.zero {w : World} {n B : Nat} (hn : n ≤ 100) (hB : w.heap.size < B) : SlC (w.alloc (.cells (arr8 (List.replicate (n * 128) 0)) 48)) B (some ⟨w.heap.size, 0, none⟩) n n (List.replicate (n * 128) 0) :=
  ⟨by simp, Nat.le_refl _, by simp [maxLen]; omega, fun _ => ⟨w.heap.size, 0, rfl, hB, fun j u hu => by
    rw [(Blk.new w 48 (arr8 (List.replicate (n * 128) 0))).cell, Nat.zero_add]
    rw [arr8, List.getElem?_toArray]; exact hu⟩⟩

theorem tags_bad {w : World} {A : Option Addr} {n c : Nat} (hn : n ≠ 8) (hn2 : n ≤ 9223372036854775807) :
    Calls Try.prog 33 #[.slice A n c] w fun e w' => e = .returned (.tuple #[.slice none 0 0, .iface 35 (.int .i64 2)]) ∧ w = w' := by
  have hne : ((n : Int) != 8) = true := by rw [bne_iff_ne]; omega
  have hne2 : ¬ (n : Int) = 8 := by omega
  go_enter Try.func33, Try.ntmps33
  go_wp2_with fail
  go_ret2
  exact ⟨rfl, rfl⟩

set_option maxHeartbeats 4000000 in
theorem tags_c {w : World} {B : Nat} {A : Option Addr} {c : Nat} {xs : List UInt8} (hx : SlC w B A 8 c xs) (hB : B ≤ w.heap.size) :
    Calls Try.prog 33 #[.slice A 8 c] w fun e w' => ∃ g, e = .returned (.tuple #[.slice (some ⟨g, 0, none⟩) 32 32, .nilIface]) ∧ OwS w' w.heap.size (some ⟨g, 0, none⟩) 32 32 xs ∧ Below w.heap.size w w' := by
  have hxl : xs.length = 1024 := by have := hx.1; simpa using this
  have hcc : 8 ≤ c := hx.2.1
  obtain ⟨bb, off, rfl, hbB, hcl⟩ := Sl.at_ hx (by omega)
  obtain ⟨g, hg⟩ : ∃ g, g = w.heap.size := ⟨_, rfl⟩
  obtain ⟨v, hv⟩ : ∃ v, v = w.alloc (.cells (arr8 zs8) 40) := ⟨_, rfl⟩
  have hbv : Below w.heap.size w v := by rw [hv]; exact below_alloc _ _
  have h0 : OwS v w.heap.size (some ⟨g, 0, none⟩) 32 32 (xs.take (32 * 0) ++ zs8.drop (32 * 0)) := by
    refine ⟨by simp [len_zs8], Nat.le_refl _, by simp [maxLen], fun _ => ⟨g, arr8 zs8, rfl, by omega, by rw [hv, hg]; exact Blk.new _ _ _, by rw [size_arr8, len_zs8]; omega, ?_⟩⟩
    rw [List.take_of_length_le (by simp [arr8, len_zs8])]
    simp [arr8]
  have hmk := make32S
  have HV := Lib.hid hv
  have HG := Lib.hid hg
  have HCL := Lib.hid hcl
  have H0 := Lib.hid h0
  have hwg : w.heap.size ≤ g := by omega
  have hgB : B ≤ g := by omega
  clear hv hg hcl h0 hx
  go_enter Try.func33, Try.ntmps33
  go_wp2_with fail
  rw [← HV.out, ← HG.out]
  go_loopw [13] (fun v13 wr => ∃ i : Nat, i ≤ 32 ∧ v13 = .int .i64 (i : Int) ∧ OwS wr w.heap.size (some ⟨g, 0, none⟩) 32 32 (xs.take (32 * i) ++ zs8.drop (32 * i)) ∧ Below w.heap.size w wr) (fun v13 _ => 32 - (intOf v13).toNat)
  case atStart => exact ⟨0, by omega, rfl, H0.out, hbv⟩
  case round =>
    clear H0 hbv hmk
    obtain ⟨i, hi, rfl, h4, hw⟩ := hrel
    have hz := hw.size
    by_cases hlt : i < 32
    · have hii : (i : Int) < 32 := by omega
      have hi0 : (0 : Int) ≤ (i : Int) := by omega
      obtain ⟨q, hq⟩ : ∃ q, q = i / 4 := ⟨_, rfl⟩
      obtain ⟨r, hr⟩ : ∃ r, r = i % 4 := ⟨_, rfl⟩
      obtain ⟨R, hR⟩ : ∃ R, R = 32 * r := ⟨_, rfl⟩
      have htd : ((i : Int)).tdiv 4 = (q : Int) := by rw [Int.tdiv_eq_ediv_of_nonneg (by omega), hq]; rfl
      have hed : (i : Int) / 4 = (q : Int) := by rw [hq]; rfl
      have htm : ((i : Int)).tmod 4 = (r : Int) := by rw [Int.tmod_eq_emod_of_nonneg (by omega), hr]; rfl
      have hem : (i : Int) % 4 = (r : Int) := by rw [hr]; rfl
      have hRi : 32 * (r : Int) = (R : Int) := by omega
      have hq8 : (q : Int) < 8 := by omega
      have hq0 : (0 : Int) ≤ (q : Int) := by omega
      have hr4 : (r : Int) < 4 := by omega
      have hr0 : (0 : Int) ≤ (r : Int) := by omega
      have hR96 : (R : Int) ≤ 96 := by omega
      have hR0 : (0 : Int) ≤ (R : Int) := by omega
      have hoff : q * 128 + R = 32 * i := by omega
      have hsl := arr_low_run (P := Try.prog) (T := 48) Try.underlying48 size1 bb (off + q * 128) R (128 - R) (by omega) rfl
      have hall := arr_off_run (P := Try.prog) (T := 40) Try.underlying40 size1 (by omega) g (i * 32)
      have hle := len_elt (n := 32) (by omega) hlt (xs := xs)
      obtain ⟨x, hx⟩ : ∃ x, x = elt xs i := ⟨_, rfl⟩
      have hns := next_sector xs hxl hlt
      have htk : ((xs.drop (32 * i)).take (128 - R)).take 32 = x := by rw [hx, elt, List.take_take, Nat.min_eq_left (by omega)]
      rw [← hx] at hle hns
      have hsrc : SlB wr B (some ⟨bb, off + q * 128 + R, none⟩) (128 - R) (128 - R) ((xs.drop (32 * i)).take (128 - R)) :=
        ⟨by simp only [List.length_map, List.length_take, List.length_drop, hxl]; omega, Nat.le_refl _, by simp [maxLen]; omega, fun _ => ⟨bb, off + q * 128 + R, rfl, hbB, fun j u hu => by
          have hj : j < 128 - R := by
            have := (List.getElem?_eq_some_iff.1 hu).1
            simp only [List.length_map, List.length_take] at this
            omega
          rw [List.map_take, List.getElem?_take, if_pos hj, List.map_drop, List.getElem?_drop] at hu
          refine (hw.cell (p := ⟨bb, off + q * 128 + R + j, none⟩) (Nat.lt_of_lt_of_le hbB hB)).trans ?_
          rw [show off + q * 128 + R + j = off + (32 * i + j) by omega]
          exact HCL.out _ _ (by simpa [arr8] using hu)⟩⟩
      have HNS := Lib.hid hns
      have H4 := Lib.hid h4
      have HTK := Lib.hid htk
      have HSR := Lib.hid hsrc
      clear hx hns h4 hq hr hR hoff htk hsrc
      go_wp2_with fail
      refine (wpIn_wide (n := 4)).1 ?_
      refine wpIn_region_rel free_wide rfl 12 (fun W W' => Below W.heap.size W W') (fun W => Below wr.heap.size wr W)
        [Det (.slice (some ⟨g, 0, none⟩) 32 32), Det (.int .i64 (i : Int)), Det (.pointer (some ⟨g, i * 32, none⟩)), Det (.slice (some ⟨g, i * 32, none⟩) 32 32), Det (.slice (some ⟨bb, off, none⟩) 8 c), Det (.int .i64 (i : Int)), Det (.int .i64 (q : Int)), Det (.pointer (some ⟨bb, off + q * 128, none⟩)), Det (.int .i64 (i : Int)), Det (.int .i64 (r : Int)), Det (.int .i64 (R : Int)), Det (.slice (some ⟨bb, off + q * 128 + R, none⟩) (128 - R) (128 - R)), Any]
        [[], [], [(0, some 16), (1, some 17)], [(2, some 18)], [], [], [(5, some 21)], [(4, some 20), (6, some 22)], [], [(8, some 24)], [(9, some 25)], [(7, some 23), (10, some 26)], [(3, some 19), (11, some 27)]]
        [[], [], [0, 1], [0, 1, 2], [], [], [5], [4, 5, 6], [], [8], [8, 9], [4, 5, 6, 7, 8, 9, 10], [0, 1, 2, 3, 4, 5, 6, 7, 8, 9, 10, 11]]
        [(0, some 16), (1, some 17), (2, some 18), (3, some 19), (4, some 20), (5, some 21), (6, some 22), (7, some 23), (8, some 24), (9, some 25), (10, some 26), (11, some 27), (12, some 28)] (by kernel_rfl) (by kernel_rfl) (by kernel_rfl) (fun W W' h1 h2 => h1.trans (h2.mono h1.size)) ((Below.refl _ _).drew) ?_ ?_ ?_
      · exact (AllMono.cons Det.later (AllMono.cons Det.later (AllMono.cons Det.later (AllMono.cons Det.later (AllMono.cons Det.later (AllMono.cons Det.later (AllMono.cons Det.later (AllMono.cons Det.later (AllMono.cons Det.later (AllMono.cons Det.later (AllMono.cons Det.later (AllMono.cons Det.later (AllMono.cons Any.later AllMono.nil)))))))))))))
      · refine AllOb.cons ?_ (AllOb.cons ?_ (AllOb.cons ?_ (AllOb.cons ?_ (AllOb.cons ?_ (AllOb.cons ?_ (AllOb.cons ?_ (AllOb.cons ?_ (AllOb.cons ?_ (AllOb.cons ?_ (AllOb.cons ?_ (AllOb.cons ?_ (AllOb.nil))))))))))))
        · intro uF W hC' hU aF hF
          have hC : Below wr.heap.size wr W := hC'
          clear hC'
          simp only [puts] at hF
          subst hF
          go_wp2_with (fail)
          exact ⟨rfl, rfl, (Below.refl _ _), rfl⟩
        · intro uF W hC' hU aF hF
          have hC : Below wr.heap.size wr W := hC'
          clear hC'
          simp only [puts] at hF
          subst hF
          go_wp2_with (fail)
          exact ⟨rfl, rfl, (Below.refl _ _), rfl⟩
        · intro uF W hC' hU aF hF
          have hC : Below wr.heap.size wr W := hC'
          clear hC'
          have h16 : (Det (.slice (some ⟨g, 0, none⟩) 32 32)) (uF 0) W := hU.1
          have h17 : (Det (.int .i64 (i : Int))) (uF 1) W := hU.2.1
          clear hU
          simp only [puts, Act.put, List.setIfInBounds_toArray, List.set_cons_zero, List.set_cons_succ] at hF
          generalize uF 0 = x16 at h16 hF
          generalize uF 1 = x17 at h17 hF
          obtain rfl : x16 = (.slice (some ⟨g, 0, none⟩) 32 32) := h16
          obtain rfl : x17 = (.int .i64 (i : Int)) := h17
          subst hF
          go_wp2_with (fail)
          exact ⟨rfl, rfl, (Below.refl _ _), rfl⟩
        · intro uF W hC' hU aF hF
          have hC : Below wr.heap.size wr W := hC'
          clear hC'
          have h18 : (Det (.pointer (some ⟨g, i * 32, none⟩))) (uF 2) W := hU.1
          clear hU
          simp only [puts, Act.put, List.setIfInBounds_toArray, List.set_cons_zero, List.set_cons_succ] at hF
          generalize uF 2 = x18 at h18 hF
          obtain rfl : x18 = (.pointer (some ⟨g, i * 32, none⟩)) := h18
          subst hF
          go_wp2_with (fail)
          exact ⟨rfl, rfl, (Below.refl _ _), rfl⟩
        · intro uF W hC' hU aF hF
          have hC : Below wr.heap.size wr W := hC'
          clear hC'
          simp only [puts] at hF
          subst hF
          go_wp2_with (fail)
          exact ⟨rfl, rfl, (Below.refl _ _), rfl⟩
        · intro uF W hC' hU aF hF
          have hC : Below wr.heap.size wr W := hC'
          clear hC'
          simp only [puts] at hF
          subst hF
          go_wp2_with (fail)
          exact ⟨rfl, rfl, (Below.refl _ _), rfl⟩
        · intro uF W hC' hU aF hF
          have hC : Below wr.heap.size wr W := hC'
          clear hC'
          have h21 : (Det (.int .i64 (i : Int))) (uF 5) W := hU.1
          clear hU
          simp only [puts, Act.put, List.setIfInBounds_toArray, List.set_cons_zero, List.set_cons_succ] at hF
          generalize uF 5 = x21 at h21 hF
          obtain rfl : x21 = (.int .i64 (i : Int)) := h21
          subst hF
          go_wp2_with (fail)
          exact ⟨rfl, rfl, (Below.refl _ _), rfl⟩
        · intro uF W hC' hU aF hF
          have hC : Below wr.heap.size wr W := hC'
          clear hC'
          have h20 : (Det (.slice (some ⟨bb, off, none⟩) 8 c)) (uF 4) W := hU.1
          have h22 : (Det (.int .i64 (q : Int))) (uF 6) W := hU.2.1
          clear hU
          simp only [puts, Act.put, List.setIfInBounds_toArray, List.set_cons_zero, List.set_cons_succ] at hF
          generalize uF 4 = x20 at h20 hF
          generalize uF 6 = x22 at h22 hF
          obtain rfl : x20 = (.slice (some ⟨bb, off, none⟩) 8 c) := h20
          obtain rfl : x22 = (.int .i64 (q : Int)) := h22
          subst hF
          go_wp2_with (fail)
          exact ⟨rfl, rfl, (Below.refl _ _), rfl⟩
        · intro uF W hC' hU aF hF
          have hC : Below wr.heap.size wr W := hC'
          clear hC'
          simp only [puts] at hF
          subst hF
          go_wp2_with (fail)
          exact ⟨rfl, rfl, (Below.refl _ _), rfl⟩
        · intro uF W hC' hU aF hF
          have hC : Below wr.heap.size wr W := hC'
          clear hC'
          have h24 : (Det (.int .i64 (i : Int))) (uF 8) W := hU.1
          clear hU
          simp only [puts, Act.put, List.setIfInBounds_toArray, List.set_cons_zero, List.set_cons_succ] at hF
          generalize uF 8 = x24 at h24 hF
          obtain rfl : x24 = (.int .i64 (i : Int)) := h24
          subst hF
          go_wp2_with (fail)
          exact ⟨rfl, rfl, (Below.refl _ _), rfl⟩
        · intro uF W hC' hU aF hF
          have hC : Below wr.heap.size wr W := hC'
          clear hC'
          have h25 : (Det (.int .i64 (r : Int))) (uF 9) W := hU.1
          clear hU
          simp only [puts, Act.put, List.setIfInBounds_toArray, List.set_cons_zero, List.set_cons_succ] at hF
          generalize uF 9 = x25 at h25 hF
          obtain rfl : x25 = (.int .i64 (r : Int)) := h25
          subst hF
          go_wp2_with (fail)
          exact ⟨rfl, rfl, (Below.refl _ _), rfl⟩
        · intro uF W hC' hU aF hF
          have hC : Below wr.heap.size wr W := hC'
          clear hC'
          have h23 : (Det (.pointer (some ⟨bb, off + q * 128, none⟩))) (uF 7) W := hU.1
          have h26 : (Det (.int .i64 (R : Int))) (uF 10) W := hU.2.1
          clear hU
          simp only [puts, Act.put, List.setIfInBounds_toArray, List.set_cons_zero, List.set_cons_succ] at hF
          generalize uF 7 = x23 at h23 hF
          generalize uF 10 = x26 at h26 hF
          obtain rfl : x23 = (.pointer (some ⟨bb, off + q * 128, none⟩)) := h23
          obtain rfl : x26 = (.int .i64 (R : Int)) := h26
          subst hF
          go_wp2_with (fail)
          exact ⟨rfl, rfl, (Below.refl _ _), rfl⟩
      intro uF W5 hC' hU aF hF
      have hCW5 : Below wr.heap.size wr W5 := hC'
      clear hC'
      have h19 : (Det (.slice (some ⟨g, i * 32, none⟩) 32 32)) (uF 3) W5 := hU.2.2.2.1
      have h27 : (Det (.slice (some ⟨bb, off + q * 128 + R, none⟩) (128 - R) (128 - R))) (uF 11) W5 := hU.2.2.2.2.2.2.2.2.2.2.2.1
      clear hU
      simp only [List.take_succ_cons, List.take_zero, puts, Act.put, List.setIfInBounds_toArray, List.set_cons_zero, List.set_cons_succ] at hF
      generalize uF 0 = x16 at hF
      generalize uF 1 = x17 at hF
      generalize uF 2 = x18 at hF
      generalize uF 3 = x19 at h19 hF
      generalize uF 4 = x20 at hF
      generalize uF 5 = x21 at hF
      generalize uF 6 = x22 at hF
      generalize uF 7 = x23 at hF
      generalize uF 8 = x24 at hF
      generalize uF 9 = x25 at hF
      generalize uF 10 = x26 at hF
      generalize uF 11 = x27 at h27 hF
      obtain rfl : x19 = (.slice (some ⟨g, i * 32, none⟩) 32 32) := h19
      obtain rfl : x27 = (.slice (some ⟨bb, off + q * 128 + R, none⟩) (128 - R) (128 - R)) := h27
      subst hF
      simp only [List.drop_succ_cons, List.drop_zero]
      refine wpListIn_of free_wide ?_ rfl ?_
      · rintro ⟨_, _, h⟩
        obtain ⟨_, h1, _⟩ := h
        cases h1
      refine wpList_copyC rfl (.tmp 19) (.tmp 27) 22 rfl Try.underlying22 (by kernel_rfl) rfl (Row.below H4.out hCW5) (by omega) rfl (SlB.below HSR.out (hCW5.mono (Nat.le_trans hB hz))) (s := x) (by rw [show Nat.min (128 - R) 32 = 32 from Nat.min_eq_right (by omega)]; exact HTK.out) (by omega) (by rw [hle]; exact (Nat.min_eq_right (by omega)).symm) ?_
      intro w6 h6 hg6' hs6
      rw [show i * 32 = 32 * i by omega, HNS.out] at h6
      have hw6 : Below w.heap.size w w6 := (hw.trans (hCW5.mono hz)).grown hg6' (Nat.le_trans hz hCW5.size) (fun k hk => by cases hk; exact hwg)
      simp only [Act.put]
      clear hs6 hg6'
      go_wp2_with fail
      exact ⟨⟨i + 1, by omega, by go_num, h6, hw6⟩, by simp [intOf]; omega⟩
    · obtain rfl : i = 32 := by omega
      have hii : ¬ ((32 : Nat) : Int) < 32 := by omega
      rw [List.take_of_length_le (by omega), List.drop_of_length_le (by rw [len_zs8]; omega), List.append_nil] at h4
      go_wp2_with fail
      go_ret2
      exact ⟨g, rfl, h4, hw⟩
end Go.Proofs.Ytbjiokjmidipaaa

