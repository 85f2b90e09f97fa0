/-
  TreeSectors: which sectors a tree has, and that it comes back from them.
-/
import Derived.Test.YtbjiokjmidipaaaTags
import Derived.Test.YtbjiokjmidipaaaErr
namespace Go.Proofs.Ytbjiokjmidipaaa.treeSectors
open Go.RowKit
set_option linter.unusedVariables false
set_option linter.unusedSimpArgs false
set_option maxRecDepth 100000

theorem wrap_u64_nn (x : Int) : 0 ≤ IntKind.u64.wrap x := by rw [wrap_u64]; omega
theorem tags_n {w : World} {B : Nat} {A : Option Addr} {n c : Nat} {xs : List UInt8} (hn : n = 8) (hx : SlC w B A n c xs) (hB : B ≤ w.heap.size) :
    Calls Try.prog 33 #[.slice A n c] w fun e w' => ∃ g, e = .returned (.tuple #[.slice (some ⟨g, 0, none⟩) 32 32, .nilIface]) ∧ Below w.heap.size w w' := by
  subst hn
  refine (tags_c hx hB).mono ?_
  rintro e w' ⟨g, h1, _, h2⟩
  exact ⟨g, h1, h2⟩

set_option maxHeartbeats 4000000 in
theorem walk (A0 : Option Addr) (n0 c0 : Nat) (bs0 : List UInt8) (a1 : Int) (w : World) (w0 : SlB w w.heap.size A0 n0 c0 bs0) (y0 : c0 ≤ 140737488351232) (x1 : (Lit.int .i64 a1).wf = true) :
    Calls Try.prog 10 #[.slice A0 n0 c0, .int .i64 a1] w fun e w' => e = .returned (.bool true) ∧ Below w.heap.size w w' := by
  have hnb0 : n0 ≤ 140737488351232 := Nat.le_trans w0.le y0
  by_cases hbig : 200 < n0
  · have hbi : (200 : Int) < (n0 : Int) := by omega
    clear w0
    go_enter Try.func10, Try.ntmps10
    go_wp2_with fail
    go_ret
    exact ⟨rfl, Below.refl _ _⟩
  have hbi : ¬ (200 : Int) < (n0 : Int) := by omega
  obtain ⟨u, hu⟩ : ∃ u : Nat, IntKind.u64.wrap a1 = (u : Int) := ⟨(IntKind.u64.wrap a1).toNat, by rw [Int.toNat_of_nonneg (wrap_u64_nn _)]⟩
  obtain ⟨kk, hkk⟩ : ∃ kk : Nat, kk = u % 12 := ⟨_, rfl⟩
  have htm : ((u : Int)).tmod 12 = (kk : Int) := by rw [Int.tmod_eq_emod_of_nonneg (by omega)]; omega
  have hmd : (u : Int) % 12 = (kk : Int) := by omega
  have hk12 : (kk : Int) < 12 := by omega
  have hk0 : (0 : Int) ≤ (kk : Int) := by omega
  have hmk := makeNC kk (kk : Int) rfl (by omega)
  have W0 := Lib.hid w0
  clear w0 hkk
  by_cases h32 : n0 = 32
  · by_cases hk8 : kk = 8
    · subst hk8
      clear hmk
      have hmk := makeNC 8 8 rfl (by omega)
      have htm2 : ((u : Int)).tmod 12 = 8 := htm
      have hmd2 : (u : Int) % 12 = 8 := hmd
      clear htm hmd hk12 hk0
      subst h32
      go_enter Try.func10, Try.ntmps10
      go_wp2_with (first
        | (go_at_call 19; refine (sums_c W0.out (Nat.le_refl _) (by omega)).mono ?_; rintro e v2 ⟨A2, c2, rfl, h2, hb2⟩; have hz2 := hb2.size)
        | (go_at_call 32; refine (sectors_c h2.sl (Nat.le_refl _)).mono ?_; rintro e v3 ⟨g, rfl, h3, hb3⟩; have hv3 := hb2.trans (hb3.mono hz2); have hz3 := hv3.size; have h23 := OwS.below h2 hb3; have hal := below_alloc v3 (.cells (arr8 (List.replicate (8 * 128) 0)) 48); have hv3a := hv3.trans (hal.mono hz3); have h3a := Row.below h3 hal; have h23a := OwS.below h23 hal)
        | (go_at_call 33; (with_reducible show Calls _ _ #[.slice (some ⟨v3.heap.size, 0, none⟩) 8 8] _ _); refine (tags_n rfl (SlC.zero (w := v3) (n := 8) (by omega) (Nat.lt_succ_self _)) (by simp)).mono ?_; rintro e v4 ⟨g4, rfl, hb4⟩; have hb34 := hal.trans (hb4.mono hal.size)))
      have hv4 := hv3.trans (hb34.mono hz3)
      have hz4 := hv4.size
      have c4 := Row.below h3 hb34
      have l4 := OwS.below h23 hb34
      have hxl : (sumsOf bs0).length = 1024 := by have := l4.len; omega
      obtain ⟨xs, hxs⟩ : ∃ xs, xs = sumsOf bs0 := ⟨_, rfl⟩
      rw [← hxs] at c4 l4 hxl
      have C4 := Lib.hid c4
      have L4 := Lib.hid l4
      have HV4 := Lib.hid hv4
      clear hxs h2 h3 h23 h3a h23a hb2 hb3 hb34 hv3 hv3a hal hv4 c4 l4
      go_loopw [66] (fun v66 wr => ∃ i : Nat, i ≤ 32 ∧ v66 = .int .i64 (i : Int) ∧ Below v4.heap.size v4 wr) (fun v66 _ => 32 - (intOf v66).toNat)
      case atStart => exact ⟨0, by omega, rfl, Below.refl _ _⟩
      case round =>
        obtain ⟨i, hi, rfl, hw⟩ := hrel
        have hzw := hw.size
        by_cases hlt : i < 32
        · have hii : (i : Int) < 32 := by omega
          have hi0 : (0 : Int) ≤ (i : Int) := by omega
          have HW0 := Lib.hid hw
          clear hw
          go_wp2_with fail
          go_loopw [69] (fun v69 wr2 => ∃ k : Nat, k ≤ 32 ∧ v69 = .int .i64 (k : Int) ∧ Below v4.heap.size v4 wr2) (fun v69 _ => 32 - (intOf v69).toNat)
          case atStart => exact ⟨0, by omega, rfl, HW0.out⟩
          case round =>
            clear HW0
            obtain ⟨k, hk, rfl, hw⟩ := hrel
            have hzw := hw.size
            by_cases hkl : k < 32
            · have hki : (k : Int) < 32 := by omega
              have hki0 : (0 : Int) ≤ (k : Int) := by omega
              obtain ⟨b2, o2, e2, hb2', hj2⟩ := (OwS.below L4.out hw).sl.at_ (by have := (L4.out).le; omega)
              subst e2
              obtain ⟨g', o', e3, hb3', hj3⟩ := Sl.at_ (Row.sl (Row.below C4.out hw)) (by omega)
              simp only [Option.some.injEq, Addr.mk.injEq, and_true] at e3
              obtain ⟨rfl, rfl⟩ := e3
              obtain ⟨q, hq⟩ : ∃ q, q = i / 4 := ⟨_, rfl⟩
              obtain ⟨r, hr⟩ : ∃ r, r = i % 4 := ⟨_, rfl⟩
              obtain ⟨R, hR⟩ : ∃ R, R = 32 * r := ⟨_, rfl⟩
              obtain ⟨S, hS⟩ : ∃ S, S = R + k := ⟨_, rfl⟩
              obtain ⟨x, hx⟩ : ∃ x, xs[32 * i + k]? = some x := ⟨xs[32 * i + k]'(by omega), List.getElem?_eq_getElem (by omega)⟩
              have d2 : wr.cell? ⟨b2, o2 + i * 32 + k, none⟩ = some (.int .u8 (x.toNat : Int)) := hj2 i hlt k _ (by rw [arr8_get, elt, List.getElem?_take, if_pos hkl, List.getElem?_drop, hx]; rfl)
              have d3 : wr.cell? ⟨g, q * 128 + S, none⟩ = some (.int .u8 (x.toNat : Int)) := by
                have := hj3 (32 * i + k) (b8 x) (by rw [List.getElem?_map, hx]; rfl)
                rw [show 0 + (32 * i + k) = q * 128 + S by omega] at this
                exact this
              have htd : ((i : Int)).tdiv 4 = (q : Int) := by rw [Int.tdiv_eq_ediv_of_nonneg (by omega), hq]; rfl
              have hed : (i : Int) / 4 = (q : Int) := by rw [hq]; rfl
              have htm4 : ((i : Int)).tmod 4 = (r : Int) := by rw [Int.tmod_eq_emod_of_nonneg (by omega), hr]; rfl
              have hem : (i : Int) % 4 = (r : Int) := by rw [hr]; rfl
              have hRi : 32 * (r : Int) = (R : Int) := by omega
              have hSi : (R : Int) + (k : Int) = (S : Int) := by omega
              have hq8 : (q : Int) < 8 := by omega
              have hq0 : (0 : Int) ≤ (q : Int) := by omega
              have hr4 : (r : Int) < 4 := by omega
              have hr0 : (0 : Int) ≤ (r : Int) := by omega
              have hS0 : (0 : Int) ≤ (S : Int) := by omega
              have hS128 : (S : Int) < 128 := by omega
              have hR0 : (0 : Int) ≤ (R : Int) := by omega
              have hR96 : (R : Int) ≤ 96 := by omega
              have HW1 := Lib.hid hw
              clear hw hj2 hj3 hx hq hr hR hS
              go_wp2_with fail
              go_quiet (fail)
              go_wp2_with fail
              exact ⟨⟨k + 1, by omega, by go_num, below_drewN HW1.out _⟩, by simp [intOf]; omega⟩
            · obtain rfl : k = 32 := by omega
              have hki : ¬ ((32 : Nat) : Int) < 32 := by omega
              go_wp2_with fail
              exact ⟨⟨i + 1, by omega, by go_num, hw⟩, by simp [intOf]; omega⟩
        · obtain rfl : i = 32 := by omega
          have hii : ¬ ((32 : Nat) : Int) < 32 := by omega
          have hv5 := HV4.out.trans (hw.mono hz4)
          have c5 := Row.below C4.out hw
          have l5 := OwS.below L4.out hw
          have hz5 := hv5.size
          clear C4 L4 HV4
          go_wp2_with (first
            | (go_at_call 33; refine (tags_c (Row.sl c5) (Nat.le_refl _)).mono ?_; rintro e v6 ⟨g6, rfl, h6, hb6⟩; have hv6 := hv5.trans (hb6.mono hz5); have hz6 := hv6.size; have l6 := OwS.below l5 hb6)
            | (go_at_call 21; refine (same2_c h6.sl l6.sl (Nat.le_refl _) (Nat.le_refl _) true (by simp)).mono ?_; rintro e v7 ⟨rfl, hb7⟩))
          go_ret
          exact ⟨rfl, hv6.trans (hb7.mono hz6)⟩
    · have hk8i : ((kk : Int) == 8) = false := by rw [beq_eq_false_iff_ne]; omega
      have hk8j : ¬ (kk : Int) = 8 := by omega
      subst h32
      go_enter Try.func10, Try.ntmps10
      go_wp2_with (first
        | (go_at_call 19; refine (sums_c W0.out (Nat.le_refl _) (by omega)).mono ?_; rintro e v2 ⟨A2, c2, rfl, h2, hb2⟩; have hz2 := hb2.size)
        | (go_at_call 32; refine (sectors_c h2.sl (Nat.le_refl _)).mono ?_; rintro e v3 ⟨g, rfl, h3, hb3⟩; have hv3 := hb2.trans (hb3.mono hz2); have hz3 := hv3.size; have h23 := OwS.below h2 hb3; have hal := below_alloc v3 (.cells (arr8 (List.replicate (kk * 128) 0)) 48); have hv3a := hv3.trans (hal.mono hz3); have h3a := Row.below h3 hal; have h23a := OwS.below h23 hal)
        | (go_at_call 33; (with_reducible show Calls _ _ #[.slice (some ⟨v3.heap.size, 0, none⟩) kk kk] _ _); refine (tags_bad (A := some ⟨v3.heap.size, 0, none⟩) (c := kk) hk8 (by omega)).mono ?_; rintro e v4 ⟨rfl, hv4⟩; have hb34 : Below v3.heap.size v3 v4 := (by rw [← hv4]; exact hal))
        | (go_at_call 22; refine (is_err 2 2 rfl true rfl _).mono ?_; rintro e w2 ⟨rfl, rfl⟩))
      have hv4 := hv3.trans (hb34.mono hz3)
      have hz4 := hv4.size
      have c4 := Row.below h3 hb34
      have l4 := OwS.below h23 hb34
      have hxl : (sumsOf bs0).length = 1024 := by have := l4.len; omega
      obtain ⟨xs, hxs⟩ : ∃ xs, xs = sumsOf bs0 := ⟨_, rfl⟩
      rw [← hxs] at c4 l4 hxl
      have C4 := Lib.hid c4
      have L4 := Lib.hid l4
      have HV4 := Lib.hid hv4
      clear hxs h2 h3 h23 h3a h23a hb2 hb3 hb34 hv3 hv3a hal hv4 c4 l4 
      go_loopw [66] (fun v66 wr => ∃ i : Nat, i ≤ 32 ∧ v66 = .int .i64 (i : Int) ∧ Below v4.heap.size v4 wr) (fun v66 _ => 32 - (intOf v66).toNat)
      case atStart => exact ⟨0, by omega, rfl, Below.refl _ _⟩
      case round =>
        obtain ⟨i, hi, rfl, hw⟩ := hrel
        have hzw := hw.size
        by_cases hlt : i < 32
        · have hii : (i : Int) < 32 := by omega
          have hi0 : (0 : Int) ≤ (i : Int) := by omega
          have HW0 := Lib.hid hw
          clear hw
          go_wp2_with fail
          go_loopw [69] (fun v69 wr2 => ∃ k : Nat, k ≤ 32 ∧ v69 = .int .i64 (k : Int) ∧ Below v4.heap.size v4 wr2) (fun v69 _ => 32 - (intOf v69).toNat)
          case atStart => exact ⟨0, by omega, rfl, HW0.out⟩
          case round =>
            clear HW0
            obtain ⟨k, hk, rfl, hw⟩ := hrel
            have hzw := hw.size
            by_cases hkl : k < 32
            · have hki : (k : Int) < 32 := by omega
              have hki0 : (0 : Int) ≤ (k : Int) := by omega
              obtain ⟨b2, o2, e2, hb2', hj2⟩ := (OwS.below L4.out hw).sl.at_ (by have := (L4.out).le; omega)
              subst e2
              obtain ⟨g', o', e3, hb3', hj3⟩ := Sl.at_ (Row.sl (Row.below C4.out hw)) (by omega)
              simp only [Option.some.injEq, Addr.mk.injEq, and_true] at e3
              obtain ⟨rfl, rfl⟩ := e3
              obtain ⟨q, hq⟩ : ∃ q, q = i / 4 := ⟨_, rfl⟩
              obtain ⟨r, hr⟩ : ∃ r, r = i % 4 := ⟨_, rfl⟩
              obtain ⟨R, hR⟩ : ∃ R, R = 32 * r := ⟨_, rfl⟩
              obtain ⟨S, hS⟩ : ∃ S, S = R + k := ⟨_, rfl⟩
              obtain ⟨x, hx⟩ : ∃ x, xs[32 * i + k]? = some x := ⟨xs[32 * i + k]'(by omega), List.getElem?_eq_getElem (by omega)⟩
              have d2 : wr.cell? ⟨b2, o2 + i * 32 + k, none⟩ = some (.int .u8 (x.toNat : Int)) := hj2 i hlt k _ (by rw [arr8_get, elt, List.getElem?_take, if_pos hkl, List.getElem?_drop, hx]; rfl)
              have d3 : wr.cell? ⟨g, q * 128 + S, none⟩ = some (.int .u8 (x.toNat : Int)) := by
                have := hj3 (32 * i + k) (b8 x) (by rw [List.getElem?_map, hx]; rfl)
                rw [show 0 + (32 * i + k) = q * 128 + S by omega] at this
                exact this
              have htd : ((i : Int)).tdiv 4 = (q : Int) := by rw [Int.tdiv_eq_ediv_of_nonneg (by omega), hq]; rfl
              have hed : (i : Int) / 4 = (q : Int) := by rw [hq]; rfl
              have htm4 : ((i : Int)).tmod 4 = (r : Int) := by rw [Int.tmod_eq_emod_of_nonneg (by omega), hr]; rfl
              have hem : (i : Int) % 4 = (r : Int) := by rw [hr]; rfl
              have hRi : 32 * (r : Int) = (R : Int) := by omega
              have hSi : (R : Int) + (k : Int) = (S : Int) := by omega
              have hq8 : (q : Int) < 8 := by omega
              have hq0 : (0 : Int) ≤ (q : Int) := by omega
              have hr4 : (r : Int) < 4 := by omega
              have hr0 : (0 : Int) ≤ (r : Int) := by omega
              have hS0 : (0 : Int) ≤ (S : Int) := by omega
              have hS128 : (S : Int) < 128 := by omega
              have hR0 : (0 : Int) ≤ (R : Int) := by omega
              have hR96 : (R : Int) ≤ 96 := by omega
              have HW1 := Lib.hid hw
              clear hw hj2 hj3 hx hq hr hR hS
              go_wp2_with fail
              go_quiet (fail)
              go_wp2_with fail
              exact ⟨⟨k + 1, by omega, by go_num, below_drewN HW1.out _⟩, by simp [intOf]; omega⟩
            · obtain rfl : k = 32 := by omega
              have hki : ¬ ((32 : Nat) : Int) < 32 := by omega
              go_wp2_with fail
              exact ⟨⟨i + 1, by omega, by go_num, hw⟩, by simp [intOf]; omega⟩
        · obtain rfl : i = 32 := by omega
          have hii : ¬ ((32 : Nat) : Int) < 32 := by omega
          have hv5 := HV4.out.trans (hw.mono hz4)
          have c5 := Row.below C4.out hw
          have l5 := OwS.below L4.out hw
          have hz5 := hv5.size
          clear C4 L4 HV4
          go_wp2_with (first
            | (go_at_call 33; refine (tags_c (Row.sl c5) (Nat.le_refl _)).mono ?_; rintro e v6 ⟨g6, rfl, h6, hb6⟩; have hv6 := hv5.trans (hb6.mono hz5); have hz6 := hv6.size; have l6 := OwS.below l5 hb6)
            | (go_at_call 21; refine (same2_c h6.sl l6.sl (Nat.le_refl _) (Nat.le_refl _) true (by simp)).mono ?_; rintro e v7 ⟨rfl, hb7⟩))
          go_ret
          exact ⟨rfl, hv6.trans (hb7.mono hz6)⟩
  · by_cases hk8 : kk = 8
    · subst hk8
      clear hmk
      have hmk := makeNC 8 8 rfl (by omega)
      have htm2 : ((u : Int)).tmod 12 = 8 := htm
      have hmd2 : (u : Int) % 12 = 8 := hmd
      clear htm hmd hk12 hk0
      have hne : ((n0 : Int) != 32) = true := by rw [bne_iff_ne]; omega
      have hne2 : ¬ (n0 : Int) = 32 := by omega
      go_enter Try.func10, Try.ntmps10
      go_wp2_with (first
        | (go_at_call 19; refine (sums_c W0.out (Nat.le_refl _) (by omega)).mono ?_; rintro e v2 ⟨A2, c2, rfl, h2, hb2⟩; have hz2 := hb2.size)
        | (go_at_call 32; refine (sectors_bad h32 (by omega)).mono ?_; rintro e v3 ⟨rfl, rfl⟩; have hal := below_alloc v2 (.cells (arr8 (List.replicate (8 * 128) 0)) 48); have hv3a := hb2.trans (hal.mono hz2))
        | (go_at_call 33; (with_reducible show Calls _ _ #[.slice (some ⟨v2.heap.size, 0, none⟩) 8 8] _ _); refine (tags_n rfl (SlC.zero (w := v2) (n := 8) (by omega) (Nat.lt_succ_self _)) (by simp)).mono ?_; rintro e v4 ⟨g4, rfl, hb4⟩; have hb34 := hal.trans (hb4.mono hal.size))
        | (go_at_call 22; refine (is_err 2 2 rfl true rfl _).mono ?_; rintro e w2 ⟨rfl, rfl⟩))
      go_ret
      exact ⟨rfl, hb2.trans (hb34.mono hz2)⟩
    · have hk8i : ((kk : Int) == 8) = false := by rw [beq_eq_false_iff_ne]; omega
      have hk8j : ¬ (kk : Int) = 8 := by omega
      have hne : ((n0 : Int) != 32) = true := by rw [bne_iff_ne]; omega
      have hne2 : ¬ (n0 : Int) = 32 := by omega
      go_enter Try.func10, Try.ntmps10
      go_wp2_with (first
        | (go_at_call 19; refine (sums_c W0.out (Nat.le_refl _) (by omega)).mono ?_; rintro e v2 ⟨A2, c2, rfl, h2, hb2⟩; have hz2 := hb2.size)
        | (go_at_call 32; refine (sectors_bad h32 (by omega)).mono ?_; rintro e v3 ⟨rfl, rfl⟩; have hal := below_alloc v2 (.cells (arr8 (List.replicate (kk * 128) 0)) 48); have hv3a := hb2.trans (hal.mono hz2))
        | (go_at_call 33; (with_reducible show Calls _ _ #[.slice (some ⟨v2.heap.size, 0, none⟩) kk kk] _ _); refine (tags_bad (A := some ⟨v2.heap.size, 0, none⟩) (c := kk) hk8 (by omega)).mono ?_; rintro e v4 ⟨rfl, hv4⟩; have hb34 : Below v2.heap.size v2 v4 := (by rw [← hv4]; exact hal))
        | (go_at_call 22; refine (is_err 2 2 rfl true rfl _).mono ?_; rintro e w2 ⟨rfl, rfl⟩))
      go_ret
      exact ⟨rfl, hb2.trans (hb34.mono hz2)⟩
end Go.Proofs.Ytbjiokjmidipaaa.treeSectors
