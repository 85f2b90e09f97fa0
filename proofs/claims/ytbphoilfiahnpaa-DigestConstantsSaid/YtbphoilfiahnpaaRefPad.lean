/-
  The reference's Pad.
-/
import Derived.Test.YtbphoilfiahnpaaPad
namespace Go.Proofs.Ytbphoilfiahnpaa
open Go.RowKit
set_option linter.unusedVariables false
set_option maxRecDepth 100000

/-- A slice value's length. -/
def slLen : Value → Nat
  | .slice _ n _ => n
  | _ => 0
theorem zer8_snoc (j : Nat) : [128] ++ zer8 (j + 1) = [128] ++ zer8 j ++ [0] := by
  simp only [zer8]
  rw [List.replicate_succ', List.append_assoc]
theorem bigB_drop (x k i : Nat) (h : i < k) : (bigB x k).drop (k - (i + 1)) = [UInt8.ofNat (x / 256 ^ i)] ++ (bigB x k).drop (k - i) := by
  have h1 : k - (i + 1) < (bigB x k).length := by rw [len_bigB]; omega
  rw [List.drop_eq_getElem_cons h1, show k - (i + 1) + 1 = k - i from by omega]
  have := bigB_get x k (k - (i + 1)) (by omega)
  rw [List.getElem?_eq_getElem h1, Option.some.injEq] at this
  rw [this, show k - 1 - (k - (i + 1)) = i from by omega]
  rfl

/-- An append to a row of one cell that fills its block leaves all that lay below the new blocks. -/
theorem Below.of_went {w w' : World} {g n c m c' : Nat} {A' : Option Addr} {o : Obj} (h : Went (w.alloc o) w' (some ⟨g, 0, none⟩) n c m A' c') (hg : g = w.heap.size) : Below (w.heap.size) (w.alloc o) w' := by
  subst hg
  refine (Below.refl _ _).grown h.grown (by simp) fun k hk => ?_
  unfold wrote at hk
  split at hk
  · cases hk
  · simp at hk; omega

set_option maxHeartbeats 1000000 in
theorem refpad_nat (n : Int) (m : Nat) (hl : m ≤ 1099511627776) (hcase : n < 0 ∧ m = 0 ∨ 1099511627776 < n ∧ m = 0 ∨ n = (m : Int)) (hx : -9223372036854775808 ≤ n ∧ n ≤ 9223372036854775807) (w : World) :
    Calls Try.prog 27 #[.int .i64 n] w fun e w' => ∃ A c, e = .returned (.slice A (9 + padZ m) c) ∧ OwB w' w.heap.size A (9 + padZ m) c (padB m) ∧ Below w.heap.size w w' := by
  have hz := padZ_lt m
  obtain ⟨z, hzz⟩ : ∃ z, z = padZ m := ⟨_, rfl⟩
  have HZ := Lib.hid hzz
  have hw0 : OwB (w.alloc (.cells #[.int .u8 128] 5)) w.heap.size (some ⟨w.heap.size, 0, none⟩) 1 1 ([128] ++ zer8 0) := OwB.lit w w.heap.size _ [128] 1 (Nat.le_refl _) rfl (by simp [maxLen]) rfl
  have hb0 : Below w.heap.size w (w.alloc (.cells #[.int .u8 128] 5)) := (Below.refl _ _).alloc (Nat.le_refl _) _
  have hmz : ∀ j : Nat, j ≤ z → ((m + (1 + j) + 8) % 64 = 0 ↔ j = z) := fun j hj => by rw [hzz] at hj ⊢; unfold padZ at hj ⊢; omega
  have HMZ := Lib.hid hmz
  rw [← hzz] at hz
  have H0 := Lib.hid hw0
  clear hzz hmz hw0
  have hm0 : (0 : Int) ≤ (m : Int) := by omega
  have hm1 : (m : Int) ≤ 1099511627776 := by omega
  have hcase' : Hid ((n < 0 ∨ 1099511627776 < n) → m = 0) := Lib.hid (by omega)
  have hcase3 : n < 0 ∨ (0 ≤ n ∧ 1099511627776 < n) ∨ (0 ≤ n ∧ n ≤ 1099511627776) := by omega
  have hnm : Hid (0 ≤ n ∧ n ≤ 1099511627776 → n = (m : Int)) := Lib.hid (by omega)
  clear hcase
  rcases hcase3 with h1 | ⟨h0, h1⟩ | ⟨h0, h1⟩
  all_goals
    go_enter Try.func27, Try.ntmps27
    go_wp2_with fail
    first
      | (have hm' : m = 0 := hcase'.out (by omega)
         have hv : Value.int .i64 0 = Value.int .i64 (m : Int) := by rw [hm']; rfl
         conv => arg 4; rw [hv]
         clear hv hm')
      | (have hn' : n = (m : Int) := hnm.out ⟨h0, h1⟩
         subst hn')
    go_loopw [3] (fun v3 wr => ∃ (j l : Nat) (A : Option Addr) (c : Nat), j ≤ z ∧ l = 1 + j ∧ v3 = .slice A l c ∧ OwB wr w.heap.size A l c ([128] ++ zer8 j) ∧ Below w.heap.size w wr) (fun v3 _ => 65 - slLen v3)
    case atStart =>
      exact ⟨0, 1, _, 1, Nat.zero_le _, rfl, rfl, H0.out, hb0⟩
    case round =>
      clear h1
      obtain ⟨j, l, A, c, hj, hlj, rfl, ho, hb⟩ := hrel
      have hlz : l ≤ 64 := by omega
      have ht := HMZ.out j hj
      rw [← hlj] at ht
      have HLJ := Lib.hid hlj
      have HO := Lib.hid ho
      have hbs := hb.size
      clear hlj
      by_cases hjz : j = z
      · have htt : ((m : Int) + (l : Int) + 8) % 64 = 0 := by have := ht.2 hjz; omega
        have htb : (((m : Int) + (l : Int) + 8) % 64 != 0) = false := by rw [htt]; rfl
        clear ht htt
        go_wp2_with fail
        subst hjz
        have hy0 : m * 8 < 9223372036854775808 := by omega
        obtain ⟨x, hxm⟩ : ∃ x, x = m * 8 := ⟨_, rfl⟩
        have hxc : (m : Int) * 8 = (x : Int) := by omega
        rw [hxc]
        rw [← hxm] at hy0
        have HXM := Lib.hid hxm
        clear hxm hxc htb ho hb0 hm0 hm1
        obtain ⟨wo, hwo⟩ : ∃ wo : World, wo = wr := ⟨_, rfl⟩
        rw [← hwo] at HO hb hbs ⊢
        clear hwo wr
        have HB := Lib.hid hb
        clear hb
        go_loopw [4, 5, 6] (fun v4 v5 v6 wr => ∃ (i y : Nat) (A' : Option Addr) (c' : Nat), i ≤ 8 ∧ y < 9223372036854775808 ∧ y = x / 256 ^ i ∧ v6 = .int .i64 (i : Int) ∧ v4 = .int .i64 (y : Int) ∧ v5 = .slice A' i c' ∧
            OwB wr w.heap.size A' i c' ((bigB x 8).drop (8 - i)) ∧ OwB wr w.heap.size A l c ([128] ++ zer8 j) ∧ Below w.heap.size w wr) (fun _ _ v6 _ => 8 - (intOf v6).toNat)
        case atStart =>
          refine ⟨0, x, none, 0, by omega, hy0, by simp, rfl, rfl, rfl, ?_, HO.out, HB.out⟩
          rw [Nat.sub_zero, List.drop_of_length_le (by rw [len_bigB]; exact Nat.le_refl _)]
          exact OwB.nil _ _ _
        case round =>
          obtain ⟨i, y, A5, c5, hi, hyl, hyx, rfl, rfl, rfl, ho5, ho3, hb⟩ := hrel
          have HYX := Lib.hid hyx
          have HO5 := Lib.hid ho5
          have HO3 := Lib.hid ho3
          have hz5 := hb.size
          clear hyx ho5 ho3
          by_cases hi8 : i < 8
          · have h33 : OwB (wr.alloc (.cells #[.int .u8 ((y : Int) % 256)] 5)) w.heap.size (some ⟨wr.heap.size, 0, none⟩) 1 1 [UInt8.ofNat y] :=
              OwB.lit wr w.heap.size _ [UInt8.ofNat y] 1 hz5 rfl (by simp [maxLen]) (by simp only [List.map_cons, List.map_nil, b8, UInt8.toNat_ofNat']; rfl)
            have H33 := Lib.hid h33
            clear h33
            go_wp2_with (at_builtin; refine wpList_append8 rfl (.tmp 33) (.tmp 34) rfl rfl H33.out rfl (HO5.out.alloc _).sl (by omega) (Nat.le_trans hz5 (by simp)) (i + 1) (by omega) ?_; intro A9 c9 w9 h9 q9)
            go_roundw
            case rel =>
              have h39 : OwB w9 w.heap.size A l c ([128] ++ zer8 j) := Row.below HO3.out (((Below.refl _ _).alloc (Nat.le_refl _) _).trans (Below.of_went q9 rfl))
              refine ⟨i + 1, y / 256, A9, c9, by omega, by omega, ?_, by go_num, rfl, rfl, ?_, h39, q9.below H33.out (hb.alloc hz5 _) (Nat.le_refl _) (Nat.le_trans hz5 (by simp))⟩
              · rw [HYX.out, Nat.div_div_eq_div_mul, ← Nat.pow_succ]
              · rw [bigB_drop _ _ _ hi8, ← HYX.out]
                exact h9
            case measure => simp [intOf]; omega
          · obtain rfl : i = 8 := by omega
            go_wp2_with (at_builtin; refine wpList_append8 rfl (.tmp 38) (.tmp 39) rfl rfl HO3.out rfl HO5.out.sl (by omega) hz5 (l + 8) rfl ?_; intro A9 c9 w9 h9 q9)
            go_ret
            have e1 : l + 8 = 9 + padZ m := by rw [HLJ.out, HZ.out]; omega
            refine ⟨A9, c9, by rw [← e1]; rfl, ?_, q9.below HO3.out hb (Nat.le_refl _) hz5⟩
            rw [← e1, padB, ← HZ.out, ← HXM.out]
            rw [Nat.sub_self, List.drop_zero] at h9
            exact h9
      · have htt : ((m : Int) + (l : Int) + 8) % 64 ≠ 0 := by intro e; exact hjz (ht.1 (by omega))
        have htb : (((m : Int) + (l : Int) + 8) % 64 != 0) = true := by rw [bne_iff_ne]; exact htt
        clear ht htt
        go_wp2_with (at_builtin; refine wpList_append8 rfl (.tmp 21) (.tmp 22) rfl rfl (HO.out.alloc _) rfl (SlB.new wr #[.int .u8 0] [0] 1 (Nat.lt_succ_self _) rfl (by simp [maxLen]) rfl) (by omega) (Nat.le_trans hbs (by simp)) (l + 1) rfl ?_; intro A9 c9 w9 h9 q9)
        go_roundw
        case rel =>
          refine ⟨j + 1, l + 1, A9, c9, by omega, by rw [HLJ.out]; omega, rfl, ?_, q9.below (HO.out.alloc _) (hb.alloc hbs _) (Nat.le_refl _) (Nat.le_trans hbs (by simp))⟩
          rw [zer8_snoc]
          exact h9
        case measure => simp only [slLen]; omega

theorem refpad_c (n : Int) (hn : (Lit.int .i64 n).wf = true) (w : World) :
    Calls Try.prog 27 #[.int .i64 n] w fun e w' => ∃ A c, e = .returned (.slice A (9 + padZ (padN n)) c) ∧ OwB w' w.heap.size A (9 + padZ (padN n)) c (padB (padN n)) ∧ Below w.heap.size w w' :=
  refpad_nat n (padN n) (padN_le n) (by unfold padN; split <;> omega) (i64_bd hn) w
end Go.Proofs.Ytbphoilfiahnpaa
