/-
  The reference's Derive: a key from a key.
-/
import Derived.Test.YtbphoilfiahnpaaRefBlock
import Derived.Test.YtbphoilfiahnpaaDerive
namespace Go.Proofs.Ytbphoilfiahnpaa
open Go.RowKit
set_option linter.unusedVariables false
set_option linter.unusedSimpArgs false
set_option maxRecDepth 100000

theorem refderive_bad {w : World} {A : Option Addr} {n c : Nat} (s : ByteArray) (m : Int) (hm : m < 1 ∨ 1024 < m) :
    Calls Try.prog 48 #[.slice A n c, .string s, .int .i64 m] w fun e w' => e = .returned (.slice none 0 0) ∧ w = w' := by
  by_cases h1 : m < 1
  · have hd : decide (m < 1) = true := decide_eq_true h1
    go_enter Try.func48, Try.ntmps48
    go_wp2_with fail
    go_ret
    exact ⟨rfl, rfl⟩
  · have h2 : 1024 < m := by omega
    have hd : decide (m < 1) = false := decide_eq_false h1
    have hd2 : decide (1024 < m) = true := decide_eq_true h2
    go_enter Try.func48, Try.ntmps48
    go_wp2_with fail
    go_ret
    exact ⟨rfl, rfl⟩

theorem streamB_next (key lab : List UInt8) (j k : Nat) (x : UInt8) (hx : (blockOf key lab (j + 1))[k]? = some x) : (streamB key lab (j + 1)).take (32 * j + k + 1) = (streamB key lab (j + 1)).take (32 * j + k) ++ [x] := by
  rw [List.take_add_one]
  congr 1
  rw [streamB_succ, List.getElem?_append_right (by rw [len_streamB]; omega), len_streamB, show 32 * j + k - 32 * j = k from by omega, hx]
  rfl

set_option maxHeartbeats 2000000 in
theorem refderive_c {w : World} {B : Nat} {A : Option Addr} {n c : Nat} {key : List UInt8} (hk : SlB w B A n c key) (hB : B ≤ w.heap.size) (hn : n ≤ 1099511627776) (s : ByteArray) (hs : s.size ≤ 1099511620000) (m : Nat) (hm1 : 1 ≤ m) (hm2 : m ≤ 1024) :
    Calls Try.prog 48 #[.slice A n c, .string s, .int .i64 (m : Int)] w fun e w' => ∃ A' c', e = .returned (.slice A' m c') ∧ OwB w' w.heap.size A' m c' (derived key s.data.toList m) ∧ Below w.heap.size w w' := by
  have hmi0 : ¬ (m : Int) < 1 := by omega
  have hmi1 : ¬ (1024 : Int) < (m : Int) := by omega
  have hd : decide ((m : Int) < 1) = false := decide_eq_false hmi0
  have hd2 : decide ((1024 : Int) < (m : Int)) = false := decide_eq_false hmi1
  have HK := Lib.hid hk
  have n0 : OwB w w.heap.size none 0 0 ((streamB key s.data.toList 0).take 0) := OwB.nil _ _ _
  clear hk
  go_enter Try.func48, Try.ntmps48
  go_wp2_with fail
  clear hd hd2
  go_loopw [7, 8] (fun v7 v8 wr => ∃ (j i L : Nat) (A7 : Option Addr) (c7 : Nat), i = j + 1 ∧ L = min (32 * j) m ∧ 32 * j < m + 32 ∧ v8 = .int .i64 (i : Int) ∧ v7 = .slice A7 L c7 ∧ OwB wr w.heap.size A7 L c7 ((streamB key s.data.toList j).take L) ∧ Below w.heap.size w wr) (fun _ v8 _ => 100 - (intOf v8).toNat)
  case atStart => exact ⟨0, 1, 0, none, 0, rfl, by simp, by omega, rfl, rfl, n0, Below.refl _ _⟩
  case round =>
    clear n0
    obtain ⟨j, i, L, A7, c7, hi, hL, hjm, rfl, rfl, h7, hb⟩ := hrel
    have hz := hb.size
    by_cases hlt : L < m
    · obtain hL' : L = 32 * j := by omega
      have hli : (L : Int) < (m : Int) := by omega
      have hib : i ≤ 1000000 := by omega
      have HI := Lib.hid hi
      have HL := Lib.hid hL'
      have H7 := Lib.hid h7
      have HB := Lib.hid hb
      have hjl : 32 * j < m := by omega
      clear hi hL hL' h7 hb
      go_wp2_with (first
        | (go_at_call 46; refine (refblock_c (HK.out.below (HB.out.mono hB)) (Nat.le_trans hB hz) hn s hs i hib).mono ?_; rintro e w1 ⟨rfl, hb1⟩; have b9 := Blk.new w1 44 (arr8 (z8' 32)))
        | ((with_reducible show wpList _ _ _ (Oper.mk _ (Op.alloc 44) _ _ _ _ :: _) _ _); refine wpList_alloc_agg rfl 44 rfl (arr8 (z8' 32)) zero44 ?_; (try rw [World.size_alloc]))
        | ((with_reducible show wpList _ _ _ (Oper.mk none (Op.store 44 (.tmp 9) _) _ _ _ _ :: _) _ _); refine wpList_store8 rfl 44 (.tmp 9) (.tmp 26) rfl w1.heap.size rfl (blockOf key s.data.toList i) rfl agg44 (len_blockOf _ _ _) _ _ b9 (by rw [size_arr8, len_z8']) ?_; intro w2 hb2 hg2 hs2; simp only [Act.put, List.setIfInBounds_toArray, List.set_cons_succ, List.set_cons_zero]))
      have hc12 : Below wr.heap.size wr w2 := (hb1.alloc hb1.size _).grown hg2 (Nat.le_trans hb1.size (by simp)) (fun k hk => by cases hk; exact hb1.size)
      have h72 := OwB.below H7.out hc12
      have hbw2 := HB.out.trans (hc12.mono hz)
      have hst : (streamB key s.data.toList (j + 1)).take (32 * j) = (streamB key s.data.toList j).take (32 * j) := by
        rw [streamB_succ, List.take_append_of_le_length (by rw [len_streamB]; omega)]
      rw [HL.out, ← hst] at h72
      have hbl : i = j + 1 := HI.out
      obtain ⟨g9, hg9⟩ : ∃ g9, g9 = w1.heap.size := ⟨_, rfl⟩
      rw [← hg9] at hb2 ⊢
      rw [hbl] at hb2
      have hwg : w.heap.size ≤ g9 := by rw [hg9]; exact Nat.le_trans hz hb1.size
      have h7n : ∀ g, wrote A7 c7 = some g → g ≠ g9 := fun g e => by
        rcases Row.wrote_lt H7.out with h1 | ⟨g', _, h1, _, hl, _⟩
        · rw [h1] at e; cases e
        · rw [h1] at e; cases e
          have := hb1.size
          omega
      have H72 := Lib.hid h72
      have HB2 := Lib.hid hb2
      have HW2 := Lib.hid hbw2
      have H7N := Lib.hid h7n
      have hL0 : L = 32 * j := HL.out
      rw [show (32 * j = L) from hL0.symm] at h72
      clear hst hs2 hg2 hc12 hbw2 hb2 h72 hbl hg9 b9 hb1 h7n hL0
      obtain ⟨wo, rfl⟩ : ∃ wo : World, wo = wr := ⟨_, rfl⟩
      go_loopw [7, 10] (fun v7 v10 wr => ∃ (k M : Nat) (A8 : Option Addr) (c8 : Nat), k ≤ 32 ∧ M = 32 * j + k ∧ M ≤ m ∧ v10 = .int .i64 (k : Int) ∧ v7 = .slice A8 M c8 ∧ OwB wr w.heap.size A8 M c8 ((streamB key s.data.toList (j + 1)).take M) ∧ (∀ g, wrote A8 c8 = some g → g ≠ g9) ∧ Blk wr g9 44 (arr8 (blockOf key s.data.toList (j + 1))) ∧ Below w.heap.size w wr) (fun _ v10 _ => 32 - (intOf v10).toNat)
      case atStart => exact ⟨0, L, A7, c7, by omega, HL.out, by have := HL.out; omega, rfl, rfl, by rw [HL.out]; exact H72.out, H7N.out, HB2.out, HW2.out⟩
      case round =>
        clear H7 HB H72 HB2 HW2 H7N
        obtain ⟨k, M, A8, c8, hk, hM, hMm, rfl, rfl, h8, h8n, hb9, hbw⟩ := hrel
        have hzr := hbw.size
        have HM := Lib.hid hM
        have H8 := Lib.hid h8
        have H8N := Lib.hid h8n
        have HBW := Lib.hid hbw
        by_cases hk32 : k < 32
        · have hki : (k : Int) < 32 := by omega
          have hkd : decide ((k : Int) < 32) = true := decide_eq_true hki
          have hk0 : (0 : Int) ≤ (k : Int) := by omega
          by_cases hMl : M < m
          · have hMi : (M : Int) < (m : Int) := by omega
            obtain ⟨x, hx⟩ : ∃ x, (blockOf key s.data.toList (j + 1))[k]? = some x := ⟨_, List.getElem?_eq_getElem (by rw [len_blockOf]; exact hk32)⟩
            have d9 : wr.cell? ⟨g9, k, none⟩ = some (.int .u8 (x.toNat : Int)) := by rw [hb9.cell, arr8_get, hx]; rfl
            have hsn := streamB_next key s.data.toList j k x hx
            have HB9 := Lib.hid hb9
            have HSN := Lib.hid hsn
            have n9 := SlB.new wr #[.int .u8 (x.toNat : Int)] [x] 1 (Nat.lt_succ_self _) rfl (by simp [maxLen]) rfl
            have H8A := Lib.hid (Row.alloc H8.out (.cells #[.int .u8 (x.toNat : Int)] 5))
            have hMb : M ≤ 1024 := by omega
            clear hx hM h8 h8n hb9 hbw hsn
            go_wp2_with (at_builtin; refine wpList_append8 rfl (.tmp 37) (.tmp 41) rfl rfl H8A.out rfl n9 (by omega) (Nat.le_trans hzr (by simp)) (M + 1) rfl ?_; intro A10 c10 w10 h10 q10)
            have hb10 : Below w.heap.size w w10 := q10.below H8A.out (HBW.out.alloc hzr _) (Nat.le_refl _) (Nat.le_trans hzr (by simp))
            have hs10 : Blk w10 g9 44 (arr8 (blockOf key s.data.toList (j + 1))) := (HB9.out.alloc _).grown q10.grown (fun e => H8N.out g9 e.symm rfl)
            have hl9 := HB9.out.lt
            refine ⟨⟨k + 1, M + 1, A10, c10, by omega, by rw [HM.out]; omega, by omega, by go_num, rfl, ?_, ?_, hs10, hb10⟩, by simp [intOf]; omega⟩
            · rw [HM.out, HSN.out, ← HM.out]; exact h10
            · intro g e
              rcases q10 with ⟨_, rfl, rfl, _⟩ | ⟨_, rfl, _, _⟩
              · exact H8N.out g e
              · rw [wrote] at e
                split at e
                · cases e
                · simp at e; omega
          · obtain rfl : M = m := by omega
            have hMi : ¬ (M : Int) < (M : Int) := by omega
            clear hM h8 h8n hb9 hbw
            go_wp2_with fail
            have h1 := HM.out
            have h2 := HI.out
            refine ⟨⟨j + 1, i + 1, M, A8, c8, by rw [h2], by omega, by omega, by go_num, rfl, H8.out, HBW.out⟩, by simp [intOf]; omega⟩
        · obtain rfl : k = 32 := by omega
          have hki : ¬ ((32 : Nat) : Int) < 32 := by omega
          clear hM h8 h8n hb9 hbw
          go_wp2_with fail
          have h1 := HM.out
          have h2 := HI.out
          refine ⟨⟨j + 1, i + 1, M, A8, c8, by rw [h2], by omega, by omega, by go_num, rfl, H8.out, HBW.out⟩, by simp [intOf]; omega⟩
    · have hli : ¬ (L : Int) < (m : Int) := by omega
      obtain rfl : L = m := by omega
      have hD : (streamB key s.data.toList j).take L = derived key s.data.toList L := derived_of _ _ _ _ (by omega) hm2
      clear hi hL
      go_wp2_with fail
      go_ret
      exact ⟨A7, c7, rfl, hD ▸ h7, hb⟩
end Go.Proofs.Ytbphoilfiahnpaa
