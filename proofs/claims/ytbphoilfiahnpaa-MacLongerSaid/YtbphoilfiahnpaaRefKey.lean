/-
  The reference's Piece: a key's piece.
-/
import Derived.Test.YtbphoilfiahnpaaKey
import Derived.Test.YtbphoilfiahnpaaRefOf
namespace Go.Proofs.Ytbphoilfiahnpaa
open Go.RowKit
open digestSchedule (piece8 len_piece8)
set_option linter.unusedVariables false
set_option maxRecDepth 100000

theorem keyPiece_eq (bs : List UInt8) : keyPiece bs = keyOf bs ++ List.replicate (64 - (keyOf bs).length) 0 := by
  have h := keyOf_le bs
  rw [keyPiece, piece8, List.take_of_length_le h]; rfl

set_option maxHeartbeats 1000000 in
theorem refkey_c {w : World} {B : Nat} {A : Option Addr} {n c : Nat} {bs : List UInt8} (ha : SlB w B A n c bs) (hB : B ≤ w.heap.size) (hn : n ≤ 1099511627776) :
    Calls Try.prog 40 #[.slice A n c] w fun e w' => ∃ A' c', e = .returned (.slice A' 64 c') ∧ OwB w' w.heap.size A' 64 c' (keyPiece bs) ∧ Below w.heap.size w w' := by
  have h10 : OwB (w.alloc (.cells #[] 5)) w.heap.size (some ⟨w.heap.size, 0, none⟩) 0 0 [] := OwB.nil _ _ _
  have hb10 : Below w.heap.size w (w.alloc (.cells #[] 5)) := (Below.refl _ _).alloc (Nat.le_refl _) _
  have h11 := ha.alloc hB (.cells #[] 5)
  have HA := Lib.hid ha
  have HL := Lib.hid ha.len
  clear ha
  by_cases hbig : n ≤ 64
  · have hni : ¬ (64 : Int) < (n : Int) := by omega
    have hdec : decide ((64 : Int) < (n : Int)) = false := decide_eq_false hni
    have hni2 : (n : Int) ≤ 64 := by omega
    go_enter Try.func40, Try.ntmps40
    go_wp2_with (at_builtin; refine wpList_append8 rfl (.tmp 5) (.tmp 6) rfl rfl h10 rfl h11 (by omega) (by simp) n (by omega) ?_; intro A2 c2 w2 h2 q2; have hb2 : Below w.heap.size w w2 := q2.below h10 hb10 (Nat.le_refl _) (by simp))
    have hz2 := hb2.size
    rw [List.nil_append] at h2
    have hk : keyOf bs = bs := by rw [keyOf, HL.out, if_pos hbig]
    have h2' : OwB w2 w.heap.size A2 n c2 (keyOf bs ++ List.replicate (n - n) 0) := by rw [hk, Nat.sub_self]; simpa using h2
    have hkl : (keyOf bs).length = n := by rw [hk, HL.out]
    have HK := Lib.hid hkl
    clear hk h2 q2 h10 hb10 h11 hkl
    go_loopw [3] (fun v3 wr => ∃ (m : Nat) (A3 : Option Addr) (c3 : Nat), n ≤ m ∧ m ≤ 64 ∧ v3 = .slice A3 m c3 ∧ OwB wr w.heap.size A3 m c3 (keyOf bs ++ List.replicate (m - n) 0) ∧ Below w.heap.size w wr) (fun v3 _ => 64 - (match v3 with | .slice _ m _ => m | _ => 0))
    case atStart => exact ⟨n, A2, c2, Nat.le_refl _, hbig, rfl, h2', hb2⟩
    case round =>
      clear h2' hb2
      obtain ⟨m, A3, c3, hnm, hm, rfl, h3, hb3⟩ := hrel
      have hz3 := hb3.size
      by_cases hlt : m < 64
      · have hmi : (m : Int) < 64 := by omega
        have H3 := Lib.hid h3
        have HB := Lib.hid hb3
        clear h3 hb3
        go_wp2_with (at_builtin; refine wpList_append8 rfl (.tmp 19) (.tmp 20) rfl rfl (H3.out.alloc _) rfl (SlB.new wr #[.int .u8 0] [0] 1 (Nat.lt_succ_self _) rfl (by simp [maxLen]) rfl) (by omega) (Nat.le_trans hz3 (by simp)) (m + 1) rfl ?_; intro A9 c9 w9 h9 q9; have hb9 : Below w.heap.size w w9 := q9.below (H3.out.alloc _) (HB.out.alloc hz3 _) (Nat.le_refl _) (Nat.le_trans hz3 (by simp)))
        refine ⟨⟨m + 1, A9, c9, by omega, by omega, rfl, ?_, hb9⟩, by simp; omega⟩
        rw [List.append_assoc, show ([0] : List UInt8) = List.replicate 1 0 from rfl, List.replicate_append_replicate, show m - n + 1 = m + 1 - n from by omega] at h9
        exact h9
      · obtain rfl : m = 64 := by omega
        have hmi : ¬ (64 : Int) < 64 := by omega
        have hkp : keyOf bs ++ List.replicate (64 - n) 0 = keyPiece bs := by rw [keyPiece_eq, HK.out]
        rw [hkp] at h3
        have H3 := Lib.hid h3
        have HB := Lib.hid hb3
        clear h3 hb3
        go_wp2_with fail
        go_ret
        exact ⟨A3, c3, rfl, H3.out, HB.out⟩
  · have hni : (64 : Int) < (n : Int) := by omega
    have hdec : decide ((64 : Int) < (n : Int)) = true := decide_eq_true hni
    have hnb : (n : Int) ≤ 1099511627776 := by omega
    go_enter Try.func40, Try.ntmps40
    go_wp2_with (first
      | (at_builtin; refine wpList_append8 rfl (.tmp 5) (.tmp 6) rfl rfl h10 rfl h11 (by omega) (by simp) n (by omega) ?_; intro A2 c2 w2 h2 q2; have hb2 : Below w.heap.size w w2 := q2.below h10 hb10 (Nat.le_refl _) (by simp))
      | (go_at_call 34; refine (refof_c (HA.out.below (hb2.mono hB)) (Nat.le_trans hB hb2.size) hn).mono ?_; rintro e w3 ⟨rfl, hb3⟩; have b4 := Blk.new w3 44 (arr8 (z8' 32)); have h32 := arr_all_run (P := Try.prog) (T := 44) Try.underlying44 size1 (by omega) w3.heap.size)
      | ((with_reducible show wpList _ _ _ (Oper.mk _ (Op.alloc 44) _ _ _ _ :: _) _ _); refine wpList_alloc_agg rfl 44 rfl (arr8 (z8' 32)) zero44 ?_; (try rw [World.size_alloc]))
      | ((with_reducible show wpList _ _ _ (Oper.mk none (Op.store 44 _ _) _ _ _ _ :: _) _ _); refine wpList_store8 rfl 44 (.tmp 4) (.tmp 12) rfl w3.heap.size rfl (sha bs) rfl agg44 (len_sha _) _ _ b4 (by rw [size_arr8, len_z8']) ?_; intro w4 hb4 hg4 hs4; have hw3 := hb2.trans (hb3.mono hb2.size); have hw4 : Below w.heap.size w w4 := (hw3.alloc hw3.size _).grown hg4 (Nat.le_trans hw3.size (by simp)) (fun k hk => by cases hk; exact hw3.size); clear hs4; have s4 := (sum_sl hb4 (len_sha _)).alloc (Nat.le_refl _) (.cells #[] 5); have h40 : OwB (w4.alloc (.cells #[] 5)) w.heap.size (some ⟨w4.heap.size, 0, none⟩) 0 0 [] := OwB.nil _ _ _)
      | (at_builtin; refine wpList_append8 rfl (.tmp 13) (.tmp 14) rfl rfl h40 rfl s4 (by omega) (Nat.le_trans hw4.size (by simp)) 32 (by omega) ?_; intro A6 c6 w6 h6 q6; have hb6 : Below w.heap.size w w6 := q6.below h40 (hw4.alloc hw4.size _) (Nat.le_refl _) (Nat.le_trans hw4.size (by simp))))
    rw [List.nil_append] at h6
    have hk : keyOf bs = sha bs := by rw [keyOf, HL.out, if_neg hbig]
    have h6' : OwB w6 w.heap.size A6 32 c6 (keyOf bs ++ List.replicate (32 - 32) 0) := by rw [hk, Nat.sub_self]; simpa using h6
    have hkl : (keyOf bs).length = 32 := by rw [hk, len_sha]
    have HK := Lib.hid hkl
    clear hk h6 q6 h40 s4 h10 hb10 h11 hkl h2 q2 hb2 hb3 b4 hb4 hg4 hw3 hw4 h32
    go_loopw [3] (fun v3 wr => ∃ (m : Nat) (A3 : Option Addr) (c3 : Nat), 32 ≤ m ∧ m ≤ 64 ∧ v3 = .slice A3 m c3 ∧ OwB wr w.heap.size A3 m c3 (keyOf bs ++ List.replicate (m - 32) 0) ∧ Below w.heap.size w wr) (fun v3 _ => 64 - (match v3 with | .slice _ m _ => m | _ => 0))
    case atStart => exact ⟨32, A6, c6, Nat.le_refl _, by omega, rfl, h6', hb6⟩
    case round =>
      clear h6' hb6
      obtain ⟨m, A3, c3, hnm, hm, rfl, h3, hb3⟩ := hrel
      have hz3 := hb3.size
      by_cases hlt : m < 64
      · have hmi : (m : Int) < 64 := by omega
        have H3 := Lib.hid h3
        have HB := Lib.hid hb3
        clear h3 hb3
        go_wp2_with (at_builtin; refine wpList_append8 rfl (.tmp 19) (.tmp 20) rfl rfl (H3.out.alloc _) rfl (SlB.new wr #[.int .u8 0] [0] 1 (Nat.lt_succ_self _) rfl (by simp [maxLen]) rfl) (by omega) (Nat.le_trans hz3 (by simp)) (m + 1) rfl ?_; intro A9 c9 w9 h9 q9; have hb9 : Below w.heap.size w w9 := q9.below (H3.out.alloc _) (HB.out.alloc hz3 _) (Nat.le_refl _) (Nat.le_trans hz3 (by simp)))
        refine ⟨⟨m + 1, A9, c9, by omega, by omega, rfl, ?_, hb9⟩, by simp; omega⟩
        rw [List.append_assoc, show ([0] : List UInt8) = List.replicate 1 0 from rfl, List.replicate_append_replicate, show m - 32 + 1 = m + 1 - 32 from by omega] at h9
        exact h9
      · obtain rfl : m = 64 := by omega
        have hmi : ¬ (64 : Int) < 64 := by omega
        have hkp : keyOf bs ++ List.replicate (64 - 32) 0 = keyPiece bs := by rw [keyPiece_eq, HK.out]
        rw [hkp] at h3
        have H3 := Lib.hid h3
        have HB := Lib.hid hb3
        clear h3 hb3
        go_wp2_with fail
        go_ret
        exact ⟨A3, c3, rfl, H3.out, HB.out⟩
end Go.Proofs.Ytbphoilfiahnpaa
