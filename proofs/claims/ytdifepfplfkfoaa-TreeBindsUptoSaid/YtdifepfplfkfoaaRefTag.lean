/-
  Several texts of plain lemmas and contracts, one behind the other: RefKey, RefTag.
-/
import Derived.Test.YtdifepfplfkfoaaTag
import Derived.Test.YtdifepfplfkfoaaRefOf
import Derived.Test.YtdifepfplfkfoaaApart

/-
  The reference's Piece: a key's piece.
-/
section
namespace Go.Proofs.Ytdifepfplfkfoaa
open Go.RowKit
open digestSchedule (piece8 len_piece8)
set_option linter.unusedVariables false
set_option maxRecDepth 100000

theorem keyPiece_eq (bs : List UInt8) : keyPiece bs = keyOf bs ++ List.replicate (64 - (keyOf bs).length) 0 := by
  have h := keyOf_le bs
  rw [keyPiece, piece8, List.take_of_length_le h]; rfl

set_option maxHeartbeats 1000000 in
theorem refkey_c {w : World} {B : Nat} {A : Option Addr} {n c : Nat} {bs : List UInt8} (ha : SlB w B A n c bs) (hB : B ≤ w.heap.size) (hn : n ≤ 1099511627776) :
    Calls Try.prog 48 #[.slice A n c] w fun e w' => ∃ A' c', e = .returned (.slice A' 64 c') ∧ OwB w' w.heap.size A' 64 c' (keyPiece bs) ∧ Below w.heap.size w w' := by
  have h10 : OwB (w.alloc (.cells #[] 5)) w.heap.size (some ⟨w.heap.size, 0, none⟩) 0 0 [] := OwB.nil _ _ _
  have hb10 : Below w.heap.size w (w.alloc (.cells #[] 5)) := (Below.refl _ _).alloc (Nat.le_refl _) _
  have h11 := ha.alloc hB (.cells #[] 5)
  have HA := Lib.hid ha
  have HL := Lib.hid ha.len
  clear ha
  by_cases hbig : n ≤ 64
  · have hni : ¬ (64 : Int) < (n : Int) := by omega
    have hdec : decide ((64 : Int) < (n : Int)) = false := decide_eq_false hni
    have hni2 : (n : Int) ≤ 64 := by omega
    go_enter Try.func48, Try.ntmps48
    go_wp2_with (at_builtin; refine wpList_append8 rfl (.tmp 5) (.tmp 6) rfl rfl h10 rfl h11 (by omega) (by simp) n (by omega) ?_; intro A2 c2 w2 h2 q2; have hb2 : Below w.heap.size w w2 := q2.below h10 hb10 (Nat.le_refl _) (by simp))
    have hz2 := hb2.size
    rw [List.nil_append] at h2
    have hk : keyOf bs = bs := by rw [keyOf, HL.out, if_pos hbig]
    have h2' : OwB w2 w.heap.size A2 n c2 (keyOf bs ++ List.replicate (n - n) 0) := by rw [hk, Nat.sub_self]; simpa using h2
    have hkl : (keyOf bs).length = n := by rw [hk, HL.out]
    have HK := Lib.hid hkl
    clear hk h2 q2 h10 hb10 h11 hkl
    go_loopw [3] (fun v3 wr => ∃ (m : Nat) (A3 : Option Addr) (c3 : Nat), n ≤ m ∧ m ≤ 64 ∧ v3 = .slice A3 m c3 ∧ OwB wr w.heap.size A3 m c3 (keyOf bs ++ List.replicate (m - n) 0) ∧ Below w.heap.size w wr) (fun v3 _ => 64 - (match v3 with | .slice _ m _ => m | _ => 0))
    case atStart => exact ⟨n, A2, c2, Nat.le_refl _, hbig, rfl, h2', hb2⟩
    case round =>
      clear h2' hb2
      obtain ⟨m, A3, c3, hnm, hm, rfl, h3, hb3⟩ := hrel
      have hz3 := hb3.size
      by_cases hlt : m < 64
      · have hmi : (m : Int) < 64 := by omega
        have H3 := Lib.hid h3
        have HB := Lib.hid hb3
        clear h3 hb3
        go_wp2_with (at_builtin; refine wpList_append8 rfl (.tmp 19) (.tmp 20) rfl rfl (H3.out.alloc _) rfl (SlB.new wr #[.int .u8 0] [0] 1 (Nat.lt_succ_self _) rfl (by simp [maxLen]) rfl) (by omega) (Nat.le_trans hz3 (by simp)) (m + 1) rfl ?_; intro A9 c9 w9 h9 q9; have hb9 : Below w.heap.size w w9 := q9.below (H3.out.alloc _) (HB.out.alloc hz3 _) (Nat.le_refl _) (Nat.le_trans hz3 (by simp)))
        refine ⟨⟨m + 1, A9, c9, by omega, by omega, rfl, ?_, hb9⟩, by simp; omega⟩
        rw [List.append_assoc, show ([0] : List UInt8) = List.replicate 1 0 from rfl, List.replicate_append_replicate, show m - n + 1 = m + 1 - n from by omega] at h9
        exact h9
      · obtain rfl : m = 64 := by omega
        have hmi : ¬ (64 : Int) < 64 := by omega
        have hkp : keyOf bs ++ List.replicate (64 - n) 0 = keyPiece bs := by rw [keyPiece_eq, HK.out]
        rw [hkp] at h3
        have H3 := Lib.hid h3
        have HB := Lib.hid hb3
        clear h3 hb3
        go_wp2_with fail
        go_ret
        exact ⟨A3, c3, rfl, H3.out, HB.out⟩
  · have hni : (64 : Int) < (n : Int) := by omega
    have hdec : decide ((64 : Int) < (n : Int)) = true := decide_eq_true hni
    have hnb : (n : Int) ≤ 1099511627776 := by omega
    go_enter Try.func48, Try.ntmps48
    go_wp2_with (first
      | (at_builtin; refine wpList_append8 rfl (.tmp 5) (.tmp 6) rfl rfl h10 rfl h11 (by omega) (by simp) n (by omega) ?_; intro A2 c2 w2 h2 q2; have hb2 : Below w.heap.size w w2 := q2.below h10 hb10 (Nat.le_refl _) (by simp))
      | (go_at_call 37; refine (refof_c (HA.out.below (hb2.mono hB)) (Nat.le_trans hB hb2.size) hn).mono ?_; rintro e w3 ⟨rfl, hb3⟩; have b4 := Blk.new w3 28 (arr8 (z8' 32)); have h32 := arr_all_run (P := Try.prog) (T := 28) Try.underlying28 size1 (by omega) w3.heap.size)
      | ((with_reducible show wpList _ _ _ (Oper.mk _ (Op.alloc 28) _ _ _ _ :: _) _ _); refine wpList_alloc_agg rfl 28 rfl (arr8 (z8' 32)) zero44 ?_; (try rw [World.size_alloc]))
      | ((with_reducible show wpList _ _ _ (Oper.mk none (Op.store 28 _ _) _ _ _ _ :: _) _ _); refine wpList_store8 rfl 28 (.tmp 4) (.tmp 12) rfl w3.heap.size rfl (sha bs) rfl agg44 (len_sha _) _ _ b4 (by rw [size_arr8, len_z8']) ?_; intro w4 hb4 hg4 hs4; have hw3 := hb2.trans (hb3.mono hb2.size); have hw4 : Below w.heap.size w w4 := (hw3.alloc hw3.size _).grown hg4 (Nat.le_trans hw3.size (by simp)) (fun k hk => by cases hk; exact hw3.size); clear hs4; have s4 := (sum_sl hb4 (len_sha _)).alloc (Nat.le_refl _) (.cells #[] 5); have h40 : OwB (w4.alloc (.cells #[] 5)) w.heap.size (some ⟨w4.heap.size, 0, none⟩) 0 0 [] := OwB.nil _ _ _)
      | (at_builtin; refine wpList_append8 rfl (.tmp 13) (.tmp 14) rfl rfl h40 rfl s4 (by omega) (Nat.le_trans hw4.size (by simp)) 32 (by omega) ?_; intro A6 c6 w6 h6 q6; have hb6 : Below w.heap.size w w6 := q6.below h40 (hw4.alloc hw4.size _) (Nat.le_refl _) (Nat.le_trans hw4.size (by simp))))
    rw [List.nil_append] at h6
    have hk : keyOf bs = sha bs := by rw [keyOf, HL.out, if_neg hbig]
    have h6' : OwB w6 w.heap.size A6 32 c6 (keyOf bs ++ List.replicate (32 - 32) 0) := by rw [hk, Nat.sub_self]; simpa using h6
    have hkl : (keyOf bs).length = 32 := by rw [hk, len_sha]
    have HK := Lib.hid hkl
    clear hk h6 q6 h40 s4 h10 hb10 h11 hkl h2 q2 hb2 hb3 b4 hb4 hg4 hw3 hw4 h32
    go_loopw [3] (fun v3 wr => ∃ (m : Nat) (A3 : Option Addr) (c3 : Nat), 32 ≤ m ∧ m ≤ 64 ∧ v3 = .slice A3 m c3 ∧ OwB wr w.heap.size A3 m c3 (keyOf bs ++ List.replicate (m - 32) 0) ∧ Below w.heap.size w wr) (fun v3 _ => 64 - (match v3 with | .slice _ m _ => m | _ => 0))
    case atStart => exact ⟨32, A6, c6, Nat.le_refl _, by omega, rfl, h6', hb6⟩
    case round =>
      clear h6' hb6
      obtain ⟨m, A3, c3, hnm, hm, rfl, h3, hb3⟩ := hrel
      have hz3 := hb3.size
      by_cases hlt : m < 64
      · have hmi : (m : Int) < 64 := by omega
        have H3 := Lib.hid h3
        have HB := Lib.hid hb3
        clear h3 hb3
        go_wp2_with (at_builtin; refine wpList_append8 rfl (.tmp 19) (.tmp 20) rfl rfl (H3.out.alloc _) rfl (SlB.new wr #[.int .u8 0] [0] 1 (Nat.lt_succ_self _) rfl (by simp [maxLen]) rfl) (by omega) (Nat.le_trans hz3 (by simp)) (m + 1) rfl ?_; intro A9 c9 w9 h9 q9; have hb9 : Below w.heap.size w w9 := q9.below (H3.out.alloc _) (HB.out.alloc hz3 _) (Nat.le_refl _) (Nat.le_trans hz3 (by simp)))
        refine ⟨⟨m + 1, A9, c9, by omega, by omega, rfl, ?_, hb9⟩, by simp; omega⟩
        rw [List.append_assoc, show ([0] : List UInt8) = List.replicate 1 0 from rfl, List.replicate_append_replicate, show m - 32 + 1 = m + 1 - 32 from by omega] at h9
        exact h9
      · obtain rfl : m = 64 := by omega
        have hmi : ¬ (64 : Int) < 64 := by omega
        have hkp : keyOf bs ++ List.replicate (64 - 32) 0 = keyPiece bs := by rw [keyPiece_eq, HK.out]
        rw [hkp] at h3
        have H3 := Lib.hid h3
        have HB := Lib.hid hb3
        clear h3 hb3
        go_wp2_with fail
        go_ret
        exact ⟨A3, c3, rfl, H3.out, HB.out⟩
end Go.Proofs.Ytdifepfplfkfoaa
end

/-
  The reference's Tag: a text's tag with a key.
-/
section
namespace Go.Proofs.Ytdifepfplfkfoaa
open Go.RowKit
set_option linter.unusedVariables false
set_option maxRecDepth 100000

theorem take_mask (y : UInt8) (ps : List UInt8) (i : Nat) (hi : i < ps.length) : (mask y ps).take (i + 1) = (mask y ps).take i ++ [ps[i] ^^^ y] := by
  rw [List.take_succ_eq_append_getElem (by rw [len_mask]; exact hi)]
  simp [mask]

set_option maxHeartbeats 2000000 in
theorem reftag_c {w : World} {B B' : Nat} {A A' : Option Addr} {n c n' c' : Nat} {key text : List UInt8} (hk : SlB w B A n c key) (hB : B ≤ w.heap.size) (hn : n ≤ 1099511627776)
    (ht : SlB w B' A' n' c' text) (hB' : B' ≤ w.heap.size) (hn' : n' ≤ 1099511627000) :
    Calls Try.prog 31 #[.slice A n c, .slice A' n' c'] w fun e w' => e = .returned (.agg (arr8 (hmac key text))) ∧ Below w.heap.size w w' := by
  have b4 := Blk.new w 28 (arr8 (z8' 32))
  have hb0 : Below w.heap.size w (w.alloc (.cells (arr8 (z8' 32)) 28)) := (Below.refl _ _).alloc (Nat.le_refl _) _
  obtain ⟨v, hv⟩ : ∃ v, v = w.alloc (.cells (arr8 (z8' 32)) 28) := ⟨_, rfl⟩
  rw [← hv] at b4 hb0
  have hz0 := hb0.size
  have HV := Lib.hid hv
  have hk0 := hk.below (hb0.mono hB)
  have ht0 := ht.below (hb0.mono hB')
  clear hv hk ht
  go_enter Try.func31, Try.ntmps31
  go_wp2_with (first
    | ((with_reducible show wpList _ _ _ (Oper.mk _ (Op.alloc 28) _ _ _ _ :: _) _ _); refine wpList_alloc_agg rfl 28 rfl (arr8 (z8' 32)) zero44 ?_; (try rw [World.size_alloc]); (try rw [← HV.out]))
    | (go_at_call 48; refine (refkey_c hk0 (Nat.le_trans hB hz0) hn).mono ?_; rintro e v1 ⟨Ap, cp, rfl, hp, hb1⟩))
  have hz1 := hb1.size
  have hb01 := hb0.trans (hb1.mono hz0)
  have hp1 : SlB v1 v1.heap.size Ap 64 cp (keyPiece key) := hp.sl
  have hcp : (64 : Int) ≤ (cp : Int) := by have := hp1.le; omega
  have hcm : cp ≤ 9223372036854775807 := hp1.cap
  obtain ⟨b, off, hap, hbb, hpj⟩ := hp1.at_ (by omega)
  subst hap
  have ht1 := ht0.below (hb1.mono (Nat.le_trans hB' hz0))
  have b41 := b4.below hb1 b4.lt
  have HT := Lib.hid ht1
  have HP := Lib.hid hpj
  have n6 : OwB v1 v1.heap.size none 0 0 ((inPart key).take 0) := OwB.nil _ _ _
  have n7 : OwB v1 v1.heap.size none 0 0 ((outPart key).take 0) := OwB.nil _ _ _
  have HB01 := Lib.hid hb01
  have hlp := len_keyPiece key
  have HLP := Lib.hid hlp
  clear hk0 ht0 b4 hb0 hp hp1 ht1 hpj hlp hb1
  go_loopw [6, 7, 8] (fun v6 v7 v8 wr => ∃ (i : Nat) (A6 : Option Addr) (c6 : Nat) (A7 : Option Addr) (c7 : Nat), i ≤ 64 ∧ v8 = .int .i64 (i : Int) ∧ v6 = .slice A6 i c6 ∧ v7 = .slice A7 i c7 ∧ OwB wr v1.heap.size A6 i c6 ((inPart key).take i) ∧ OwB wr v1.heap.size A7 i c7 ((outPart key).take i) ∧ (wrote A6 c6 = none ∨ wrote A6 c6 ≠ wrote A7 c7) ∧ Below v1.heap.size v1 wr) (fun _ _ v8 _ => 64 - (intOf v8).toNat)
  case atStart => exact ⟨0, none, 0, none, 0, by omega, rfl, rfl, rfl, n6, n7, .inl rfl, Below.refl _ _⟩
  case round =>
    clear n6 n7
    obtain ⟨i, A6, c6, A7, c7, hi, rfl, rfl, rfl, h6, h7, hf, hb⟩ := hrel
    have hz := hb.size
    by_cases hlt : i < 64
    · have hip : i < (keyPiece key).length := by rw [HLP.out]; exact hlt
      obtain ⟨x, hx⟩ : ∃ x, x = (keyPiece key)[i] := ⟨_, rfl⟩
      have d1 : wr.cell? ⟨b, off + i, none⟩ = some (.int .u8 (x.toNat : Int)) := by
        rw [hb.cell hbb]
        exact HP.out i x (by rw [List.getElem?_eq_getElem hip, hx])
      have e6 := take_mask 0x36 (keyPiece key) i hip
      have e7 := take_mask 0x5c (keyPiece key) i hip
      rw [← hx] at e6 e7
      have x6 : bits .xor .u8 (x.toNat : Int) 54 = ((x ^^^ 0x36).toNat : Int) := xor_u8 x 0x36
      have x7 : bits .xor .u8 (x.toNat : Int) 92 = ((x ^^^ 0x5c).toNat : Int) := xor_u8 x 0x5c
      have E6 := Lib.hid e6
      have E7 := Lib.hid e7
      have X6 := Lib.hid x6
      have X7 := Lib.hid x7
      have H6 := Lib.hid h6
      have H7 := Lib.hid h7
      have HF := Lib.hid hf
      have HB := Lib.hid hb
      have hi0 : (0 : Int) ≤ (i : Int) := by omega
      have hi1 : (i : Int) < 64 := by omega
      clear e6 e7 x6 x7 h6 h7 hf hb hx hip
      have a6 : SlB (wr.alloc (.cells #[.int .u8 (bits .xor .u8 (x.toNat : Int) 54)] 5)) (wr.heap.size + 1) (some ⟨wr.heap.size, 0, none⟩) 1 1 [x ^^^ 0x36] := SlB.new wr _ [x ^^^ 0x36] 1 (Nat.lt_succ_self _) rfl (by simp [maxLen]) (by rw [X6.out]; rfl)
      have A6' := Lib.hid a6
      clear a6
      go_wp2_with (first
        | (at_builtin; refine wpList_append8 rfl (.tmp 16) (.tmp 22) rfl rfl (H6.out.alloc _) rfl A6'.out (by omega) (Nat.le_trans hz (by simp)) (i + 1) rfl ?_; intro A8 c8 w8 h8 q8; have hd8 : w8.cell? ⟨b, off + i, none⟩ = some (.int .u8 (x.toNat : Int)) := by (have hb8 : Below v1.heap.size v1 w8 := q8.below (H6.out.alloc _) (HB.out.alloc hz _) (Nat.le_refl _) (Nat.le_trans hz (by simp)); rw [hb8.cell hbb]; rw [HB.out.cell hbb] at d1; exact d1))
        | (at_builtin; refine wpList_append8 rfl (.tmp 24) (.tmp 30) rfl rfl ((Row.keepRow (H7.out.alloc _) q8.grown (Lst.far_symm (l := ⟨A6, i, c6⟩) (m := ⟨A7, i, c7⟩) HF.out)).alloc _) rfl (SlB.new w8 _ [x ^^^ 0x5c] 1 (Nat.lt_succ_self _) rfl (by simp [maxLen]) (by rw [X7.out]; rfl)) (by omega) ?c1 (i + 1) rfl ?_; rotate_left; intro A9 c9 w9 h9 q9))
      · have r7 := Row.keepRow (H7.out.alloc (.cells #[.int .u8 (bits .xor .u8 (x.toNat : Int) 54)] 5)) q8.grown (Lst.far_symm (l := ⟨A6, i, c6⟩) (m := ⟨A7, i, c7⟩) HF.out)
        have hb8 : Below v1.heap.size v1 w8 := q8.below (H6.out.alloc _) (HB.out.alloc hz _) (Nat.le_refl _) (Nat.le_trans hz (by simp))
        have hz8 := hb8.size
        have hb9 : Below v1.heap.size v1 w9 := q9.below (r7.alloc _) (hb8.alloc hz8 _) (Nat.le_refl _) (Nat.le_trans hz8 (by simp))
        have f8 := Row.went_far (H7.out.alloc (.cells #[.int .u8 (bits .xor .u8 (x.toNat : Int) 54)] 5)) (Nat.le_refl _) q8 HF.out
        have f9 := Row.far_went (Row.alloc h8 _) (Nat.le_refl _) q9 f8
        have h89 := Row.keepRow (Row.alloc h8 _) q9.grown f8
        refine ⟨⟨i + 1, A8, c8, A9, c9, by omega, by go_num, rfl, rfl, ?_, ?_, f9, hb9⟩, by simp [intOf]; omega⟩
        · rw [show (inPart key).take (i + 1) = (inPart key).take i ++ [x ^^^ 0x36] from E6.out]
          exact h89
        · rw [show (outPart key).take (i + 1) = (outPart key).take i ++ [x ^^^ 0x5c] from E7.out]
          exact h9
      · have hb8 : Below v1.heap.size v1 w8 := q8.below (H6.out.alloc _) (HB.out.alloc hz _) (Nat.le_refl _) (Nat.le_trans hz (by simp))
        exact Nat.le_trans hb8.size (by simp)
    · obtain rfl : i = 64 := by omega
      have hi1 : ¬ (64 : Int) < 64 := by omega
      rw [List.take_of_length_le (Nat.le_of_eq (len_inPart key))] at h6
      rw [List.take_of_length_le (Nat.le_of_eq (len_outPart key))] at h7
      have hb4 : Blk wr w.heap.size 28 (arr8 (z8' 32)) := b41.below hb b41.lt
      have htr := HT.out.below (hb.mono (Nat.le_trans (Nat.le_trans hB' hz0) hz1))
      have hbw : Below w.heap.size w wr := HB01.out.trans (hb.mono (Nat.le_trans hz0 hz1))
      have HR := Lib.hid htr
      have H6 := Lib.hid h6
      have H7 := Lib.hid h7
      have HF := Lib.hid hf
      have HB := Lib.hid hb
      have hzw := hbw.size
      clear htr h6 h7 hf hb
      go_wp2_with (first
        | (at_builtin; refine wpList_append8 rfl (.tmp 32) (.tmp 33) rfl rfl H6.out rfl HR.out (by omega) hz (64 + n') rfl ?_; intro A8 c8 w8 h8 q8; have h78 := Row.keepRow H7.out q8.grown (Lst.far_symm (l := ⟨A6, 64, c6⟩) (m := ⟨A7, 64, c7⟩) HF.out); have hb8 : Below v1.heap.size v1 w8 := q8.below H6.out HB.out (Nat.le_refl _) hz; have hz8 := hb8.size)
        | (go_at_call 37; ((with_reducible refine (refof_c h8.sl (Nat.le_refl _) (by omega)).mono ?_); rintro e w9 ⟨rfl, hb9⟩; have b9 := Blk.new w9 28 (arr8 (z8' 32)); have h32 := arr_all_run (P := Try.prog) (T := 28) Try.underlying28 size1 (by omega) w9.heap.size))
        | ((with_reducible show wpList _ _ _ (Oper.mk _ (Op.alloc 28) _ _ _ _ :: _) _ _); refine wpList_alloc_agg rfl 28 rfl (arr8 (z8' 32)) zero44 ?_; (try rw [World.size_alloc]))
        | ((with_reducible show wpList _ _ _ (Oper.mk none (Op.store 28 (.tmp 9) _) _ _ _ _ :: _) _ _); refine wpList_store8 rfl 28 (.tmp 9) (.tmp 35) rfl w9.heap.size rfl (sha (inPart key ++ text)) rfl agg44 (len_sha _) _ _ b9 (by rw [size_arr8, len_z8']) ?_; intro w10 hb10 hg10 hs10; have hc10 : Below w8.heap.size w8 w10 := (hb9.alloc hb9.size _).grown hg10 (Nat.le_trans hb9.size (by simp)) (fun k hk => by cases hk; exact hb9.size); have h710 := OwB.below h78 hc10; have hd10 := hb8.trans (hc10.mono hz8); have s10 := sum_sl hb10 (len_sha _); have hz10 := hd10.size; have hw10 := HB01.out.trans (hd10.mono (Nat.le_trans hz0 hz1)))
        | (at_builtin; refine wpList_append8 rfl (.tmp 36) (.tmp 37) rfl rfl h710 rfl s10 (by omega) hz10 96 rfl ?_; intro A11 c11 w11 h11 q11; have hd11 : Below v1.heap.size v1 w11 := q11.below h710 hd10 (Nat.le_refl _) hz10; have b11 := b41.below hd11 b41.lt)
        | (go_at_call 37; refine (refof_c h11.sl (Nat.le_refl _) (by omega)).mono ?_; rintro e w12 ⟨rfl, hb12⟩; have b12 := b11.below hb12 b11.lt)
        | ((with_reducible show wpList _ _ _ (Oper.mk none (Op.store 28 (.tmp 4) _) _ _ _ _ :: _) _ _); refine wpList_store8 rfl 28 (.tmp 4) (.tmp 39) rfl w.heap.size rfl (hmac key text) rfl agg44 (len_hmac _ _) _ _ b12 (by rw [size_arr8, len_z8']) ?_; intro w13 hb13 hg13 hs13))
      have hd12 := HB01.out.trans ((hd11.trans (hb12.mono hd11.size)).mono (Nat.le_trans hz0 hz1))
      refine bodyPost_ret (results_cell_one rfl _ w.heap.size _ (arr8 (hmac key text)) agg44 (by rw [size_arr8, len_hmac]) rfl hb13) rfl ⟨rfl, ?_⟩
      exact hd12.grown hg13 hd12.size (fun k hk => by cases hk; exact Nat.le_refl _)
end Go.Proofs.Ytdifepfplfkfoaa
end
