/-
  MacPiece: what piece every key is made.
-/
import Derived.Test.YtbphoilfiahnpaaRefKey
import Derived.Test.YtbphoilfiahnpaaLarge
import Derived.Test.YtbphoilfiahnpaaNum
import Derived.Deep.RegionHeldLaw
namespace Go.Proofs.Ytbphoilfiahnpaa.macPiece
open Go.RowKit
set_option linter.unusedVariables false
set_option maxRecDepth 100000

theorem build34seven (w : World) : (Instr.build 34 #[(0, .int .u8 7)]).run Try.prog w = .ok (.agg (arr8 (keyPiece [7]))) w := by kernel_rfl
theorem lit7 : (#[.int .u8 7, .int .u8 0, .int .u8 0, .int .u8 0, .int .u8 0, .int .u8 0, .int .u8 0, .int .u8 0, .int .u8 0, .int .u8 0, .int .u8 0, .int .u8 0, .int .u8 0, .int .u8 0, .int .u8 0, .int .u8 0, .int .u8 0, .int .u8 0, .int .u8 0, .int .u8 0, .int .u8 0, .int .u8 0, .int .u8 0, .int .u8 0, .int .u8 0, .int .u8 0, .int .u8 0, .int .u8 0, .int .u8 0, .int .u8 0, .int .u8 0, .int .u8 0, .int .u8 0, .int .u8 0, .int .u8 0, .int .u8 0, .int .u8 0, .int .u8 0, .int .u8 0, .int .u8 0, .int .u8 0, .int .u8 0, .int .u8 0, .int .u8 0, .int .u8 0, .int .u8 0, .int .u8 0, .int .u8 0, .int .u8 0, .int .u8 0, .int .u8 0, .int .u8 0, .int .u8 0, .int .u8 0, .int .u8 0, .int .u8 0, .int .u8 0, .int .u8 0, .int .u8 0, .int .u8 0, .int .u8 0, .int .u8 0, .int .u8 0, .int .u8 0] : Array Value) = arr8 (keyPiece [7]) := by kernel_rfl
theorem guard34 : Try.prog.eqGuardType Try.prog.depth 34 = false := by kernel_rfl
theorem eq34 (xs ys : List UInt8) (hx : xs.length = 64) (hy : ys.length = 64) (r : Bool) (hr : (xs == ys) = r) (w : World) : (Op.equalIn 10000 34 (.agg (arr8 xs)) (.agg (arr8 ys))).run Try.prog w = .ok r w := by
  rw [run_equalIn_arr8 w _ _ 64 Try.underlying34 Try.underlying5 size1 xs ys hx hy, hr]

/-- One list, just laid. -/
theorem large_one {w : World} {B : Nat} {A : Option Addr} {n c : Nat} {bs : List UInt8} (ha : SlB w B A n c bs) (r : Bool) (hr : decide (4096 < n) = r) (hn : n ≤ 140737488351232) :
    Calls Try.prog 38 #[.slice (some ⟨w.heap.size, 0, none⟩) 1 1] (w.alloc (.cells #[.slice A n c] 31)) fun e w' => e = .returned (.bool r) ∧ w.alloc (.cells #[.slice A n c] 31) = w' :=
  large_c (B := w.heap.size + 1) [⟨A, n, c, bs⟩] ⟨rfl, Nat.le_refl _, by simp [maxLen], fun _ => ⟨w.heap.size, 0, rfl, by simp, fun j u hu => by
    rw [(Blk.new w 31 #[.slice A n c]).cell, Nat.zero_add]
    simpa [Part.v] using hu⟩⟩ (by simp [total]; omega) r (by simpa [total] using hr)

set_option maxHeartbeats 1000000 in
theorem walk (A0 : Option Addr) (n0 c0 : Nat) (bs0 : List UInt8) (w : World) (w0 : SlB w w.heap.size A0 n0 c0 bs0) (y0 : c0 ≤ 140737488351232) :
    Calls Try.prog 13 #[.slice A0 n0 c0] w fun e w' => e = .returned (.bool true) ∧ Below w.heap.size w w' := by
  have hnb : n0 ≤ 140737488351232 := Nat.le_trans w0.le y0
  by_cases hbig : 4096 < n0
  · go_enter Try.func13, Try.ntmps13
    go_wp2_with (go_at_call 38; refine (large_one w0 true (decide_eq_true hbig) hnb).mono ?_; rintro e w1 ⟨rfl, rfl⟩)
    go_ret
    exact ⟨rfl, (Below.refl _ _).alloc (Nat.le_refl _) _⟩
  · have hl0 := w0.alloc (Nat.le_refl _) (.cells #[.slice A0 n0 c0] 31)
    have hb1 : Below w.heap.size w (w.alloc (.cells #[.slice A0 n0 c0] 31)) := (Below.refl _ _).alloc (Nat.le_refl _) _
    obtain ⟨v1, hv1⟩ : ∃ v1, v1 = w.alloc (.cells #[.slice A0 n0 c0] 31) := ⟨_, rfl⟩
    have W0 := Lib.hid w0
    have HL := Lib.hid w0.len
    have hlarge := large_one w0 false (decide_eq_false hbig) hnb
    rw [← hv1] at hl0 hb1 hlarge
    have HV := Lib.hid hv1
    clear hv1 w0
    go_enter Try.func13, Try.ntmps13
    go_wp2_with (go_at_call 38; rw [← HV.out]; refine hlarge.mono ?_; rintro e w1 ⟨rfl, rfl⟩)
    have hz1 := hb1.size
    refine (copy_c hl0 hz1 (by omega)).mono ?_
    rintro e v2 ⟨rfl, hm, hb2⟩
    have hm1 : SlB v2 v2.heap.size (some ⟨v1.heap.size, 0, none⟩) n0 (n0 + 2) bs0 := by
      have := hm.sl.trim (k := n0) (by omega)
      rwa [List.take_left' HL.out] at this
    have hw2 := hb1.trans (hb2.mono hz1)
    go_wp2_with (first
      | (go_at_call 39; refine (key_c hm1 (Nat.le_refl _) (by omega)).mono ?_; rintro e v3 ⟨rfl, hb3⟩; have b4 := Blk.new v3 34 (arr8 (z8' 64)))
      | ((with_reducible show wpList _ _ _ (Oper.mk _ (Op.alloc 34) _ _ _ _ :: _) _ _); refine wpList_alloc_agg rfl 34 rfl (arr8 (z8' 64)) zeroP34 ?_; (try rw [World.size_alloc]))
      | ((with_reducible show wpList _ _ _ (Oper.mk none (Op.store 34 _ _) _ _ _ _ :: _) _ _); refine wpList_store8 rfl 34 (.tmp 4) (.tmp 11) rfl v3.heap.size rfl (keyPiece bs0) rfl aggP64 (len_keyPiece _) _ _ b4 (by rw [size_arr8, len_z8']) ?_; intro v4 hb4 hg4 hs4; simp only [Act.put, List.setIfInBounds_toArray, List.set_cons_succ, List.set_cons_zero]))
    have hv3 := hb3.mono (Nat.le_refl _)
    have hw4 : Below v2.heap.size v2 v4 := (hb3.alloc hb3.size _).grown hg4 (Nat.le_trans hb3.size (by simp)) (fun k hk => by cases hk; exact hb3.size)
    have hww := hw2.trans (hw4.mono hw2.size)
    have hzw := hww.size
    have h64 := arr_all_run (P := Try.prog) (T := 34) Try.underlying34 size1 (by omega) v3.heap.size
    have hbs7 := build34seven
    have heq7 : ∀ W, (Op.equalIn 10000 34 (.agg (arr8 (keyPiece [7]))) (.agg #[.int .u8 7, .int .u8 0, .int .u8 0, .int .u8 0, .int .u8 0, .int .u8 0, .int .u8 0, .int .u8 0, .int .u8 0, .int .u8 0, .int .u8 0, .int .u8 0, .int .u8 0, .int .u8 0, .int .u8 0, .int .u8 0, .int .u8 0, .int .u8 0, .int .u8 0, .int .u8 0, .int .u8 0, .int .u8 0, .int .u8 0, .int .u8 0, .int .u8 0, .int .u8 0, .int .u8 0, .int .u8 0, .int .u8 0, .int .u8 0, .int .u8 0, .int .u8 0, .int .u8 0, .int .u8 0, .int .u8 0, .int .u8 0, .int .u8 0, .int .u8 0, .int .u8 0, .int .u8 0, .int .u8 0, .int .u8 0, .int .u8 0, .int .u8 0, .int .u8 0, .int .u8 0, .int .u8 0, .int .u8 0, .int .u8 0, .int .u8 0, .int .u8 0, .int .u8 0, .int .u8 0, .int .u8 0, .int .u8 0, .int .u8 0, .int .u8 0, .int .u8 0, .int .u8 0, .int .u8 0, .int .u8 0, .int .u8 0, .int .u8 0, .int .u8 0])).run Try.prog W = .ok true W := fun W => by rw [lit7]; exact eq34 (keyPiece [7]) (keyPiece [7]) (len_keyPiece _) (len_keyPiece _) true (by simp) W
    have hge := guard34
    have hd : Below v4.heap.size v4 v4.drew := (Below.refl _ _).drew
    have h7 : ∀ W, Below v4.heap.size v4 W → Calls Try.prog 39 #[.slice (some ⟨W.heap.size, 0, none⟩) 1 1] (W.alloc (.cells #[.int .u8 7] 5)) fun e w' => e = .returned (.agg (arr8 (keyPiece [7]))) ∧ Below v4.heap.size v4 w' := fun W hW =>
      (key_c (SlB.new W #[.int .u8 7] [7] 1 (Nat.lt_succ_self _) rfl (by simp [maxLen]) rfl) (by simp) (by omega)).mono fun e w' ⟨h1, h2⟩ => ⟨h1, (hW.alloc hW.size _).trans (h2.mono (hW.alloc hW.size _).size)⟩
    clear hs4
    have href : ∀ W, Below v4.heap.size v4 W → Calls Try.prog 40 #[.slice A0 n0 c0] W fun e w' => ∃ A' c', e = .returned (.slice A' 64 c') ∧ SlB w' w'.heap.size A' 64 c' (keyPiece bs0) ∧ Below v4.heap.size v4 w' := fun W hW =>
      (refkey_c ((W0.out.below hww).below (hW.mono hzw)) (Nat.le_trans hzw hW.size) (by omega)).mono fun e w' ⟨A', c', h1, h2, h3⟩ => ⟨A', c', h1, h2.sl, hW.trans (h3.mono hW.size)⟩
    have hsame : ∀ W A' c', Below v4.heap.size v4 W → SlB W W.heap.size A' 64 c' (keyPiece bs0) → Calls Try.prog 26 #[.slice (some ⟨v3.heap.size, 0, none⟩) 64 64, .slice A' 64 c'] W fun e w' => e = .returned (.bool true) ∧ W = w' := fun W A' c' hW h => by
      have s3 : SlB W W.heap.size (some ⟨v3.heap.size, 0, none⟩) 64 64 (keyPiece bs0) := by
        have := SlB.ofBlk (hb4.below hW hb4.lt) (lo := 0) (hi := 64) (c := 64) (B := W.heap.size) (by omega) (Nat.le_of_eq (len_keyPiece _).symm) (by omega) (by simp [maxLen]) (hb4.below hW hb4.lt).lt
        rwa [List.drop_zero, List.take_of_length_le (Nat.le_of_eq (len_keyPiece _))] at this
      exact same_c s3 h true (by simp)
    have hkept : ∀ W, Below v4.heap.size v4 W → Calls Try.prog 35 #[.slice (some ⟨v1.heap.size, 0, none⟩) n0 (n0 + 2), .slice A0 n0 c0] W fun e w' => e = .returned (.bool true) ∧ W = w' := fun W hW =>
      kept_c ((hm.below hw4).below hW).sl ((W0.out.below hww).below (hW.mono hzw)) (by omega)
    go_region_held_law (fun W => Below v4.heap.size v4 W) (first | assumption | exact hd | exact Below.alloc (by assumption) (Below.size (by assumption)) _)
      (first
        | (go_at_call 39; refine (h7 _ (by first | exact hd | assumption)).mono ?_; rintro e v5 ⟨rfl, hb5⟩)
        | (go_at_call 40; refine (href _ (by assumption)).mono ?_; rintro e v6 ⟨A6, c6, rfl, h6, hb6⟩)
        | (go_at_call 26; refine (hsame _ _ _ (by assumption) (by assumption)).mono ?_; rintro e v7 ⟨rfl, rfl⟩)
        | (go_at_call 35; refine (hkept _ (by assumption)).mono ?_; rintro e v8 ⟨rfl, rfl⟩))
    go_wp2_with fail
    go_ret
    exact ⟨rfl, hww.trans (hb6.mono hzw)⟩
end Go.Proofs.Ytbphoilfiahnpaa.macPiece
