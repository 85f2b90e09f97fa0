/-
  DigestOf: what digest every text has.
-/
import Derived.Test.YtbphoilfiahnpaaRefOf
import Derived.Test.YtbphoilfiahnpaaOfUse
import Derived.Test.YtbphoilfiahnpaaNum
namespace Go.Proofs.Ytbphoilfiahnpaa.digestOf
open Go.RowKit
set_option linter.unusedVariables false
set_option maxRecDepth 100000

set_option maxHeartbeats 1000000 in
theorem walk (A0 : Option Addr) (n0 c0 : Nat) (bs0 : List UInt8) (w : World) (w0 : SlB w w.heap.size A0 n0 c0 bs0) (y0 : c0 ≤ 140737488351232) :
    Calls Try.prog 8 #[.slice A0 n0 c0] w fun e w' => e = .returned (.bool true) ∧ Below w.heap.size w w' := by
  by_cases hbig : n0 ≤ 8192
  · have hni : (n0 : Int) ≤ 8192 := by omega
    have W0 := Lib.hid w0
    have HL := Lib.hid w0.len
    clear w0 y0
    go_enter Try.func8, Try.ntmps8
    go_wp2_with fail
    refine (copy_c W0.out (Nat.le_refl _) (by omega)).mono ?_
    rintro e w1 ⟨rfl, hm, hb1⟩
    have hz1 := hb1.size
    have HM := Lib.hid hm
    have h1 : SlB w1 w1.heap.size (some ⟨w.heap.size, 0, none⟩) n0 (n0 + 2) bs0 := by
      have := hm.sl.trim (k := n0) (by omega)
      rwa [List.take_left' HL.out] at this
    clear hm
    go_wp2_with (first
      | (go_at_call 33; refine (of_one h1 (Nat.le_refl _) (by omega)).mono ?_; rintro e w2 ⟨rfl, hb2⟩; have b2 := Blk.new w2 44 (arr8 (z8' 32)))
      | ((with_reducible show wpList _ _ _ (Oper.mk _ (Op.alloc 44) _ _ _ _ :: _) _ _); refine wpList_alloc_agg rfl 44 rfl (arr8 (z8' 32)) zero44 ?_; (try rw [World.size_alloc]))
      | ((with_reducible show wpList _ _ _ (Oper.mk none (Op.store 44 _ _) _ _ _ _ :: _) _ _); refine wpList_store8 rfl 44 (.tmp 4) (.tmp 12) rfl w2.heap.size rfl (sha bs0) rfl agg44 (len_sha _) _ _ b2 (by rw [size_arr8, len_z8']) ?_; intro w3 hb3 hg3 hs3))
    have hw2 : Below w1.heap.size w1 w2 := hb2
    have hw3 : Below w1.heap.size w1 w3 := (hw2.alloc hw2.size _).grown hg3 (Nat.le_trans hw2.size (by simp)) (fun k hk => by cases hk; exact hw2.size)
    have hw : Below w.heap.size w w3 := hb1.trans (hw3.mono hz1)
    have hz3 := hw.size
    have HM3 := Lib.hid (HM.out.below hw3)
    have HB3 := Lib.hid hb3
    have hi0 := nil0
    have heq := eq44 (sha bs0) (sha bs0) (len_sha _) (len_sha _) true (by simp)
    have hge := guard44
    clear hb2 b2 hg3 hs3 hw2 hb3
    simp only [Act.put, List.setIfInBounds_toArray, List.set_cons_succ, List.set_cons_zero]
    refine wp_region_later (by kernel_rfl) (by kernel_rfl) ?_
    repeat (first
      | ((with_reducible show wpQuiet _ _ _ _ (Oper.mk _ (Op.load 44 _) _ _ _ _ :: _) _); refine quiet_load_agg rfl 44 (.tmp 4) rfl w2.heap.size rfl (arr8 (sha bs0)) agg44 (by rw [size_arr8, len_sha]) 44 HB3.out ?_; simp only [Act.put, List.setIfInBounds_toArray, List.set_cons_succ, List.set_cons_zero])
      | go_big_quiet_step (first
          | (go_at_call 33; exact Later.call _ (of_nil _))
          | (go_at_call 34; exact Later.call _ (refof_c (Later.sl _ (W0.out.below hw) hz3) (Nat.le_trans hz3 (Later.below _).size) (by omega)))
          | (go_at_call 35; exact Later.same _ (kept_c (HM3.out.below (Later.below _)).sl (Later.sl _ (W0.out.below hw) hz3) (by omega)))))
    refine wpQuiet_nil ?_
    rintro _ ⟨X, rfl⟩
    have hX := hw.trans (X.below.mono hw.size)
    go_wp2_with fail
    go_ret
    exact ⟨rfl, hX⟩
  · have hni : ¬ (n0 : Int) ≤ 8192 := by omega
    have hgt : (8192 : Int) < (n0 : Int) := by omega
    have hnm : n0 ≤ 9223372036854775807 := w0.mx
    clear w0 y0
    go_enter Try.func8, Try.ntmps8
    go_wp2_with fail
    go_ret
    exact ⟨rfl, Below.refl _ _⟩
end Go.Proofs.Ytbphoilfiahnpaa.digestOf
