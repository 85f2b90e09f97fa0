/-
  TreeBuilds: which tree is built over any leaves.
-/
import Derived.Test.YtbjiokjmidipaaaRefTree
import Derived.Test.YtbjiokjmidipaaaErr
namespace Go.Proofs.Ytbjiokjmidipaaa.treeBuilds
open Go.RowKit
set_option linter.unusedVariables false
set_option linter.unusedSimpArgs false
set_option maxRecDepth 100000

theorem build_bad {A A' : Option Addr} {n c m c' : Nat} (hm : m ≠ 16) (hm2 : m ≤ 9223372036854775807) (w : World) :
    Calls Try.prog 20 #[.slice A n c, .slice A' m c'] w fun e w' => e = .returned (.tuple #[.slice none 0 0, .iface 35 (.int .i64 2)]) ∧ w = w' := by
  have hne : ((m : Int) != 16) = true := by rw [bne_iff_ne]; omega
  have hne2 : ¬ (m : Int) = 16 := by omega
  go_enter Try.func20, Try.ntmps20
  go_wp2_with fail
  go_ret2
  exact ⟨rfl, rfl⟩

theorem zs_sl (w : World) : SlS (w.alloc (.cells (arr8 zs16) 40)) (w.heap.size + 1) (some ⟨w.heap.size, 0, none⟩) 16 16 zs16 :=
  ⟨by simp [len_zs16], Nat.le_refl _, by simp [maxLen], fun _ => ⟨w.heap.size, 0, rfl, by simp, fun j u hu => by
    rw [(Blk.new w 40 (arr8 zs16)).cell, Nat.zero_add]
    simpa [arr8] using hu⟩⟩

set_option maxHeartbeats 2000000 in
theorem walk (A0 : Option Addr) (n0 c0 : Nat) (bs0 : List UInt8) (A1 : Option Addr) (n1 c1 : Nat) (bs1 : List UInt8) (w : World) (w0 : SlB w w.heap.size A0 n0 c0 bs0) (y0 : c0 ≤ 140737488351232) (w1 : SlB w w.heap.size A1 n1 c1 bs1) (y1 : c1 ≤ 140737488351232) :
    Calls Try.prog 4 #[.slice A0 n0 c0, .slice A1 n1 c1] w fun e w' => e = .returned (.bool true) ∧ Below w.heap.size w w' := by
  have hnb0 : n0 ≤ 140737488351232 := Nat.le_trans w0.le y0
  have hnb1 : n1 ≤ 140737488351232 := Nat.le_trans w1.le y1
  by_cases hbig : 1000 < n0
  · have hbi : (1000 : Int) < (n0 : Int) := by omega
    clear w0 w1
    go_enter Try.func4, Try.ntmps4
    go_wp2_with fail
    go_ret
    exact ⟨rfl, Below.refl _ _⟩
  by_cases hbig1 : 200 < n1
  · have hbi : ¬ (1000 : Int) < (n0 : Int) := by omega
    have hbi1 : (200 : Int) < (n1 : Int) := by omega
    clear w0 w1
    go_enter Try.func4, Try.ntmps4
    go_wp2_with fail
    go_ret
    exact ⟨rfl, Below.refl _ _⟩
  have hbi : ¬ (1000 : Int) < (n0 : Int) := by omega
  have hbi1 : ¬ (200 : Int) < (n1 : Int) := by omega
  have W0 := Lib.hid w0
  have W1 := Lib.hid w1
  have hmk := make16
  clear w0 w1
  by_cases h16 : n1 = 16
  · subst h16
    go_enter Try.func4, Try.ntmps4
    go_wp2_with (first
      | (go_at_call 19; refine (sums_c W1.out (Nat.le_refl _) (by omega)).mono ?_; rintro e v2 ⟨A2, c2, rfl, h2, hb2⟩; have hz2 := hb2.size; have k2 : OwS (v2.alloc (.cells #[] 40)) v2.heap.size (some ⟨v2.heap.size, 0, none⟩) 0 0 [] := Row.nil _ _ _ _ _; have s2 := OwS.sl (Row.alloc h2 (.cells #[] 40)))
      | (at_builtin; refine wpList_appendS rfl (.tmp 21) (.tmp 22) rfl rfl k2 rfl s2 (by omega) (by simp) 16 rfl ?_; intro A3 c3 v3 h3 q3; have hb3 : Below v2.heap.size v2 v3 := q3.below k2 (below_alloc _ _) (Nat.le_refl _) (by simp); have h23 := OwS.below h2 hb3; have hv3 := hb2.trans (hb3.mono hz2); have hz3 := hv3.size; rw [List.nil_append] at h3)
      | (go_at_call 20; (with_reducible show Calls _ _ #[.slice A0 n0 c0, .slice A3 16 c3] v3 _); refine (build_c (W0.out.below hv3) hz3 (by omega) h3.sl (Nat.le_refl _)).mono ?_; rintro e v4 ⟨g4, c4, rfl, h4, hb4⟩; have hv4 := hv3.trans (hb4.mono hz3); have hz4 := hv4.size; have h24 := OwS.below h23 hb4; have h34 := OwS.below h3 hb4)
      | (go_at_call 21; (with_reducible show Calls _ _ #[.slice A3 16 c3, .slice A2 16 c2] v4 _); refine (same2_c h34.sl h24.sl (Nat.le_refl _) (Nat.le_refl _) true (by simp)).mono ?_; rintro e v5 ⟨rfl, hb5⟩; have hv5 := hv4.trans (hb5.mono hz4); have hz5 := hv5.size; have h25 := OwS.below h24 hb5; have h45 := OwS.below h4 hb5; have hal := below_alloc v5 (.cells (arr8 zs16) 40); have hv5a := hv5.trans (hal.mono hz5))
      | (go_at_call 20; refine (build_c (W0.out.below hv5a) hv5a.size (by omega) (zs_sl v5) (by simp)).mono ?_; rintro e v6 ⟨g6, c6, rfl, h6, hb6⟩; have hv6 := hv5a.trans (hb6.mono hv5a.size); have hz6 := hv6.size; have h26 := OwS.below h25 (hal.trans (hb6.mono hal.size)); have h46 := OwS.below h45 (hal.trans (hb6.mono hal.size)); clear h6)
      | (go_at_call 23; refine (refbuild_c (W0.out.below hv6) hz6 (by omega) h26.sl (Nat.le_refl _)).mono ?_; rintro e v7 ⟨A7, c7, rfl, h7, hb7⟩; have hv7 := hv6.trans (hb7.mono hz6); have hz7 := hv7.size; have h47 := OwS.below h46 hb7)
      | (go_at_call 21; refine (same2_c h47.sl h7.sl (Nat.le_refl _) (Nat.le_refl _) true (by simp)).mono ?_; rintro e v8 ⟨rfl, hb8⟩))
    go_ret
    exact ⟨rfl, hv7.trans (hb8.mono hz7)⟩
  · have hne : ((n1 : Int) != 16) = true := by rw [bne_iff_ne]; omega
    have hne2 : ¬ (n1 : Int) = 16 := by omega
    go_enter Try.func4, Try.ntmps4
    go_wp2_with (first
      | (go_at_call 19; refine (sums_c W1.out (Nat.le_refl _) (by omega)).mono ?_; rintro e v2 ⟨A2, c2, rfl, h2, hb2⟩; have hz2 := hb2.size; have k2 : OwS (v2.alloc (.cells #[] 40)) v2.heap.size (some ⟨v2.heap.size, 0, none⟩) 0 0 [] := Row.nil _ _ _ _ _; have s2 := OwS.sl (Row.alloc h2 (.cells #[] 40)))
      | (at_builtin; refine wpList_appendS rfl (.tmp 21) (.tmp 22) rfl rfl k2 rfl s2 (by omega) (by simp) n1 (by omega) ?_; intro A3 c3 v3 h3 q3; have hb3 : Below v2.heap.size v2 v3 := q3.below k2 (below_alloc _ _) (Nat.le_refl _) (by simp); have h23 := OwS.below h2 hb3; have hv3 := hb2.trans (hb3.mono hz2); have hz3 := hv3.size; rw [List.nil_append] at h3)
      | (go_at_call 20; (with_reducible show Calls _ _ #[.slice A0 n0 c0, .slice A3 n1 c3] v3 _); refine (build_bad h16 (by omega) v3).mono ?_; rintro e v4 ⟨rfl, rfl⟩)
      | (go_at_call 21; refine (same2_c h3.sl h23.sl (Nat.le_refl _) (Nat.le_refl _) true (by simp)).mono ?_; rintro e v5 ⟨rfl, hb5⟩; have hv5 := hv3.trans (hb5.mono hz3); have hz5 := hv5.size; have hal := below_alloc v5 (.cells (arr8 zs16) 40); have hv5a := hv5.trans (hal.mono hz5))
      | (go_at_call 20; refine (build_c (W0.out.below hv5a) hv5a.size (by omega) (zs_sl v5) (by simp)).mono ?_; rintro e v6 ⟨g6, c6, rfl, h6, hb6⟩; have hv6 := hv5a.trans (hb6.mono hv5a.size); clear h6)
      | (go_at_call 22; refine (is_err 2 2 rfl true rfl _).mono ?_; rintro e w2 ⟨rfl, rfl⟩))
    go_ret
    exact ⟨rfl, hv6⟩
end Go.Proofs.Ytbjiokjmidipaaa.treeBuilds
