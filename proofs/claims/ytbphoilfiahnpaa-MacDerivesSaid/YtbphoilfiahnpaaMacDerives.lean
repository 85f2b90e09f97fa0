/-
  MacDerives: which key is derived.
-/
import Derived.Test.YtbphoilfiahnpaaDeriveUse
namespace Go.Proofs.Ytbphoilfiahnpaa.macDerives
open Go.RowKit
set_option linter.unusedVariables false
set_option linter.unusedSimpArgs false
set_option maxRecDepth 100000

set_option maxHeartbeats 2000000 in
theorem walk (A0 : Option Addr) (n0 c0 : Nat) (bs0 : List UInt8) (a1 : ByteArray) (a2 : Int) (w : World) (w0 : SlB w w.heap.size A0 n0 c0 bs0) (y0 : c0 ≤ 140737488351232) (y1 : a1.size ≤ 140737488351232) (w2 : (Lit.int .i64 a2).wf = true) :
    Calls Try.prog 18 #[.slice A0 n0 c0, .string a1, .int .i64 a2] w fun e w' => e = .returned (.bool true) ∧ Below w.heap.size w w' := by
  have hnb0 : n0 ≤ 140737488351232 := Nat.le_trans w0.le y0
  obtain ⟨cs, v3, hrun, hs3, hb3⟩ := conv_str a1 (by omega) w
  have hz3 := hb3.size
  have hk3 := (w0.below hb3).more hz3
  have hal := below_alloc v3 (.cells #[.slice A0 n0 c0, .slice (some ⟨w.heap.size, 0, none⟩) a1.size cs] 31)
  have hb4 := hb3.trans (hal.mono hz3)
  by_cases hbig : 4096 < n0 + a1.size
  · go_enter Try.func18, Try.ntmps18
    go_wp2_with (go_at_call 38; refine (large2_c hk3 hs3 true (decide_eq_true hbig) hnb0 (by omega)).mono ?_; rintro e w3 ⟨rfl, rfl⟩)
    go_ret
    exact ⟨rfl, hb4⟩
  · have hlarge := large2_c hk3 hs3 false (decide_eq_false hbig) hnb0 (by omega)
    obtain ⟨v4, hv4⟩ : ∃ v4, v4 = v3.alloc (.cells #[.slice A0 n0 c0, .slice (some ⟨w.heap.size, 0, none⟩) a1.size cs] 31) := ⟨_, rfl⟩
    rw [← hv4] at hb4 hlarge
    have HV := Lib.hid hv4
    have W0 := Lib.hid w0
    have hz4 := hb4.size
    clear hv4 hal hk3 hs3
    have hx : (Try.prog.underlying 31) = Try.prog.underlying 31 := rfl
    go_enter Try.func18, Try.ntmps18
    go_wp2_with (first
      | (go_at_call 38; rw [← HV.out]; refine hlarge.mono ?_; rintro e w2 ⟨rfl, rfl⟩)
      | (go_at_call 47; (with_reducible show Calls _ _ #[.slice A0 n0 c0, .string a1, .int .i64 a2] v4 _); refine (derive_any (W0.out.below hb4) hz4 (by omega) a1 (by omega) a2).mono ?_; rintro e v5 ⟨A5, n5, rfl, hn5, ho5, hb5⟩; have h05 := hb4.trans (hb5.mono hz4); have hz5 := h05.size)
      | (go_at_call 47; (with_reducible show Calls _ _ #[.slice (some ⟨v5.heap.size, 0, none⟩) 1 1, _, _] _ _); refine (derive_c (m := 33) (SlB.new v5 #[.int .u8 1] [1] 1 (Nat.lt_succ_self _) rfl (by simp [maxLen]) rfl) (by simp) (by omega) ⟨#[120]⟩ (by decide) (by omega) (by omega)).mono ?_; rintro e v6 ⟨A6, rfl, ho6, hb6⟩; have h56 : Below v5.heap.size v5 v6 := (below_alloc _ _).trans (hb6.mono (by simp)); have h06 := h05.trans (h56.mono hz5); have hz6 := h06.size; have ho56 := ho5.below h56)
      | (go_at_call 48; refine (refderive_any (W0.out.below h06) hz6 (by omega) a1 (by omega) a2).mono ?_; rintro e v7 ⟨A7, n7, c7, rfl, hn7, ho7, hb7⟩; have h07 := h06.trans (hb7.mono hz6); have hz7 := h07.size; have ho57 := ho56.below hb7)
      | (go_at_call 26; refine (same_c ho57.sl ho7.sl true (by simp)).mono ?_; rintro e v8 ⟨rfl, rfl⟩)
      | (go_at_call 47; (with_reducible show Calls _ _ #[.slice A0 n0 c0, .string a1, .int .i64 a2] v7 _); refine (derive_any (W0.out.below h07) hz7 (by omega) a1 (by omega) a2).mono ?_; rintro e v9 ⟨A9, n9, rfl, hn9, ho9, hb9⟩; have h09 := h07.trans (hb9.mono hz7); have ho59 := ho57.below hb9; have hz9 := h09.size)
      | (go_at_call 49; refine (apart2_c (Row.base_le ho59 hz4) (Row.base_le ho9 hz7) (by omega) (by omega) hz9 (Lst.far_symm (far_of_base ho9 (by intro g e; rcases Row.wrote_lt ho57 with h1 | ⟨g', _, h1, _, hl, _⟩ <;> rw [h1] at e <;> cases e; exact hl)))).mono ?_; rintro e va ⟨rfl, hba⟩))
    go_ret
    exact ⟨rfl, (h09.alloc hz9 _).trans hba⟩
end Go.Proofs.Ytbphoilfiahnpaa.macDerives
