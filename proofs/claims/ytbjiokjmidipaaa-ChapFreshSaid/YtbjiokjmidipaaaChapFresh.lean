/-
  ChapFresh: which bytes are fresh, and which number comes behind.
-/
import Derived.Test.YtbjiokjmidipaaaRefFresh
import Derived.Test.YtbjiokjmidipaaaApart
namespace Go.Proofs.Ytbjiokjmidipaaa.chapFresh
open Go.RowKit
set_option linter.unusedVariables false
set_option linter.unusedSimpArgs false
set_option maxRecDepth 100000

theorem behind_one : behindOf 5 33 = 7 := by decide +kernel

set_option maxHeartbeats 2000000 in
theorem tail (a0 a1 a2 M : Int) (w : World) (x0 : (Lit.int .i64 a0).wf = true) (x1 : (Lit.int .i64 a1).wf = true) (hM : (600 < a2 ∧ a2 ≤ 4096 ∧ M = 600) ∨ (¬ (600 < a2 ∧ a2 ≤ 4096) ∧ M = a2)) :
    Calls Try.prog 15 #[.int .i64 a0, .int .i64 a1, .int .i64 a2] w fun e w' => e = .returned (.bool true) ∧ Below w.heap.size w w' := by
  have hq : (behindI a1 M == behindI a1 M) = true := by simp
  have hb5 := behind_one
  rcases hM with ⟨h1, h2, rfl⟩ | ⟨h1, rfl⟩
  · go_enter Try.func15, Try.ntmps15
    go_wp2_with (first
      | (go_at_call 44; (with_reducible show Calls _ _ #[.int .i64 1, .int .i64 5, .int .i64 33] _ _); refine (fresh_c 1 5 33 (by omega) (by omega) w).mono ?_; rintro e v1 ⟨A1, rfl, ho1, hb1⟩; rw [hb5]; have hz1 := hb1.size; clear ho1)
      | (go_at_call 44; (with_reducible show Calls _ _ _ v1 _); refine (fresh_any a0 a1 (600 : Int) v1).mono ?_; rintro e v2 ⟨A2, n2, rfl, hn2, ho2, hb2⟩; have h02 := hb1.trans (hb2.mono hz1); have hz2 := h02.size)
      | (go_at_call 45; refine (reffresh_any a0 a1 (600 : Int) x0 x1 v2).mono ?_; rintro e v3 ⟨A3, n3, c3, rfl, hn3, ho3, hb3⟩; have h03 := h02.trans (hb3.mono hz2); have ho23 := ho2.below hb3; have hz3 := h03.size)
      | (go_at_call 44; (with_reducible show Calls _ _ _ v3 _); refine (fresh_any a0 a1 (600 : Int) v3).mono ?_; rintro e v4 ⟨A4, n4, rfl, hn4, ho4, hb4⟩; have h04 := h03.trans (hb4.mono hz3); have ho24 := ho23.below hb4; have ho34 := ho3.below hb4; have hz4 := h04.size)
      | (go_at_call 40; refine (same_c ho24.sl ho34.sl true (by simp)).mono ?_; rintro e v8 ⟨rfl, rfl⟩)
      | (go_at_call 46; refine (apart2_c (Row.base_le ho24 hz1) (Row.base_le ho4 hz3) (by omega) (by omega) hz4 (Lst.far_symm (far_of_base ho4 (by intro g e; rcases Row.wrote_lt ho23 with h1 | ⟨g', _, h1, _, hl, _⟩ <;> rw [h1] at e <;> cases e; exact hl)))).mono ?_; rintro e va ⟨rfl, hba⟩))
    go_ret
    exact ⟨rfl, (h04.alloc hz4 _).trans hba⟩
  · by_cases h3 : 600 < M
    · have h4 : ¬ M ≤ 4096 := fun h => h1 ⟨h3, h⟩
      clear h1
      go_enter Try.func15, Try.ntmps15
      go_wp2_with (first
        | (go_at_call 44; (with_reducible show Calls _ _ #[.int .i64 1, .int .i64 5, .int .i64 33] _ _); refine (fresh_c 1 5 33 (by omega) (by omega) w).mono ?_; rintro e v1 ⟨A1, rfl, ho1, hb1⟩; rw [hb5]; have hz1 := hb1.size; clear ho1)
        | (go_at_call 44; (with_reducible show Calls _ _ _ v1 _); refine (fresh_any a0 a1 M v1).mono ?_; rintro e v2 ⟨A2, n2, rfl, hn2, ho2, hb2⟩; have h02 := hb1.trans (hb2.mono hz1); have hz2 := h02.size)
        | (go_at_call 45; refine (reffresh_any a0 a1 M x0 x1 v2).mono ?_; rintro e v3 ⟨A3, n3, c3, rfl, hn3, ho3, hb3⟩; have h03 := h02.trans (hb3.mono hz2); have ho23 := ho2.below hb3; have hz3 := h03.size)
        | (go_at_call 44; (with_reducible show Calls _ _ _ v3 _); refine (fresh_any a0 a1 M v3).mono ?_; rintro e v4 ⟨A4, n4, rfl, hn4, ho4, hb4⟩; have h04 := h03.trans (hb4.mono hz3); have ho24 := ho23.below hb4; have ho34 := ho3.below hb4; have hz4 := h04.size)
        | (go_at_call 40; refine (same_c ho24.sl ho34.sl true (by simp)).mono ?_; rintro e v8 ⟨rfl, rfl⟩)
        | (go_at_call 46; refine (apart2_c (Row.base_le ho24 hz1) (Row.base_le ho4 hz3) (by omega) (by omega) hz4 (Lst.far_symm (far_of_base ho4 (by intro g e; rcases Row.wrote_lt ho23 with h1 | ⟨g', _, h1, _, hl, _⟩ <;> rw [h1] at e <;> cases e; exact hl)))).mono ?_; rintro e va ⟨rfl, hba⟩))
      go_ret
      exact ⟨rfl, (h04.alloc hz4 _).trans hba⟩
    · clear h1
      go_enter Try.func15, Try.ntmps15
      go_wp2_with (first
        | (go_at_call 44; (with_reducible show Calls _ _ #[.int .i64 1, .int .i64 5, .int .i64 33] _ _); refine (fresh_c 1 5 33 (by omega) (by omega) w).mono ?_; rintro e v1 ⟨A1, rfl, ho1, hb1⟩; rw [hb5]; have hz1 := hb1.size; clear ho1)
        | (go_at_call 44; (with_reducible show Calls _ _ _ v1 _); refine (fresh_any a0 a1 M v1).mono ?_; rintro e v2 ⟨A2, n2, rfl, hn2, ho2, hb2⟩; have h02 := hb1.trans (hb2.mono hz1); have hz2 := h02.size)
        | (go_at_call 45; refine (reffresh_any a0 a1 M x0 x1 v2).mono ?_; rintro e v3 ⟨A3, n3, c3, rfl, hn3, ho3, hb3⟩; have h03 := h02.trans (hb3.mono hz2); have ho23 := ho2.below hb3; have hz3 := h03.size)
        | (go_at_call 44; (with_reducible show Calls _ _ _ v3 _); refine (fresh_any a0 a1 M v3).mono ?_; rintro e v4 ⟨A4, n4, rfl, hn4, ho4, hb4⟩; have h04 := h03.trans (hb4.mono hz3); have ho24 := ho23.below hb4; have ho34 := ho3.below hb4; have hz4 := h04.size)
        | (go_at_call 40; refine (same_c ho24.sl ho34.sl true (by simp)).mono ?_; rintro e v8 ⟨rfl, rfl⟩)
        | (go_at_call 46; refine (apart2_c (Row.base_le ho24 hz1) (Row.base_le ho4 hz3) (by omega) (by omega) hz4 (Lst.far_symm (far_of_base ho4 (by intro g e; rcases Row.wrote_lt ho23 with h1 | ⟨g', _, h1, _, hl, _⟩ <;> rw [h1] at e <;> cases e; exact hl)))).mono ?_; rintro e va ⟨rfl, hba⟩))
      go_ret
      exact ⟨rfl, (h04.alloc hz4 _).trans hba⟩

theorem walk (a0 a1 a2 : Int) (w : World) (x0 : (Lit.int .i64 a0).wf = true) (x1 : (Lit.int .i64 a1).wf = true) (x2 : (Lit.int .i64 a2).wf = true) :
    Calls Try.prog 15 #[.int .i64 a0, .int .i64 a1, .int .i64 a2] w fun e w' => e = .returned (.bool true) ∧ Below w.heap.size w w' := by
  by_cases h : 600 < a2 ∧ a2 ≤ 4096
  · exact tail a0 a1 a2 600 w x0 x1 (.inl ⟨h.1, h.2, rfl⟩)
  · exact tail a0 a1 a2 a2 w x0 x1 (.inr ⟨h, rfl⟩)
end Go.Proofs.Ytbjiokjmidipaaa.chapFresh
