/-
  DigestParts: it doesn't matter how a text is parted.
-/
import Derived.Test.YtbphoilfiahnpaaOfUse
import Derived.Test.YtbphoilfiahnpaaByt2
namespace Go.Proofs.Ytbphoilfiahnpaa.digestParts
open Go.RowKit
set_option linter.unusedVariables false
set_option maxRecDepth 100000

theorem big_walk (A0 : Option Addr) (n0 c0 : Nat) (A1 : Option Addr) (n1 c1 : Nat) (A2 : Option Addr) (n2 c2 : Nat) (w : World) (h0 : n0 ≤ 140737488351232) (h1 : n1 ≤ 140737488351232) (h2 : n2 ≤ 140737488351232) (hbig : ¬ n0 + n1 + n2 ≤ 16384) :
    Calls Try.prog 9 #[.slice A0 n0 c0, .slice A1 n1 c1, .slice A2 n2 c2] w fun e w' => e = .returned (.bool true) ∧ Below w.heap.size w w' := by
  have hni : (16384 : Int) < (n0 : Int) + (n1 : Int) + (n2 : Int) := by omega
  go_enter Try.func9, Try.ntmps9
  go_wp2_with fail
  go_ret
  exact ⟨rfl, Below.refl _ _⟩

set_option maxHeartbeats 2000000 in
theorem walk (A0 : Option Addr) (n0 c0 : Nat) (bs0 : List UInt8) (A1 : Option Addr) (n1 c1 : Nat) (bs1 : List UInt8) (A2 : Option Addr) (n2 c2 : Nat) (bs2 : List UInt8) (w : World)
    (w0 : SlB w w.heap.size A0 n0 c0 bs0) (y0 : c0 ≤ 140737488351232) (w1 : SlB w w.heap.size A1 n1 c1 bs1) (y1 : c1 ≤ 140737488351232) (w2 : SlB w w.heap.size A2 n2 c2 bs2) (y2 : c2 ≤ 140737488351232) :
    Calls Try.prog 9 #[.slice A0 n0 c0, .slice A1 n1 c1, .slice A2 n2 c2] w fun e w' => e = .returned (.bool true) ∧ Below w.heap.size w w' := by
  by_cases hbig : n0 + n1 + n2 ≤ 16384
  · have hni : ¬ (16384 : Int) < (n0 : Int) + (n1 : Int) + (n2 : Int) := by omega
    have hni2 : (n0 : Int) + (n1 : Int) + (n2 : Int) ≤ 16384 := by omega
    have h10 : OwB (w.alloc (.cells #[] 5)) w.heap.size (some ⟨w.heap.size, 0, none⟩) 0 0 [] := OwB.nil _ _ _
    have hb10 : Below w.heap.size w (w.alloc (.cells #[] 5)) := (Below.refl _ _).alloc (Nat.le_refl _) _
    have h11 := w0.alloc (Nat.le_refl _) (.cells #[] 5)
    have W0 := Lib.hid w0
    have W1 := Lib.hid w1
    have W2 := Lib.hid w2
    clear w0 w1 w2 y0 y1 y2
    go_enter Try.func9, Try.ntmps9
    go_wp2_with (first
      | (at_builtin; refine wpList_append8 rfl (.tmp 17) (.tmp 18) rfl rfl h10 rfl h11 (by omega) (by simp) n0 (by omega) ?_; intro A5 c5 w5 h5 q5; have hb5 : Below w.heap.size w w5 := q5.below h10 hb10 (Nat.le_refl _) (by simp))
      | (at_builtin; refine wpList_append8 rfl (.tmp 19) (.tmp 20) rfl rfl h5 rfl (W1.out.below hb5) (by omega) hb5.size (n0 + n1) rfl ?_; intro A6 c6 w6 h6 q6; have hb6 : Below w.heap.size w w6 := q6.below h5 hb5 (Nat.le_refl _) hb5.size)
      | (at_builtin; refine wpList_append8 rfl (.tmp 21) (.tmp 22) rfl rfl h6 rfl (W2.out.below hb6) (by omega) hb6.size (n0 + n1 + n2) rfl ?_; intro A7 c7 w7 h7 q7; have hb7 : Below w.heap.size w w7 := q7.below h6 hb6 (Nat.le_refl _) hb6.size))
    rw [List.nil_append] at h7
    have hz7 := hb7.size
    obtain ⟨bs, hbs⟩ : ∃ bs, bs = bs0 ++ bs1 ++ bs2 := ⟨_, rfl⟩
    rw [← hbs] at h7
    have HBS := Lib.hid hbs
    have H7 := Lib.hid h7
    have three : ∀ W g, Below w7.heap.size w7 W → Blk W g 31 #[.slice A0 n0 c0, .slice A1 n1 c1, .slice A2 n2 c2] → Calls Try.prog 33 #[.slice (some ⟨g, 0, none⟩) 3 3] W fun e w' => e = .returned (.agg (arr8 (sha bs))) ∧ Below W.heap.size W w' := fun W g hb hk => by
      have hz := hb.size
      have hbw := hb7.trans (hb.mono hz7)
      refine (of_c (B := W.heap.size) [⟨A0, n0, c0, bs0⟩, ⟨A1, n1, c1, bs1⟩, ⟨A2, n2, c2, bs2⟩] ⟨rfl, Nat.le_refl _, by simp [maxLen], fun _ => ⟨g, 0, rfl, hk.lt, fun j u hu => ?_⟩⟩ (Nat.le_refl _) ?_ (by simp [total]; omega)).mono ?_
      · rw [hk.cell, Nat.zero_add]
        simpa [Part.v] using hu
      · intro q hq
        simp only [List.mem_cons, List.not_mem_nil, or_false] at hq
        rcases hq with rfl | rfl | rfl
        · exact SlB.more (W0.out.below hbw) hbw.size
        · exact SlB.more (W1.out.below hbw) hbw.size
        · exact SlB.more (W2.out.below hbw) hbw.size
      · rintro e w' ⟨rfl, hb'⟩
        exact ⟨by rw [HBS.out]; simp [joined], hb'⟩
    have one : ∀ W g, Below w7.heap.size w7 W → Blk W g 31 #[.slice A7 (n0 + n1 + n2) c7] → Calls Try.prog 33 #[.slice (some ⟨g, 0, none⟩) 1 1] W fun e w' => e = .returned (.agg (arr8 (sha bs))) ∧ Below W.heap.size W w' := fun W g hb hk => by
      refine (of_c (B := W.heap.size) [⟨A7, n0 + n1 + n2, c7, bs⟩] ⟨rfl, Nat.le_refl _, by simp [maxLen], fun _ => ⟨g, 0, rfl, hk.lt, fun j u hu => ?_⟩⟩ (Nat.le_refl _) ?_ (by simp [total]; omega)).mono ?_
      · rw [hk.cell, Nat.zero_add]
        simpa [Part.v] using hu
      · intro q hq
        simp only [List.mem_cons, List.not_mem_nil, or_false] at hq
        subst hq
        exact (H7.out.below hb).sl
      · rintro e w' ⟨rfl, hb'⟩
        exact ⟨by simp [joined], hb'⟩
    have heq := eq44 (sha bs) (sha bs) (len_sha _) (len_sha _) true (by simp)
    have hge := guard44
    have hi31 := nil31
    clear h10 hb10 h11 h5 h6 h7 q5 q6 q7 hbs hb5 hb6
    go_wp2_with (first
      | (go_at_call 33; with_reducible refine (of_nil _).mono ?_; rintro e w8 ⟨rfl, hb8⟩; have hw8 : Below w7.heap.size w7 w8 := hb8)
      | (go_at_call 33; with_reducible refine (three _ _ (hw8.alloc hw8.size _) (Blk.new _ _ _)).mono ?_; rintro e w9 ⟨rfl, hb9⟩; have hw9 : Below w7.heap.size w7 w9 := (hw8.alloc hw8.size _).trans (hb9.mono (hw8.alloc hw8.size _).size))
      | (go_at_call 33; with_reducible refine (one _ _ (hw9.alloc hw9.size _) (Blk.new _ _ _)).mono ?_; rintro e w10 ⟨rfl, hb10⟩; have hw10 : Below w7.heap.size w7 w10 := (hw9.alloc hw9.size _).trans (hb10.mono (hw9.alloc hw9.size _).size)))
    go_ret
    exact ⟨rfl, hb7.trans (hw10.mono hz7)⟩
  · exact big_walk A0 n0 c0 A1 n1 c1 A2 n2 c2 w (by have := w0.le; omega) (by have := w1.le; omega) (by have := w2.le; omega) hbig
end Go.Proofs.Ytbphoilfiahnpaa.digestParts
