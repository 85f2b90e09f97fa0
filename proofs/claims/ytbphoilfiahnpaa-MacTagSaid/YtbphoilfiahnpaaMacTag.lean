/-
  MacTag: what tag every text has with every key.
-/
import Derived.Test.YtbphoilfiahnpaaRefTag
import Derived.Test.YtbphoilfiahnpaaRelC
import Derived.Test.YtbphoilfiahnpaaRelM
import Derived.Test.YtbphoilfiahnpaaLarge
import Derived.Test.YtbphoilfiahnpaaNum
namespace Go.Proofs.Ytbphoilfiahnpaa.macTag
open Go.RowKit
set_option linter.unusedVariables false
set_option maxRecDepth 100000

def jefe : List UInt8 := [74, 101, 102, 101]
def what : List UInt8 := [119, 104, 97, 116, 32, 100, 111, 32, 121, 97, 32, 119, 97, 110, 116, 32, 102, 111, 114, 32, 110, 111, 116, 104, 105, 110, 103, 63]
theorem jefe0 : (hmac jefe what)[0]? = some 91 := by decide +kernel
theorem jefe1 : (hmac jefe what)[1]? = some 220 := by decide +kernel
theorem jefe0_run (w : World) : (Instr.index 44 (.agg (arr8 (hmac jefe what))) (.int .i64 0)).run Try.prog w = .ok (.int .u8 91) w := index44 (hmac jefe what) 0 (by omega) 91 jefe0 w

/-- Two lists, just laid. -/
theorem large_two {w : World} {B : Nat} {A A' : Option Addr} {n c n' c' : Nat} {bs bs' : List UInt8} (ha : SlB w B A n c bs) (ha' : SlB w B A' n' c' bs') (r : Bool) (hr : decide (4096 < n + n') = r) (hn : n ≤ 140737488351232) (hn' : n' ≤ 140737488351232) :
    Calls Try.prog 38 #[.slice (some ⟨w.heap.size, 0, none⟩) 2 2] (w.alloc (.cells #[.slice A n c, .slice A' n' c'] 31)) fun e w' => e = .returned (.bool r) ∧ w.alloc (.cells #[.slice A n c, .slice A' n' c'] 31) = w' :=
  large_c (B := w.heap.size + 1) [⟨A, n, c, bs⟩, ⟨A', n', c', bs'⟩] ⟨rfl, Nat.le_refl _, by simp [maxLen], fun _ => ⟨w.heap.size, 0, rfl, by simp, fun j u hu => by
    rw [(Blk.new w 31 #[.slice A n c, .slice A' n' c']).cell, Nat.zero_add]
    simpa [Part.v] using hu⟩⟩ (by simp [total]; omega) r (by simpa [total] using hr)

set_option maxHeartbeats 1000000 in
theorem walk (A0 : Option Addr) (n0 c0 : Nat) (bs0 : List UInt8) (A1 : Option Addr) (n1 c1 : Nat) (bs1 : List UInt8) (w : World) (w0 : SlB w w.heap.size A0 n0 c0 bs0) (y0 : c0 ≤ 140737488351232) (w1 : SlB w w.heap.size A1 n1 c1 bs1) (y1 : c1 ≤ 140737488351232) :
    Calls Try.prog 14 #[.slice A0 n0 c0, .slice A1 n1 c1] w fun e w' => e = .returned (.bool true) ∧ Below w.heap.size w w' := by
  have hnb0 : n0 ≤ 140737488351232 := Nat.le_trans w0.le y0
  have hnb1 : n1 ≤ 140737488351232 := Nat.le_trans w1.le y1
  by_cases hbig : 4096 < n0 + n1
  · go_enter Try.func14, Try.ntmps14
    go_wp2_with (go_at_call 38; refine (large_two w0 w1 true (decide_eq_true hbig) hnb0 hnb1).mono ?_; rintro e w2 ⟨rfl, rfl⟩)
    go_ret
    exact ⟨rfl, (Below.refl _ _).alloc (Nat.le_refl _) _⟩
  · have hlarge := large_two w0 w1 false (decide_eq_false hbig) hnb0 hnb1
    have hb1 : Below w.heap.size w (w.alloc (.cells #[.slice A0 n0 c0, .slice A1 n1 c1] 31)) := (Below.refl _ _).alloc (Nat.le_refl _) _
    obtain ⟨v1, hv1⟩ : ∃ v1, v1 = w.alloc (.cells #[.slice A0 n0 c0, .slice A1 n1 c1] 31) := ⟨_, rfl⟩
    rw [← hv1] at hb1 hlarge
    have HV := Lib.hid hv1
    have W0 := Lib.hid w0
    have W1 := Lib.hid w1
    have hz1 := hb1.size
    have hh0 := w0.below hb1
    have hh1 := w1.below hb1
    have hl0 := Lib.hid w0.len
    have hl1 := Lib.hid w1.len
    clear hv1 w0 w1
    go_enter Try.func14, Try.ntmps14
    go_wp2_with (first
      | (go_at_call 38; rw [← HV.out]; refine hlarge.mono ?_; rintro e w2 ⟨rfl, rfl⟩)
      | (go_at_call 32; ((with_reducible refine (copy_c hh0 hz1 (by omega)).mono ?_); rintro e v2 ⟨rfl, hm2, hb2⟩; have hz2 := hb2.size))
      | (go_at_call 32; ((with_reducible refine (copy_c (hh1.below (hb2.mono hz1)) (Nat.le_trans hz1 hz2) (by omega)).mono ?_); rintro e v3 ⟨rfl, hm3, hb3⟩; have hz3 := hb3.size))
      | (go_at_call 41; have hk3 : SlB v3 v3.heap.size (some ⟨v1.heap.size, 0, none⟩) n0 (n0 + 2) bs0 := (by have := ((hm2.below hb3).sl).trim (k := n0) (by omega); rwa [List.take_left' hl0.out] at this); have ht3 : SlB v3 v3.heap.size (some ⟨v2.heap.size, 0, none⟩) n1 (n1 + 2) bs1 := (by have := (hm3.sl).trim (k := n1) (by omega); rwa [List.take_left' hl1.out] at this); have hl3 : bs1.length = n1 := hl1.out; have hal := below_alloc v3 (.cells #[.slice (some ⟨v2.heap.size, 0, none⟩) n1 (n1 + 2)] 31); refine (tag_p (hk3.below hal) (by simp) (by omega) (RelP.one ht3) (by simp; omega) (by omega)).mono ?_; clear hl3; rintro e v4 ⟨rfl, hb4⟩; rw [List.flatten_singleton]; have b4 := Blk.new v4 44 (arr8 (z8' 32)))
      | ((with_reducible show wpList _ _ _ (Oper.mk _ (Op.alloc 44) _ _ _ _ :: _) _ _); refine wpList_alloc_agg rfl 44 rfl (arr8 (z8' 32)) zero44 ?_; (try rw [World.size_alloc]))
      | ((with_reducible show wpList _ _ _ (Oper.mk none (Op.store 44 (.tmp 7) _) _ _ _ _ :: _) _ _); refine wpList_store8 rfl 44 (.tmp 7) (.tmp 19) rfl v4.heap.size rfl (hmac bs0 bs1) rfl agg44 (len_hmac _ _) _ _ b4 (by rw [size_arr8, len_z8']) ?_; intro v5 hb5 hg5 hs5; simp only [Act.put, List.setIfInBounds_toArray, List.set_cons_succ, List.set_cons_zero]))
    have h35 : Below v3.heap.size v3 v5 := ((hal.trans (hb4.mono hal.size)).alloc (hal.trans (hb4.mono hal.size)).size _).grown hg5 (Nat.le_trans (hal.trans (hb4.mono hal.size)).size (by simp)) (fun k hk => by cases hk; exact (hal.trans (hb4.mono hal.size)).size)
    have h15 : Below v1.heap.size v1 v5 := hb2.trans ((hb3.trans (h35.mono hz3)).mono hz2)
    have hw5 : Below w.heap.size w v5 := hb1.trans (h15.mono hz1)
    have hz5 := hw5.size
    have hk5 := (hm2.below (hb3.trans (h35.mono hz3))).sl
    have ht5 := (hm3.below h35).sl
    have hk0 := W0.out.below hw5
    have ht0 := W1.out.below hw5
    have hl0' : bs0.length ≤ 4096 := by rw [hl0.out]; omega
    have hl1' : bs1.length ≤ 4096 := by rw [hl1.out]; omega
    clear hs5 hg5 b4 hb4 hal ht3 hk3 h35 h15 hb3 hz3 hm3 hm2 hb2 hz2 hlarge hh0 hh1
    refine wp_region_rel (LeM v5.heap.size) (fun W => Below v5.heap.size v5 W)
      [RelK v5.heap.size 4 jefe, RelB 4 jefe, RelK v5.heap.size 28 what, RelB 28 what, RelP 1 [what], Det (.agg (arr8 (hmac jefe what))), Det (.int .u8 91), Det (.bool true), Det (.bool true), Det (.agg (arr8 (hmac bs0 bs1))), Det (.slice A0 n0 c0), Det (.slice A1 n1 c1), Det (.agg (arr8 (hmac bs0 bs1))), Det (.bool true), Det (.bool true), Det (.bool true), Det (.slice (some ⟨v1.heap.size, 0, none⟩) n0 (n0 + 2)), Det (.slice A0 n0 c0), Det (.bool true), Det (.bool true), Det (.bool true), Det (.slice (some ⟨v2.heap.size, 0, none⟩) n1 (n1 + 2)), Det (.slice A1 n1 c1), Det (.bool true), Det (.bool true), Det (.bool true)]
      [[], [(0, some 20)], [], [(2, some 22)], [(3, some 23)], [(1, some 21), (4, some 24)], [(5, some 25)], [(6, some 26)], [(7, some 27)], [(8, some 28)], [(8, some 28)], [(8, some 28)], [(10, some 30), (11, some 31), (8, some 28)], [(9, some 29), (12, some 32), (8, some 28)], [(8, some 28), (13, some 33)], [(14, some 34)], [(15, some 35)], [(15, some 35)], [(16, some 36), (17, some 37), (15, some 35)], [(15, some 35), (18, some 38)], [(19, some 39)], [(20, some 40)], [(20, some 40)], [(21, some 41), (22, some 42), (20, some 40)], [(20, some 40), (23, some 43)], [(24, some 44)]]
      [[], [0], [], [2], [2, 3], [0, 1, 2, 3, 4], [0, 1, 2, 3, 4, 5], [0, 1, 2, 3, 4, 5, 6], [0, 1, 2, 3, 4, 5, 6, 7], [0, 1, 2, 3, 4, 5, 6, 7, 8], [0, 1, 2, 3, 4, 5, 6, 7, 8], [0, 1, 2, 3, 4, 5, 6, 7, 8], [0, 1, 2, 3, 4, 5, 6, 7, 8, 10, 11], [0, 1, 2, 3, 4, 5, 6, 7, 8, 9, 10, 11, 12], [0, 1, 2, 3, 4, 5, 6, 7, 8, 9, 10, 11, 12, 13], [0, 1, 2, 3, 4, 5, 6, 7, 8, 9, 10, 11, 12, 13, 14], [0, 1, 2, 3, 4, 5, 6, 7, 8, 9, 10, 11, 12, 13, 14, 15], [0, 1, 2, 3, 4, 5, 6, 7, 8, 9, 10, 11, 12, 13, 14, 15], [0, 1, 2, 3, 4, 5, 6, 7, 8, 9, 10, 11, 12, 13, 14, 15, 16, 17], [0, 1, 2, 3, 4, 5, 6, 7, 8, 9, 10, 11, 12, 13, 14, 15, 16, 17, 18], [0, 1, 2, 3, 4, 5, 6, 7, 8, 9, 10, 11, 12, 13, 14, 15, 16, 17, 18, 19], [0, 1, 2, 3, 4, 5, 6, 7, 8, 9, 10, 11, 12, 13, 14, 15, 16, 17, 18, 19, 20], [0, 1, 2, 3, 4, 5, 6, 7, 8, 9, 10, 11, 12, 13, 14, 15, 16, 17, 18, 19, 20], [0, 1, 2, 3, 4, 5, 6, 7, 8, 9, 10, 11, 12, 13, 14, 15, 16, 17, 18, 19, 20, 21, 22], [0, 1, 2, 3, 4, 5, 6, 7, 8, 9, 10, 11, 12, 13, 14, 15, 16, 17, 18, 19, 20, 21, 22, 23], [0, 1, 2, 3, 4, 5, 6, 7, 8, 9, 10, 11, 12, 13, 14, 15, 16, 17, 18, 19, 20, 21, 22, 23, 24]]
      [(0, some 20), (1, some 21), (2, some 22), (3, some 23), (4, some 24), (5, some 25), (6, some 26), (7, some 27), (8, some 28), (9, some 29), (10, some 30), (11, some 31), (12, some 32), (13, some 33), (14, some 34), (15, some 35), (16, some 36), (17, some 37), (18, some 38), (19, some 39), (20, some 40), (21, some 41), (22, some 42), (23, some 43), (24, some 44), (25, some 4)] (by kernel_rfl) (by kernel_rfl) (fun W W' h1 h2 => h1.trans h2.1) ((Below.refl _ _).drew) ?_ ?_ ?_
    · exact (AllMono.cons RelK.laterM (AllMono.cons RelB.laterM (AllMono.cons RelK.laterM (AllMono.cons RelB.laterM (AllMono.cons RelP.laterM (AllMono.cons Det.laterM (AllMono.cons Det.laterM (AllMono.cons Det.laterM (AllMono.cons Det.laterM (AllMono.cons Det.laterM (AllMono.cons Det.laterM (AllMono.cons Det.laterM (AllMono.cons Det.laterM (AllMono.cons Det.laterM (AllMono.cons Det.laterM (AllMono.cons Det.laterM (AllMono.cons Det.laterM (AllMono.cons Det.laterM (AllMono.cons Det.laterM (AllMono.cons Det.laterM (AllMono.cons Det.laterM (AllMono.cons Det.laterM (AllMono.cons Det.laterM (AllMono.cons Det.laterM (AllMono.cons Det.laterM (AllMono.cons Det.laterM AllMono.nil))))))))))))))))))))))))))
    · refine AllOb.cons ?_ (AllOb.cons ?_ (AllOb.cons ?_ (AllOb.cons ?_ (AllOb.cons ?_ (AllOb.cons ?_ (AllOb.cons ?_ (AllOb.cons ?_ (AllOb.cons ?_ (AllOb.cons ?_ (AllOb.cons ?_ (AllOb.cons ?_ (AllOb.cons ?_ (AllOb.cons ?_ (AllOb.cons ?_ (AllOb.cons ?_ (AllOb.cons ?_ (AllOb.cons ?_ (AllOb.cons ?_ (AllOb.cons ?_ (AllOb.cons ?_ (AllOb.cons ?_ (AllOb.cons ?_ (AllOb.cons ?_ (AllOb.cons ?_ (AllOb.cons ?_ (AllOb.nil))))))))))))))))))))))))))
      · intro u W hC' hu a ha
        have hC : Below v5.heap.size v5 W := hC'
        clear hC'
        simp only [puts] at ha
        subst ha
        go_wp2_with (fail)
        exact ⟨rfl, rfl, (LeM.of_below hC.size (below_alloc _ _)), RelK.new _ jefe 4 hC.size rfl (by simp [maxLen]) _ rfl⟩
      · intro u W hC' hu a ha
        have hC : Below v5.heap.size v5 W := hC'
        clear hC'
        have h20 : (RelK v5.heap.size 4 jefe) (u 0) W := hu.1
        clear hu
        simp only [puts, Act.put, List.setIfInBounds_toArray, List.set_cons_zero, List.set_cons_succ] at ha
        generalize u 0 = x20 at h20 ha
        obtain ⟨g20, m20, rfl, l20, b20, e20, z20⟩ := h20
        subst ha
        have hcv := run_mark (w := W) 4 4 b20
        have HL := LeM.freeze (k := (jefe.map b8).toArray.size) l20 b20
        clear b20
        go_wp2_with (fail)
        exact ⟨rfl, rfl, HL.1, RelK.relB ⟨_, HL.2.choose, rfl, l20, HL.2.choose_spec, e20, z20⟩⟩
      · intro u W hC' hu a ha
        have hC : Below v5.heap.size v5 W := hC'
        clear hC'
        simp only [puts] at ha
        subst ha
        go_wp2_with (fail)
        exact ⟨rfl, rfl, (LeM.of_below hC.size (below_alloc _ _)), RelK.new _ what 28 hC.size rfl (by simp [maxLen]) _ rfl⟩
      · intro u W hC' hu a ha
        have hC : Below v5.heap.size v5 W := hC'
        clear hC'
        have h22 : (RelK v5.heap.size 28 what) (u 2) W := hu.1
        clear hu
        simp only [puts, Act.put, List.setIfInBounds_toArray, List.set_cons_zero, List.set_cons_succ] at ha
        generalize u 2 = x22 at h22 ha
        obtain ⟨g22, m22, rfl, l22, b22, e22, z22⟩ := h22
        subst ha
        have hcv := run_mark (w := W) 28 28 b22
        have HL := LeM.freeze (k := (what.map b8).toArray.size) l22 b22
        clear b22
        go_wp2_with (fail)
        exact ⟨rfl, rfl, HL.1, RelK.relB ⟨_, HL.2.choose, rfl, l22, HL.2.choose_spec, e22, z22⟩⟩
      · intro u W hC' hu a ha
        have hC : Below v5.heap.size v5 W := hC'
        clear hC'
        have h23 : (RelB 28 what) (u 3) W := hu.1
        clear hu
        simp only [puts, Act.put, List.setIfInBounds_toArray, List.set_cons_zero, List.set_cons_succ] at ha
        generalize u 3 = x23 at h23 ha
        obtain ⟨A23, c23, rfl, s23⟩ := h23
        subst ha
        go_wp2_with (fail)
        exact ⟨rfl, rfl, (LeM.of_below hC.size (below_alloc _ _)), RelP.one s23⟩
      · intro u W hC' hu a ha
        have hC : Below v5.heap.size v5 W := hC'
        clear hC'
        have h21 : (RelB 4 jefe) (u 1) W := hu.1
        have h24 : (RelP 1 [what]) (u 4) W := hu.2.1
        clear hu
        simp only [puts, Act.put, List.setIfInBounds_toArray, List.set_cons_zero, List.set_cons_succ] at ha
        generalize u 1 = x21 at h21 ha
        generalize u 4 = x24 at h24 ha
        obtain ⟨A21, c21, rfl, s21⟩ := h21
        subst ha
        go_wp2_with ((go_at_call 41; refine (tag_p s21 (Nat.le_refl _) (by omega) h24 (by decide) (by omega)).mono ?_; rintro e W1 ⟨rfl, hb⟩))
        exact ⟨rfl, rfl, (LeM.of_below hC.size hb), rfl⟩
      · intro u W hC' hu a ha
        have hC : Below v5.heap.size v5 W := hC'
        clear hC'
        have h25 : (Det (.agg (arr8 (hmac jefe what)))) (u 5) W := hu.1
        clear hu
        simp only [puts, Act.put, List.setIfInBounds_toArray, List.set_cons_zero, List.set_cons_succ] at ha
        generalize u 5 = x25 at h25 ha
        obtain rfl : x25 = (.agg (arr8 (hmac jefe what))) := h25
        subst ha
        have hx := jefe0_run
        go_wp2_with (fail)
        exact ⟨rfl, rfl, (LeM.refl _ _), rfl⟩
      · intro u W hC' hu a ha
        have hC : Below v5.heap.size v5 W := hC'
        clear hC'
        have h26 : (Det (.int .u8 91)) (u 6) W := hu.1
        clear hu
        simp only [puts, Act.put, List.setIfInBounds_toArray, List.set_cons_zero, List.set_cons_succ] at ha
        generalize u 6 = x26 at h26 ha
        obtain rfl : x26 = (.int .u8 91) := h26
        subst ha
        go_wp2_with (fail)
        exact ⟨rfl, rfl, (LeM.refl _ _), rfl⟩
      · intro u W hC' hu a ha
        have hC : Below v5.heap.size v5 W := hC'
        clear hC'
        have h27 : (Det (.bool true)) (u 7) W := hu.1
        clear hu
        simp only [puts, Act.put, List.setIfInBounds_toArray, List.set_cons_zero, List.set_cons_succ] at ha
        generalize u 7 = x27 at h27 ha
        obtain rfl : x27 = (.bool true) := h27
        subst ha
        go_wp2_with (fail)
        exact ⟨rfl, rfl, (LeM.refl _ _), rfl⟩
      · intro u W hC' hu a ha
        have hC : Below v5.heap.size v5 W := hC'
        clear hC'
        have h28 : (Det (.bool true)) (u 8) W := hu.1
        clear hu
        simp only [puts, Act.put, List.setIfInBounds_toArray, List.set_cons_zero, List.set_cons_succ] at ha
        generalize u 8 = x28 at h28 ha
        obtain rfl : x28 = (.bool true) := h28
        subst ha
        go_wp2_with (((with_reducible show wpList _ _ _ (Oper.mk _ (Op.load 44 _) _ _ _ _ :: _) _ _); refine wpList_load_whole (by rfl) 44 (.tmp 7) rfl v4.heap.size rfl (arr8 (hmac bs0 bs1)) agg44 (by rw [size_arr8, len_hmac]) 44 (hb5.below hC hb5.lt) ?_))
        exact ⟨rfl, rfl, (LeM.refl _ _), rfl⟩
      · intro u W hC' hu a ha
        have hC : Below v5.heap.size v5 W := hC'
        clear hC'
        have h28 : (Det (.bool true)) (u 8) W := hu.1
        clear hu
        simp only [puts, Act.put, List.setIfInBounds_toArray, List.set_cons_zero, List.set_cons_succ] at ha
        generalize u 8 = x28 at h28 ha
        obtain rfl : x28 = (.bool true) := h28
        subst ha
        go_wp2_with (fail)
        exact ⟨rfl, rfl, (LeM.refl _ _), rfl⟩
      · intro u W hC' hu a ha
        have hC : Below v5.heap.size v5 W := hC'
        clear hC'
        have h28 : (Det (.bool true)) (u 8) W := hu.1
        clear hu
        simp only [puts, Act.put, List.setIfInBounds_toArray, List.set_cons_zero, List.set_cons_succ] at ha
        generalize u 8 = x28 at h28 ha
        obtain rfl : x28 = (.bool true) := h28
        subst ha
        go_wp2_with (fail)
        exact ⟨rfl, rfl, (LeM.refl _ _), rfl⟩
      · intro u W hC' hu a ha
        have hC : Below v5.heap.size v5 W := hC'
        clear hC'
        have h30 : (Det (.slice A0 n0 c0)) (u 10) W := hu.1
        have h31 : (Det (.slice A1 n1 c1)) (u 11) W := hu.2.1
        have h28 : (Det (.bool true)) (u 8) W := hu.2.2.1
        clear hu
        simp only [puts, Act.put, List.setIfInBounds_toArray, List.set_cons_zero, List.set_cons_succ] at ha
        generalize u 10 = x30 at h30 ha
        generalize u 11 = x31 at h31 ha
        generalize u 8 = x28 at h28 ha
        obtain rfl : x30 = (.slice A0 n0 c0) := h30
        obtain rfl : x31 = (.slice A1 n1 c1) := h31
        obtain rfl : x28 = (.bool true) := h28
        subst ha
        go_wp2_with ((go_at_call 42; refine (reftag_c (hk0.below (hC.mono hz5)) (Nat.le_trans hz5 hC.size) (by omega) (ht0.below (hC.mono hz5)) (Nat.le_trans hz5 hC.size) (by omega)).mono ?_; rintro e W1 ⟨rfl, hb⟩))
        exact ⟨rfl, rfl, (LeM.of_below hC.size hb), rfl⟩
      · intro u W hC' hu a ha
        have hC : Below v5.heap.size v5 W := hC'
        clear hC'
        have h29 : (Det (.agg (arr8 (hmac bs0 bs1)))) (u 9) W := hu.1
        have h32 : (Det (.agg (arr8 (hmac bs0 bs1)))) (u 12) W := hu.2.1
        have h28 : (Det (.bool true)) (u 8) W := hu.2.2.1
        clear hu
        simp only [puts, Act.put, List.setIfInBounds_toArray, List.set_cons_zero, List.set_cons_succ] at ha
        generalize u 9 = x29 at h29 ha
        generalize u 12 = x32 at h32 ha
        generalize u 8 = x28 at h28 ha
        obtain rfl : x29 = (.agg (arr8 (hmac bs0 bs1))) := h29
        obtain rfl : x32 = (.agg (arr8 (hmac bs0 bs1))) := h32
        obtain rfl : x28 = (.bool true) := h28
        subst ha
        have he := eq44 (hmac bs0 bs1) (hmac bs0 bs1) (len_hmac _ _) (len_hmac _ _) true (by simp)
        have hg := guard44
        go_wp2_with (fail)
        exact ⟨rfl, rfl, (LeM.refl _ _), rfl⟩
      · intro u W hC' hu a ha
        have hC : Below v5.heap.size v5 W := hC'
        clear hC'
        have h28 : (Det (.bool true)) (u 8) W := hu.1
        have h33 : (Det (.bool true)) (u 13) W := hu.2.1
        clear hu
        simp only [puts, Act.put, List.setIfInBounds_toArray, List.set_cons_zero, List.set_cons_succ] at ha
        generalize u 8 = x28 at h28 ha
        generalize u 13 = x33 at h33 ha
        obtain rfl : x28 = (.bool true) := h28
        obtain rfl : x33 = (.bool true) := h33
        subst ha
        go_wp2_with (fail)
        exact ⟨rfl, rfl, (LeM.refl _ _), rfl⟩
      · intro u W hC' hu a ha
        have hC : Below v5.heap.size v5 W := hC'
        clear hC'
        have h34 : (Det (.bool true)) (u 14) W := hu.1
        clear hu
        simp only [puts, Act.put, List.setIfInBounds_toArray, List.set_cons_zero, List.set_cons_succ] at ha
        generalize u 14 = x34 at h34 ha
        obtain rfl : x34 = (.bool true) := h34
        subst ha
        go_wp2_with (fail)
        exact ⟨rfl, rfl, (LeM.refl _ _), rfl⟩
      · intro u W hC' hu a ha
        have hC : Below v5.heap.size v5 W := hC'
        clear hC'
        have h35 : (Det (.bool true)) (u 15) W := hu.1
        clear hu
        simp only [puts, Act.put, List.setIfInBounds_toArray, List.set_cons_zero, List.set_cons_succ] at ha
        generalize u 15 = x35 at h35 ha
        obtain rfl : x35 = (.bool true) := h35
        subst ha
        go_wp2_with (fail)
        exact ⟨rfl, rfl, (LeM.refl _ _), rfl⟩
      · intro u W hC' hu a ha
        have hC : Below v5.heap.size v5 W := hC'
        clear hC'
        have h35 : (Det (.bool true)) (u 15) W := hu.1
        clear hu
        simp only [puts, Act.put, List.setIfInBounds_toArray, List.set_cons_zero, List.set_cons_succ] at ha
        generalize u 15 = x35 at h35 ha
        obtain rfl : x35 = (.bool true) := h35
        subst ha
        go_wp2_with (fail)
        exact ⟨rfl, rfl, (LeM.refl _ _), rfl⟩
      · intro u W hC' hu a ha
        have hC : Below v5.heap.size v5 W := hC'
        clear hC'
        have h36 : (Det (.slice (some ⟨v1.heap.size, 0, none⟩) n0 (n0 + 2))) (u 16) W := hu.1
        have h37 : (Det (.slice A0 n0 c0)) (u 17) W := hu.2.1
        have h35 : (Det (.bool true)) (u 15) W := hu.2.2.1
        clear hu
        simp only [puts, Act.put, List.setIfInBounds_toArray, List.set_cons_zero, List.set_cons_succ] at ha
        generalize u 16 = x36 at h36 ha
        generalize u 17 = x37 at h37 ha
        generalize u 15 = x35 at h35 ha
        obtain rfl : x36 = (.slice (some ⟨v1.heap.size, 0, none⟩) n0 (n0 + 2)) := h36
        obtain rfl : x37 = (.slice A0 n0 c0) := h37
        obtain rfl : x35 = (.bool true) := h35
        subst ha
        go_wp2_with ((go_at_call 35; refine (kept_c (hk5.below hC) (hk0.below (hC.mono hz5)) (by omega)).mono ?_; rintro e W1 ⟨rfl, rfl⟩))
        exact ⟨rfl, rfl, (LeM.refl _ _), rfl⟩
      · intro u W hC' hu a ha
        have hC : Below v5.heap.size v5 W := hC'
        clear hC'
        have h35 : (Det (.bool true)) (u 15) W := hu.1
        have h38 : (Det (.bool true)) (u 18) W := hu.2.1
        clear hu
        simp only [puts, Act.put, List.setIfInBounds_toArray, List.set_cons_zero, List.set_cons_succ] at ha
        generalize u 15 = x35 at h35 ha
        generalize u 18 = x38 at h38 ha
        obtain rfl : x35 = (.bool true) := h35
        obtain rfl : x38 = (.bool true) := h38
        subst ha
        go_wp2_with (fail)
        exact ⟨rfl, rfl, (LeM.refl _ _), rfl⟩
      · intro u W hC' hu a ha
        have hC : Below v5.heap.size v5 W := hC'
        clear hC'
        have h39 : (Det (.bool true)) (u 19) W := hu.1
        clear hu
        simp only [puts, Act.put, List.setIfInBounds_toArray, List.set_cons_zero, List.set_cons_succ] at ha
        generalize u 19 = x39 at h39 ha
        obtain rfl : x39 = (.bool true) := h39
        subst ha
        go_wp2_with (fail)
        exact ⟨rfl, rfl, (LeM.refl _ _), rfl⟩
      · intro u W hC' hu a ha
        have hC : Below v5.heap.size v5 W := hC'
        clear hC'
        have h40 : (Det (.bool true)) (u 20) W := hu.1
        clear hu
        simp only [puts, Act.put, List.setIfInBounds_toArray, List.set_cons_zero, List.set_cons_succ] at ha
        generalize u 20 = x40 at h40 ha
        obtain rfl : x40 = (.bool true) := h40
        subst ha
        go_wp2_with (fail)
        exact ⟨rfl, rfl, (LeM.refl _ _), rfl⟩
      · intro u W hC' hu a ha
        have hC : Below v5.heap.size v5 W := hC'
        clear hC'
        have h40 : (Det (.bool true)) (u 20) W := hu.1
        clear hu
        simp only [puts, Act.put, List.setIfInBounds_toArray, List.set_cons_zero, List.set_cons_succ] at ha
        generalize u 20 = x40 at h40 ha
        obtain rfl : x40 = (.bool true) := h40
        subst ha
        go_wp2_with (fail)
        exact ⟨rfl, rfl, (LeM.refl _ _), rfl⟩
      · intro u W hC' hu a ha
        have hC : Below v5.heap.size v5 W := hC'
        clear hC'
        have h41 : (Det (.slice (some ⟨v2.heap.size, 0, none⟩) n1 (n1 + 2))) (u 21) W := hu.1
        have h42 : (Det (.slice A1 n1 c1)) (u 22) W := hu.2.1
        have h40 : (Det (.bool true)) (u 20) W := hu.2.2.1
        clear hu
        simp only [puts, Act.put, List.setIfInBounds_toArray, List.set_cons_zero, List.set_cons_succ] at ha
        generalize u 21 = x41 at h41 ha
        generalize u 22 = x42 at h42 ha
        generalize u 20 = x40 at h40 ha
        obtain rfl : x41 = (.slice (some ⟨v2.heap.size, 0, none⟩) n1 (n1 + 2)) := h41
        obtain rfl : x42 = (.slice A1 n1 c1) := h42
        obtain rfl : x40 = (.bool true) := h40
        subst ha
        go_wp2_with ((go_at_call 35; refine (kept_c (ht5.below hC) (ht0.below (hC.mono hz5)) (by omega)).mono ?_; rintro e W1 ⟨rfl, rfl⟩))
        exact ⟨rfl, rfl, (LeM.refl _ _), rfl⟩
      · intro u W hC' hu a ha
        have hC : Below v5.heap.size v5 W := hC'
        clear hC'
        have h40 : (Det (.bool true)) (u 20) W := hu.1
        have h43 : (Det (.bool true)) (u 23) W := hu.2.1
        clear hu
        simp only [puts, Act.put, List.setIfInBounds_toArray, List.set_cons_zero, List.set_cons_succ] at ha
        generalize u 20 = x40 at h40 ha
        generalize u 23 = x43 at h43 ha
        obtain rfl : x40 = (.bool true) := h40
        obtain rfl : x43 = (.bool true) := h43
        subst ha
        go_wp2_with (fail)
        exact ⟨rfl, rfl, (LeM.refl _ _), rfl⟩
      · intro u W hC' hu a ha
        have hC : Below v5.heap.size v5 W := hC'
        clear hC'
        have h44 : (Det (.bool true)) (u 24) W := hu.1
        clear hu
        simp only [puts, Act.put, List.setIfInBounds_toArray, List.set_cons_zero, List.set_cons_succ] at ha
        generalize u 24 = x44 at h44 ha
        obtain rfl : x44 = (.bool true) := h44
        subst ha
        go_wp2_with (fail)
        exact ⟨rfl, rfl, (LeM.refl _ _), rfl⟩
    intro u v6 hC' hu a ha
    have hCv6 : Below v5.heap.size v5 v6 := hC'
    clear hC'
    have h4 : (Det (.bool true)) (u 25) v6 := hu.2.2.2.2.2.2.2.2.2.2.2.2.2.2.2.2.2.2.2.2.2.2.2.2.2.1
    clear hu
    simp only [puts, Act.put, List.setIfInBounds_toArray, List.set_cons_zero, List.set_cons_succ] at ha
    generalize u 0 = x20 at ha
    generalize u 1 = x21 at ha
    generalize u 2 = x22 at ha
    generalize u 3 = x23 at ha
    generalize u 4 = x24 at ha
    generalize u 5 = x25 at ha
    generalize u 6 = x26 at ha
    generalize u 7 = x27 at ha
    generalize u 8 = x28 at ha
    generalize u 9 = x29 at ha
    generalize u 10 = x30 at ha
    generalize u 11 = x31 at ha
    generalize u 12 = x32 at ha
    generalize u 13 = x33 at ha
    generalize u 14 = x34 at ha
    generalize u 15 = x35 at ha
    generalize u 16 = x36 at ha
    generalize u 17 = x37 at ha
    generalize u 18 = x38 at ha
    generalize u 19 = x39 at ha
    generalize u 20 = x40 at ha
    generalize u 21 = x41 at ha
    generalize u 22 = x42 at ha
    generalize u 23 = x43 at ha
    generalize u 24 = x44 at ha
    generalize u 25 = x4 at h4 ha
    obtain rfl : x4 = (.bool true) := h4
    subst ha
    go_wp2_with fail
    go_ret
    exact ⟨rfl, hw5.trans (hCv6.mono hz5)⟩
end Go.Proofs.Ytbphoilfiahnpaa.macTag

