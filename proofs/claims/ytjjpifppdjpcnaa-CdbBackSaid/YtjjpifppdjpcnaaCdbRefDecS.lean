/-
  The reference's Decode of commands with a reservation (printed by wip/gen_crefdec.py).
-/
import Derived.Test.YtjjpifppdjpcnaaCdbRefDec
namespace Go.Proofs.Ytjjpifppdjpcnaa
open Go.RowKit
set_option linter.unusedVariables false
set_option linter.unusedSimpArgs false
set_option maxRecDepth 100000

set_option maxHeartbeats 4000000 in
theorem crefdec_six_yes {w : World} {B : Nat} {A : Option Addr} {n c : Nat} {bs : List UInt8} (hb : SlB w B A n c bs) (hB : B ≤ w.heap.size) (hn : n ≤ 1048576) (h6 : nm bs 0 1 = 6) (h25 : n = 25) (hgood : goodC 6 (nm bs 1 1) (nm bs 2 2) (nm bs 4 2) 0 (nm bs 6 1) 0 (nm bs 7 8) (nm bs 15 8) (nm bs 23 1) (nm bs 24 1 == 1)) (heq : (cmB 6 (nm bs 1 1) (nm bs 2 2) (nm bs 4 2) (nm bs 6 1) (nm bs 7 8) (nm bs 15 8) (nm bs 23 1) (nm bs 24 1 == 1) [] == bs) = true) (hdz : bs.drop 25 = []) :
    Calls Try.prog 37 #[.slice A n c] w fun e w' => ∃ A' m' c', e = .returned (.tuple #[.agg #[.int .i64 6, .int .i64 (nm bs 1 1), .int .i64 (nm bs 2 2), .int .i64 (nm bs 4 2), .slice A' m' c', .int .i64 (nm bs 6 1), .int .i64 0, .int .i64 (nm bs 7 8), .int .i64 (nm bs 15 8), .int .i64 (nm bs 23 1), .bool (nm bs 24 1 == 1)], .bool true]) ∧ OwB w' w.heap.size A' m' c' (bs.drop 25) ∧ Below w.heap.size w w' := by
  have h25' : 25 ≤ n := by omega
  have H25 := Lib.hid h25
  clear h25
  have hlen := hb.len
  have hcap := hb.le
  have hcm : c ≤ 9223372036854775807 := hb.cap
  obtain ⟨v, hv⟩ : ∃ v, v = w.alloc (.cells #[.int .i64 0, .int .i64 0, .int .i64 0, .int .i64 0, .slice none 0 0, .int .i64 0, .int .i64 0, .int .i64 0, .int .i64 0, .int .i64 0, .bool false] 56) := ⟨_, rfl⟩
  have b2 : Blk v w.heap.size 56 #[.int .i64 0, .int .i64 0, .int .i64 0, .int .i64 0, .slice none 0 0, .int .i64 0, .int .i64 0, .int .i64 0, .int .i64 0, .int .i64 0, .bool false] := by rw [hv]; exact Blk.new _ _ _
  have hwv : Below w.heap.size w v := by rw [hv]; exact below_alloc _ _
  have hz := hwv.size
  have hbv := hb.below (hwv.mono hB)
  have hBv := Nat.le_trans hB hz
  obtain ⟨bb, off, eA, hbb, hj⟩ := hbv.at_ (by omega)
  obtain ⟨AT7, hAT7, hsl7⟩ := hbv.tailRun (lo := 7) (by omega)
  rw [show ((7 : Nat) : Int) = 7 from rfl] at hsl7
  obtain ⟨AT15, hAT15, hsl15⟩ := hbv.tailRun (lo := 15) (by omega)
  rw [show ((15 : Nat) : Int) = 15 from rfl] at hsl15
  obtain ⟨x0, hx0⟩ : ∃ x, bs[0]? = some x := ⟨bs[0]'(by omega), List.getElem?_eq_getElem _⟩
  have c0 : v.cell? ⟨bb, off, none⟩ = some (.int .u8 (nm bs 0 1)) := by rw [show nm bs 0 1 = (x0.toNat : Int) from bigN_one (i := 0) hx0]; exact hj 0 x0 hx0
  obtain ⟨p0, q0⟩ := nm_one (bs := bs) (a := 0) (by omega)
  have hi0 : (0 : Int) < (n : Int) := by omega
  obtain ⟨x1, hx1⟩ : ∃ x, bs[1]? = some x := ⟨bs[1]'(by omega), List.getElem?_eq_getElem _⟩
  have c1 : v.cell? ⟨bb, off + 1, none⟩ = some (.int .u8 (nm bs 1 1)) := by rw [show nm bs 1 1 = (x1.toNat : Int) from bigN_one (i := 1) hx1]; exact hj 1 x1 hx1
  obtain ⟨p1, q1⟩ := nm_one (bs := bs) (a := 1) (by omega)
  have hi1 : (1 : Int) < (n : Int) := by omega
  obtain ⟨x2, hx2⟩ : ∃ x, bs[2]? = some x := ⟨bs[2]'(by omega), List.getElem?_eq_getElem _⟩
  have c2 : v.cell? ⟨bb, off + 2, none⟩ = some (.int .u8 (nm bs 2 1)) := by rw [show nm bs 2 1 = (x2.toNat : Int) from bigN_one (i := 2) hx2]; exact hj 2 x2 hx2
  obtain ⟨p2, q2⟩ := nm_one (bs := bs) (a := 2) (by omega)
  have hi2 : (2 : Int) < (n : Int) := by omega
  obtain ⟨x3, hx3⟩ : ∃ x, bs[3]? = some x := ⟨bs[3]'(by omega), List.getElem?_eq_getElem _⟩
  have c3 : v.cell? ⟨bb, off + 3, none⟩ = some (.int .u8 (nm bs 3 1)) := by rw [show nm bs 3 1 = (x3.toNat : Int) from bigN_one (i := 3) hx3]; exact hj 3 x3 hx3
  obtain ⟨p3, q3⟩ := nm_one (bs := bs) (a := 3) (by omega)
  have hi3 : (3 : Int) < (n : Int) := by omega
  obtain ⟨x4, hx4⟩ : ∃ x, bs[4]? = some x := ⟨bs[4]'(by omega), List.getElem?_eq_getElem _⟩
  have c4 : v.cell? ⟨bb, off + 4, none⟩ = some (.int .u8 (nm bs 4 1)) := by rw [show nm bs 4 1 = (x4.toNat : Int) from bigN_one (i := 4) hx4]; exact hj 4 x4 hx4
  obtain ⟨p4, q4⟩ := nm_one (bs := bs) (a := 4) (by omega)
  have hi4 : (4 : Int) < (n : Int) := by omega
  obtain ⟨x5, hx5⟩ : ∃ x, bs[5]? = some x := ⟨bs[5]'(by omega), List.getElem?_eq_getElem _⟩
  have c5 : v.cell? ⟨bb, off + 5, none⟩ = some (.int .u8 (nm bs 5 1)) := by rw [show nm bs 5 1 = (x5.toNat : Int) from bigN_one (i := 5) hx5]; exact hj 5 x5 hx5
  obtain ⟨p5, q5⟩ := nm_one (bs := bs) (a := 5) (by omega)
  have hi5 : (5 : Int) < (n : Int) := by omega
  obtain ⟨x6, hx6⟩ : ∃ x, bs[6]? = some x := ⟨bs[6]'(by omega), List.getElem?_eq_getElem _⟩
  have c6 : v.cell? ⟨bb, off + 6, none⟩ = some (.int .u8 (nm bs 6 1)) := by rw [show nm bs 6 1 = (x6.toNat : Int) from bigN_one (i := 6) hx6]; exact hj 6 x6 hx6
  obtain ⟨p6, q6⟩ := nm_one (bs := bs) (a := 6) (by omega)
  have hi6 : (6 : Int) < (n : Int) := by omega
  obtain ⟨x23, hx23⟩ : ∃ x, bs[23]? = some x := ⟨bs[23]'(by omega), List.getElem?_eq_getElem _⟩
  have c23 : v.cell? ⟨bb, off + 23, none⟩ = some (.int .u8 (nm bs 23 1)) := by rw [show nm bs 23 1 = (x23.toNat : Int) from bigN_one (i := 23) hx23]; exact hj 23 x23 hx23
  obtain ⟨p23, q23⟩ := nm_one (bs := bs) (a := 23) (by omega)
  have hi23 : (23 : Int) < (n : Int) := by omega
  obtain ⟨x24, hx24⟩ : ∃ x, bs[24]? = some x := ⟨bs[24]'(by omega), List.getElem?_eq_getElem _⟩
  have c24 : v.cell? ⟨bb, off + 24, none⟩ = some (.int .u8 (nm bs 24 1)) := by rw [show nm bs 24 1 = (x24.toNat : Int) from bigN_one (i := 24) hx24]; exact hj 24 x24 hx24
  obtain ⟨p24, q24⟩ := nm_one (bs := bs) (a := 24) (by omega)
  have hi24 : (24 : Int) < (n : Int) := by omega
  have hi6' : (6 : Int) ≤ (n : Int) := by omega
  have e22 := nm_pair (bs := bs) (i := 2) (by omega)
  have e42 := nm_pair (bs := bs) (i := 4) (by omega)
  obtain ⟨p22, q22⟩ := nm_two (bs := bs) (a := 2) (by omega)
  obtain ⟨p42, q42⟩ := nm_two (bs := bs) (a := 4) (by omega)
  subst eA
  have HV := Lib.hid hv
  have HB := Lib.hid hbv
  have HC0 := Lib.hid c0
  have HC1 := Lib.hid c1
  have HC2 := Lib.hid c2
  have HC3 := Lib.hid c3
  have HC4 := Lib.hid c4
  have HC5 := Lib.hid c5
  have HC6 := Lib.hid c6
  have HC23 := Lib.hid c23
  have HC24 := Lib.hid c24
  have H7 := Lib.hid hAT7
  have H15 := Lib.hid hAT15
  have hbbv : bb < v.heap.size := Nat.lt_of_lt_of_le hbb hBv
  clear hv hb hbv hj c0 hx0 c1 hx1 c2 hx2 c3 hx3 c4 hx4 c5 hx5 c6 hx6 c23 hx23 c24 hx24 hAT7 hAT15
  go_enter Try.func37, Try.ntmps37
  go_wp2_with (first
    | ((with_reducible show wpList _ _ _ (Oper.mk (some 2) (Op.alloc _) _ _ _ _ :: _) _ _); refine wpList_alloc_agg rfl 56 rfl #[.int .i64 0, .int .i64 0, .int .i64 0, .int .i64 0, .slice none 0 0, .int .i64 0, .int .i64 0, .int .i64 0, .int .i64 0, .int .i64 0, .bool false] zeroCm ?_; rw [← HV.out]))
  refine Code.wp_mono (Q := Exit.then (fun a' w' => ∃ g4, (∃ y11 y12 y13 y14 y15 y16 y17 y18 y19 y20 y21 y22 y23 y24 y25 y26 y27 y28 y29 y30 y31 y32 y33 y34 y35 y36 y37 y38 y39 y40 y41 y42 y43 : Value, a' = { tmps := #[Value.slice (some ⟨bb, off, none⟩) n c, undef, Value.pointer (some ⟨w.heap.size, 0, none⟩), Value.bool false, Value.pointer (some ⟨g4, 0, none⟩), undef, undef, undef, undef, undef, undef, y11, y12, y13, y14, y15, y16, y17, y18, y19, y20, y21, y22, y23, y24, y25, y26, y27, y28, y29, y30, y31, y32, y33, y34, y35, y36, y37, y38, y39, y40, y41, y42, y43, undef, undef, undef, undef, undef, undef, undef, undef, undef, undef, undef, undef, undef, undef, undef, undef, undef, undef, undef, undef, undef, undef, undef, undef, undef, undef, undef, undef, undef, undef, undef, undef, undef, undef, undef, undef, undef, undef, undef, undef, undef, undef, undef, undef, undef, undef, undef, undef, undef, undef, undef, undef, undef, undef, undef, undef, undef, undef, undef], defers := [] }) ∧ Blk w' g4 56 #[.int .i64 (nm bs 0 1), .int .i64 (nm bs 1 1), .int .i64 (nm bs 2 2), .int .i64 (nm bs 4 2), .slice none 0 0, .int .i64 0, .int .i64 0, .int .i64 0, .int .i64 0, .int .i64 0, .bool false] ∧ v.heap.size ≤ g4 ∧ Below v.heap.size v w') (fun _ _ _ => False)) ?_ ?_
  rotate_left
  · refine (wpIn_wide (n := 4)).1 ?_
    refine wpIn_region_rel free_wide rfl 30 (fun W W' => Below W.heap.size W W') (fun W => Below v.heap.size v W)
      [Det (.slice (some ⟨bb, off, none⟩) n c), Det (.pointer (some ⟨bb, off, none⟩)), Det (.int .u8 (nm bs 0 1)), Det (.int .i64 (nm bs 0 1)), Det (.slice (some ⟨bb, off, none⟩) n c), Det (.pointer (some ⟨bb, off + 1, none⟩)), Det (.int .u8 (nm bs 1 1)), Det (.int .i64 (nm bs 1 1)), Det (.slice (some ⟨bb, off, none⟩) n c), Det (.pointer (some ⟨bb, off + 2, none⟩)), Det (.int .u8 (nm bs 2 1)), Det (.int .i64 (nm bs 2 1)), Det (.int .i64 (nm bs 2 1 * 256)), Det (.slice (some ⟨bb, off, none⟩) n c), Det (.pointer (some ⟨bb, off + 3, none⟩)), Det (.int .u8 (nm bs 3 1)), Det (.int .i64 (nm bs 3 1)), Det (.int .i64 (nm bs 2 2)), Det (.slice (some ⟨bb, off, none⟩) n c), Det (.pointer (some ⟨bb, off + 4, none⟩)), Det (.int .u8 (nm bs 4 1)), Det (.int .i64 (nm bs 4 1)), Det (.int .i64 (nm bs 4 1 * 256)), Det (.slice (some ⟨bb, off, none⟩) n c), Det (.pointer (some ⟨bb, off + 5, none⟩)), Det (.int .u8 (nm bs 5 1)), Det (.int .i64 (nm bs 5 1)), Det (.int .i64 (nm bs 4 2)), Det (.agg #[.int .i64 (nm bs 0 1), .int .i64 (nm bs 1 1), .int .i64 (nm bs 2 2), .int .i64 (nm bs 4 2), .slice none 0 0, .int .i64 0, .int .i64 0, .int .i64 0, .int .i64 0, .int .i64 0, .bool false]), RelZ v.heap.size 56 #[.int .i64 0, .int .i64 0, .int .i64 0, .int .i64 0, .slice none 0 0, .int .i64 0, .int .i64 0, .int .i64 0, .int .i64 0, .int .i64 0, .bool false], Any]
      [[], [(0, some 15)], [(1, some 16)], [(2, some 17)], [], [(4, some 19)], [(5, some 20)], [(6, some 21)], [], [(8, some 23)], [(9, some 24)], [(10, some 25)], [(11, some 26)], [], [(13, some 28)], [(14, some 29)], [(15, some 30)], [(12, some 27), (16, some 31)], [], [(18, some 33)], [(19, some 34)], [(20, some 35)], [(21, some 36)], [], [(23, some 38)], [(24, some 39)], [(25, some 40)], [(22, some 37), (26, some 41)], [(3, some 18), (7, some 22), (17, some 32), (27, some 42)], [], [(29, some 4), (28, some 43)]]
      [[], [0], [0, 1], [0, 1, 2], [], [4], [4, 5], [4, 5, 6], [], [8], [8, 9], [8, 9, 10], [8, 9, 10, 11], [], [13], [13, 14], [13, 14, 15], [8, 9, 10, 11, 12, 13, 14, 15, 16], [], [18], [18, 19], [18, 19, 20], [18, 19, 20, 21], [], [23], [23, 24], [23, 24, 25], [18, 19, 20, 21, 22, 23, 24, 25, 26], [0, 1, 2, 3, 4, 5, 6, 7, 8, 9, 10, 11, 12, 13, 14, 15, 16, 17, 18, 19, 20, 21, 22, 23, 24, 25, 26, 27], [], [0, 1, 2, 3, 4, 5, 6, 7, 8, 9, 10, 11, 12, 13, 14, 15, 16, 17, 18, 19, 20, 21, 22, 23, 24, 25, 26, 27, 28, 29]]
      [(0, some 15), (1, some 16), (2, some 17), (3, some 18), (4, some 19), (5, some 20), (6, some 21), (7, some 22), (8, some 23), (9, some 24), (10, some 25), (11, some 26), (12, some 27), (13, some 28), (14, some 29), (15, some 30), (16, some 31), (17, some 32), (18, some 33), (19, some 34), (20, some 35), (21, some 36), (22, some 37), (23, some 38), (24, some 39), (25, some 40), (26, some 41), (27, some 42), (28, some 43), (29, some 4), (30, none)] (by kernel_rfl) (by kernel_rfl) (by kernel_rfl) (fun W W' h1 h2 => h1.trans (h2.mono h1.size)) ((Below.refl _ _).drew) ?_ ?_ ?_
    · exact (AllMono.cons Det.later (AllMono.cons Det.later (AllMono.cons Det.later (AllMono.cons Det.later (AllMono.cons Det.later (AllMono.cons Det.later (AllMono.cons Det.later (AllMono.cons Det.later (AllMono.cons Det.later (AllMono.cons Det.later (AllMono.cons Det.later (AllMono.cons Det.later (AllMono.cons Det.later (AllMono.cons Det.later (AllMono.cons Det.later (AllMono.cons Det.later (AllMono.cons Det.later (AllMono.cons Det.later (AllMono.cons Det.later (AllMono.cons Det.later (AllMono.cons Det.later (AllMono.cons Det.later (AllMono.cons Det.later (AllMono.cons Det.later (AllMono.cons Det.later (AllMono.cons Det.later (AllMono.cons Det.later (AllMono.cons Det.later (AllMono.cons Det.later (AllMono.cons RelZ.later (AllMono.cons Any.later AllMono.nil)))))))))))))))))))))))))))))))
    · refine AllOb.cons ?_ (AllOb.cons ?_ (AllOb.cons ?_ (AllOb.cons ?_ (AllOb.cons ?_ (AllOb.cons ?_ (AllOb.cons ?_ (AllOb.cons ?_ (AllOb.cons ?_ (AllOb.cons ?_ (AllOb.cons ?_ (AllOb.cons ?_ (AllOb.cons ?_ (AllOb.cons ?_ (AllOb.cons ?_ (AllOb.cons ?_ (AllOb.cons ?_ (AllOb.cons ?_ (AllOb.cons ?_ (AllOb.cons ?_ (AllOb.cons ?_ (AllOb.cons ?_ (AllOb.cons ?_ (AllOb.cons ?_ (AllOb.cons ?_ (AllOb.cons ?_ (AllOb.cons ?_ (AllOb.cons ?_ (AllOb.cons ?_ (AllOb.cons ?_ (AllOb.nil))))))))))))))))))))))))))))))
      · intro uF W hC' hU aF hF
        have hC : Below v.heap.size v W := hC'
        clear hC'
        simp only [puts] at hF
        subst hF
        go_wp2_with (fail)
        exact ⟨rfl, rfl, (Below.refl _ _), rfl⟩
      · intro uF W hC' hU aF hF
        have hC : Below v.heap.size v W := hC'
        clear hC'
        have h15 : (Det (.slice (some ⟨bb, off, none⟩) n c)) (uF 0) W := hU.1
        clear hU
        simp only [puts, Act.put, List.setIfInBounds_toArray, List.set_cons_zero, List.set_cons_succ] at hF
        generalize uF 0 = x15 at h15 hF
        obtain rfl : x15 = (.slice (some ⟨bb, off, none⟩) n c) := h15
        subst hF
        go_wp2_with (fail)
        exact ⟨rfl, rfl, (Below.refl _ _), rfl⟩
      · intro uF W hC' hU aF hF
        have hC : Below v.heap.size v W := hC'
        clear hC'
        have h16 : (Det (.pointer (some ⟨bb, off, none⟩))) (uF 1) W := hU.1
        clear hU
        simp only [puts, Act.put, List.setIfInBounds_toArray, List.set_cons_zero, List.set_cons_succ] at hF
        generalize uF 1 = x16 at h16 hF
        obtain rfl : x16 = (.pointer (some ⟨bb, off, none⟩)) := h16
        subst hF
        have k0 := (hC.cell (show (⟨bb, off, none⟩ : Addr).block < v.heap.size from hbbv)).trans HC0.out
        go_wp2_with (fail)
        exact ⟨rfl, rfl, (Below.refl _ _), rfl⟩
      · intro uF W hC' hU aF hF
        have hC : Below v.heap.size v W := hC'
        clear hC'
        have h17 : (Det (.int .u8 (nm bs 0 1))) (uF 2) W := hU.1
        clear hU
        simp only [puts, Act.put, List.setIfInBounds_toArray, List.set_cons_zero, List.set_cons_succ] at hF
        generalize uF 2 = x17 at h17 hF
        obtain rfl : x17 = (.int .u8 (nm bs 0 1)) := h17
        subst hF
        go_wp2_with (fail)
        exact ⟨rfl, rfl, (Below.refl _ _), rfl⟩
      · intro uF W hC' hU aF hF
        have hC : Below v.heap.size v W := hC'
        clear hC'
        simp only [puts] at hF
        subst hF
        go_wp2_with (fail)
        exact ⟨rfl, rfl, (Below.refl _ _), rfl⟩
      · intro uF W hC' hU aF hF
        have hC : Below v.heap.size v W := hC'
        clear hC'
        have h19 : (Det (.slice (some ⟨bb, off, none⟩) n c)) (uF 4) W := hU.1
        clear hU
        simp only [puts, Act.put, List.setIfInBounds_toArray, List.set_cons_zero, List.set_cons_succ] at hF
        generalize uF 4 = x19 at h19 hF
        obtain rfl : x19 = (.slice (some ⟨bb, off, none⟩) n c) := h19
        subst hF
        go_wp2_with (fail)
        exact ⟨rfl, rfl, (Below.refl _ _), rfl⟩
      · intro uF W hC' hU aF hF
        have hC : Below v.heap.size v W := hC'
        clear hC'
        have h20 : (Det (.pointer (some ⟨bb, off + 1, none⟩))) (uF 5) W := hU.1
        clear hU
        simp only [puts, Act.put, List.setIfInBounds_toArray, List.set_cons_zero, List.set_cons_succ] at hF
        generalize uF 5 = x20 at h20 hF
        obtain rfl : x20 = (.pointer (some ⟨bb, off + 1, none⟩)) := h20
        subst hF
        have k0 := (hC.cell (show (⟨bb, off + 1, none⟩ : Addr).block < v.heap.size from hbbv)).trans HC1.out
        go_wp2_with (fail)
        exact ⟨rfl, rfl, (Below.refl _ _), rfl⟩
      · intro uF W hC' hU aF hF
        have hC : Below v.heap.size v W := hC'
        clear hC'
        have h21 : (Det (.int .u8 (nm bs 1 1))) (uF 6) W := hU.1
        clear hU
        simp only [puts, Act.put, List.setIfInBounds_toArray, List.set_cons_zero, List.set_cons_succ] at hF
        generalize uF 6 = x21 at h21 hF
        obtain rfl : x21 = (.int .u8 (nm bs 1 1)) := h21
        subst hF
        go_wp2_with (fail)
        exact ⟨rfl, rfl, (Below.refl _ _), rfl⟩
      · intro uF W hC' hU aF hF
        have hC : Below v.heap.size v W := hC'
        clear hC'
        simp only [puts] at hF
        subst hF
        go_wp2_with (fail)
        exact ⟨rfl, rfl, (Below.refl _ _), rfl⟩
      · intro uF W hC' hU aF hF
        have hC : Below v.heap.size v W := hC'
        clear hC'
        have h23 : (Det (.slice (some ⟨bb, off, none⟩) n c)) (uF 8) W := hU.1
        clear hU
        simp only [puts, Act.put, List.setIfInBounds_toArray, List.set_cons_zero, List.set_cons_succ] at hF
        generalize uF 8 = x23 at h23 hF
        obtain rfl : x23 = (.slice (some ⟨bb, off, none⟩) n c) := h23
        subst hF
        go_wp2_with (fail)
        exact ⟨rfl, rfl, (Below.refl _ _), rfl⟩
      · intro uF W hC' hU aF hF
        have hC : Below v.heap.size v W := hC'
        clear hC'
        have h24 : (Det (.pointer (some ⟨bb, off + 2, none⟩))) (uF 9) W := hU.1
        clear hU
        simp only [puts, Act.put, List.setIfInBounds_toArray, List.set_cons_zero, List.set_cons_succ] at hF
        generalize uF 9 = x24 at h24 hF
        obtain rfl : x24 = (.pointer (some ⟨bb, off + 2, none⟩)) := h24
        subst hF
        have k0 := (hC.cell (show (⟨bb, off + 2, none⟩ : Addr).block < v.heap.size from hbbv)).trans HC2.out
        go_wp2_with (fail)
        exact ⟨rfl, rfl, (Below.refl _ _), rfl⟩
      · intro uF W hC' hU aF hF
        have hC : Below v.heap.size v W := hC'
        clear hC'
        have h25 : (Det (.int .u8 (nm bs 2 1))) (uF 10) W := hU.1
        clear hU
        simp only [puts, Act.put, List.setIfInBounds_toArray, List.set_cons_zero, List.set_cons_succ] at hF
        generalize uF 10 = x25 at h25 hF
        obtain rfl : x25 = (.int .u8 (nm bs 2 1)) := h25
        subst hF
        go_wp2_with (fail)
        exact ⟨rfl, rfl, (Below.refl _ _), rfl⟩
      · intro uF W hC' hU aF hF
        have hC : Below v.heap.size v W := hC'
        clear hC'
        have h26 : (Det (.int .i64 (nm bs 2 1))) (uF 11) W := hU.1
        clear hU
        simp only [puts, Act.put, List.setIfInBounds_toArray, List.set_cons_zero, List.set_cons_succ] at hF
        generalize uF 11 = x26 at h26 hF
        obtain rfl : x26 = (.int .i64 (nm bs 2 1)) := h26
        subst hF
        go_wp2_with (fail)
        exact ⟨rfl, rfl, (Below.refl _ _), rfl⟩
      · intro uF W hC' hU aF hF
        have hC : Below v.heap.size v W := hC'
        clear hC'
        simp only [puts] at hF
        subst hF
        go_wp2_with (fail)
        exact ⟨rfl, rfl, (Below.refl _ _), rfl⟩
      · intro uF W hC' hU aF hF
        have hC : Below v.heap.size v W := hC'
        clear hC'
        have h28 : (Det (.slice (some ⟨bb, off, none⟩) n c)) (uF 13) W := hU.1
        clear hU
        simp only [puts, Act.put, List.setIfInBounds_toArray, List.set_cons_zero, List.set_cons_succ] at hF
        generalize uF 13 = x28 at h28 hF
        obtain rfl : x28 = (.slice (some ⟨bb, off, none⟩) n c) := h28
        subst hF
        go_wp2_with (fail)
        exact ⟨rfl, rfl, (Below.refl _ _), rfl⟩
      · intro uF W hC' hU aF hF
        have hC : Below v.heap.size v W := hC'
        clear hC'
        have h29 : (Det (.pointer (some ⟨bb, off + 3, none⟩))) (uF 14) W := hU.1
        clear hU
        simp only [puts, Act.put, List.setIfInBounds_toArray, List.set_cons_zero, List.set_cons_succ] at hF
        generalize uF 14 = x29 at h29 hF
        obtain rfl : x29 = (.pointer (some ⟨bb, off + 3, none⟩)) := h29
        subst hF
        have k0 := (hC.cell (show (⟨bb, off + 3, none⟩ : Addr).block < v.heap.size from hbbv)).trans HC3.out
        go_wp2_with (fail)
        exact ⟨rfl, rfl, (Below.refl _ _), rfl⟩
      · intro uF W hC' hU aF hF
        have hC : Below v.heap.size v W := hC'
        clear hC'
        have h30 : (Det (.int .u8 (nm bs 3 1))) (uF 15) W := hU.1
        clear hU
        simp only [puts, Act.put, List.setIfInBounds_toArray, List.set_cons_zero, List.set_cons_succ] at hF
        generalize uF 15 = x30 at h30 hF
        obtain rfl : x30 = (.int .u8 (nm bs 3 1)) := h30
        subst hF
        go_wp2_with (fail)
        exact ⟨rfl, rfl, (Below.refl _ _), rfl⟩
      · intro uF W hC' hU aF hF
        have hC : Below v.heap.size v W := hC'
        clear hC'
        have h27 : (Det (.int .i64 (nm bs 2 1 * 256))) (uF 12) W := hU.1
        have h31 : (Det (.int .i64 (nm bs 3 1))) (uF 16) W := hU.2.1
        clear hU
        simp only [puts, Act.put, List.setIfInBounds_toArray, List.set_cons_zero, List.set_cons_succ] at hF
        generalize uF 12 = x27 at h27 hF
        generalize uF 16 = x31 at h31 hF
        obtain rfl : x27 = (.int .i64 (nm bs 2 1 * 256)) := h27
        obtain rfl : x31 = (.int .i64 (nm bs 3 1)) := h31
        subst hF
        go_wp2_with (fail)
        exact ⟨rfl, rfl, (Below.refl _ _), rfl⟩
      · intro uF W hC' hU aF hF
        have hC : Below v.heap.size v W := hC'
        clear hC'
        simp only [puts] at hF
        subst hF
        go_wp2_with (fail)
        exact ⟨rfl, rfl, (Below.refl _ _), rfl⟩
      · intro uF W hC' hU aF hF
        have hC : Below v.heap.size v W := hC'
        clear hC'
        have h33 : (Det (.slice (some ⟨bb, off, none⟩) n c)) (uF 18) W := hU.1
        clear hU
        simp only [puts, Act.put, List.setIfInBounds_toArray, List.set_cons_zero, List.set_cons_succ] at hF
        generalize uF 18 = x33 at h33 hF
        obtain rfl : x33 = (.slice (some ⟨bb, off, none⟩) n c) := h33
        subst hF
        go_wp2_with (fail)
        exact ⟨rfl, rfl, (Below.refl _ _), rfl⟩
      · intro uF W hC' hU aF hF
        have hC : Below v.heap.size v W := hC'
        clear hC'
        have h34 : (Det (.pointer (some ⟨bb, off + 4, none⟩))) (uF 19) W := hU.1
        clear hU
        simp only [puts, Act.put, List.setIfInBounds_toArray, List.set_cons_zero, List.set_cons_succ] at hF
        generalize uF 19 = x34 at h34 hF
        obtain rfl : x34 = (.pointer (some ⟨bb, off + 4, none⟩)) := h34
        subst hF
        have k0 := (hC.cell (show (⟨bb, off + 4, none⟩ : Addr).block < v.heap.size from hbbv)).trans HC4.out
        go_wp2_with (fail)
        exact ⟨rfl, rfl, (Below.refl _ _), rfl⟩
      · intro uF W hC' hU aF hF
        have hC : Below v.heap.size v W := hC'
        clear hC'
        have h35 : (Det (.int .u8 (nm bs 4 1))) (uF 20) W := hU.1
        clear hU
        simp only [puts, Act.put, List.setIfInBounds_toArray, List.set_cons_zero, List.set_cons_succ] at hF
        generalize uF 20 = x35 at h35 hF
        obtain rfl : x35 = (.int .u8 (nm bs 4 1)) := h35
        subst hF
        go_wp2_with (fail)
        exact ⟨rfl, rfl, (Below.refl _ _), rfl⟩
      · intro uF W hC' hU aF hF
        have hC : Below v.heap.size v W := hC'
        clear hC'
        have h36 : (Det (.int .i64 (nm bs 4 1))) (uF 21) W := hU.1
        clear hU
        simp only [puts, Act.put, List.setIfInBounds_toArray, List.set_cons_zero, List.set_cons_succ] at hF
        generalize uF 21 = x36 at h36 hF
        obtain rfl : x36 = (.int .i64 (nm bs 4 1)) := h36
        subst hF
        go_wp2_with (fail)
        exact ⟨rfl, rfl, (Below.refl _ _), rfl⟩
      · intro uF W hC' hU aF hF
        have hC : Below v.heap.size v W := hC'
        clear hC'
        simp only [puts] at hF
        subst hF
        go_wp2_with (fail)
        exact ⟨rfl, rfl, (Below.refl _ _), rfl⟩
      · intro uF W hC' hU aF hF
        have hC : Below v.heap.size v W := hC'
        clear hC'
        have h38 : (Det (.slice (some ⟨bb, off, none⟩) n c)) (uF 23) W := hU.1
        clear hU
        simp only [puts, Act.put, List.setIfInBounds_toArray, List.set_cons_zero, List.set_cons_succ] at hF
        generalize uF 23 = x38 at h38 hF
        obtain rfl : x38 = (.slice (some ⟨bb, off, none⟩) n c) := h38
        subst hF
        go_wp2_with (fail)
        exact ⟨rfl, rfl, (Below.refl _ _), rfl⟩
      · intro uF W hC' hU aF hF
        have hC : Below v.heap.size v W := hC'
        clear hC'
        have h39 : (Det (.pointer (some ⟨bb, off + 5, none⟩))) (uF 24) W := hU.1
        clear hU
        simp only [puts, Act.put, List.setIfInBounds_toArray, List.set_cons_zero, List.set_cons_succ] at hF
        generalize uF 24 = x39 at h39 hF
        obtain rfl : x39 = (.pointer (some ⟨bb, off + 5, none⟩)) := h39
        subst hF
        have k0 := (hC.cell (show (⟨bb, off + 5, none⟩ : Addr).block < v.heap.size from hbbv)).trans HC5.out
        go_wp2_with (fail)
        exact ⟨rfl, rfl, (Below.refl _ _), rfl⟩
      · intro uF W hC' hU aF hF
        have hC : Below v.heap.size v W := hC'
        clear hC'
        have h40 : (Det (.int .u8 (nm bs 5 1))) (uF 25) W := hU.1
        clear hU
        simp only [puts, Act.put, List.setIfInBounds_toArray, List.set_cons_zero, List.set_cons_succ] at hF
        generalize uF 25 = x40 at h40 hF
        obtain rfl : x40 = (.int .u8 (nm bs 5 1)) := h40
        subst hF
        go_wp2_with (fail)
        exact ⟨rfl, rfl, (Below.refl _ _), rfl⟩
      · intro uF W hC' hU aF hF
        have hC : Below v.heap.size v W := hC'
        clear hC'
        have h37 : (Det (.int .i64 (nm bs 4 1 * 256))) (uF 22) W := hU.1
        have h41 : (Det (.int .i64 (nm bs 5 1))) (uF 26) W := hU.2.1
        clear hU
        simp only [puts, Act.put, List.setIfInBounds_toArray, List.set_cons_zero, List.set_cons_succ] at hF
        generalize uF 22 = x37 at h37 hF
        generalize uF 26 = x41 at h41 hF
        obtain rfl : x37 = (.int .i64 (nm bs 4 1 * 256)) := h37
        obtain rfl : x41 = (.int .i64 (nm bs 5 1)) := h41
        subst hF
        go_wp2_with (fail)
        exact ⟨rfl, rfl, (Below.refl _ _), rfl⟩
      · intro uF W hC' hU aF hF
        have hC : Below v.heap.size v W := hC'
        clear hC'
        have h18 : (Det (.int .i64 (nm bs 0 1))) (uF 3) W := hU.1
        have h22 : (Det (.int .i64 (nm bs 1 1))) (uF 7) W := hU.2.1
        have h32 : (Det (.int .i64 (nm bs 2 2))) (uF 17) W := hU.2.2.1
        have h42 : (Det (.int .i64 (nm bs 4 2))) (uF 27) W := hU.2.2.2.1
        clear hU
        simp only [puts, Act.put, List.setIfInBounds_toArray, List.set_cons_zero, List.set_cons_succ] at hF
        generalize uF 3 = x18 at h18 hF
        generalize uF 7 = x22 at h22 hF
        generalize uF 17 = x32 at h32 hF
        generalize uF 27 = x42 at h42 hF
        obtain rfl : x18 = (.int .i64 (nm bs 0 1)) := h18
        obtain rfl : x22 = (.int .i64 (nm bs 1 1)) := h22
        obtain rfl : x32 = (.int .i64 (nm bs 2 2)) := h32
        obtain rfl : x42 = (.int .i64 (nm bs 4 2)) := h42
        subst hF
        go_wp2_with (fail)
        exact ⟨rfl, rfl, (Below.refl _ _), rfl⟩
      · intro uF W hC' hU aF hF
        have hC : Below v.heap.size v W := hC'
        clear hC'
        simp only [puts] at hF
        subst hF
        go_wp2_with (((with_reducible show wpList _ _ _ (Oper.mk (some 4) (Op.alloc _) _ _ _ _ :: _) _ _); refine wpList_alloc_agg (by rfl) 56 rfl #[.int .i64 0, .int .i64 0, .int .i64 0, .int .i64 0, .slice none 0 0, .int .i64 0, .int .i64 0, .int .i64 0, .int .i64 0, .int .i64 0, .bool false] zeroCm ?_))
        exact ⟨rfl, rfl, (below_alloc _ _), ⟨_, rfl, hC.size, Blk.new _ _ _⟩⟩
    intro uF W5 hC' hU aF hF
    have hCW5 : Below v.heap.size v W5 := hC'
    clear hC'
    have h43 : (Det (.agg #[.int .i64 (nm bs 0 1), .int .i64 (nm bs 1 1), .int .i64 (nm bs 2 2), .int .i64 (nm bs 4 2), .slice none 0 0, .int .i64 0, .int .i64 0, .int .i64 0, .int .i64 0, .int .i64 0, .bool false])) (uF 28) W5 := hU.2.2.2.2.2.2.2.2.2.2.2.2.2.2.2.2.2.2.2.2.2.2.2.2.2.2.2.2.1
    have h4 : (RelZ v.heap.size 56 #[.int .i64 0, .int .i64 0, .int .i64 0, .int .i64 0, .slice none 0 0, .int .i64 0, .int .i64 0, .int .i64 0, .int .i64 0, .int .i64 0, .bool false]) (uF 29) W5 := hU.2.2.2.2.2.2.2.2.2.2.2.2.2.2.2.2.2.2.2.2.2.2.2.2.2.2.2.2.2.1
    clear hU
    simp only [List.take_succ_cons, List.take_zero, puts, Act.put, List.setIfInBounds_toArray, List.set_cons_zero, List.set_cons_succ] at hF
    generalize uF 0 = x15 at hF
    generalize uF 1 = x16 at hF
    generalize uF 2 = x17 at hF
    generalize uF 3 = x18 at hF
    generalize uF 4 = x19 at hF
    generalize uF 5 = x20 at hF
    generalize uF 6 = x21 at hF
    generalize uF 7 = x22 at hF
    generalize uF 8 = x23 at hF
    generalize uF 9 = x24 at hF
    generalize uF 10 = x25 at hF
    generalize uF 11 = x26 at hF
    generalize uF 12 = x27 at hF
    generalize uF 13 = x28 at hF
    generalize uF 14 = x29 at hF
    generalize uF 15 = x30 at hF
    generalize uF 16 = x31 at hF
    generalize uF 17 = x32 at hF
    generalize uF 18 = x33 at hF
    generalize uF 19 = x34 at hF
    generalize uF 20 = x35 at hF
    generalize uF 21 = x36 at hF
    generalize uF 22 = x37 at hF
    generalize uF 23 = x38 at hF
    generalize uF 24 = x39 at hF
    generalize uF 25 = x40 at hF
    generalize uF 26 = x41 at hF
    generalize uF 27 = x42 at hF
    generalize uF 28 = x43 at h43 hF
    generalize uF 29 = x4 at h4 hF
    obtain rfl : x43 = (.agg #[.int .i64 (nm bs 0 1), .int .i64 (nm bs 1 1), .int .i64 (nm bs 2 2), .int .i64 (nm bs 4 2), .slice none 0 0, .int .i64 0, .int .i64 0, .int .i64 0, .int .i64 0, .int .i64 0, .bool false]) := h43
    obtain ⟨g4, rfl, z4, b4⟩ := h4
    subst hF
    simp only [List.drop_succ_cons, List.drop_zero]
    refine wpListIn_of free_wide (fun ⟨_, _, h⟩ => h) rfl ?_
    refine wpList_store_whole rfl 56 (.tmp 4) (.tmp 43) rfl g4 rfl [.int .i64 (nm bs 0 1), .int .i64 (nm bs 1 1), .int .i64 (nm bs 2 2), .int .i64 (nm bs 4 2), .slice none 0 0, .int .i64 0, .int .i64 0, .int .i64 0, .int .i64 0, .int .i64 0, .bool false] rfl aggCm rfl _ _ b4 rfl (by simp [Value.oneCell']) ?_
    intro w4 hb4 hg4 hs4
    exact wpList_nil ⟨g4, ⟨_, _, _, _, _, _, _, _, _, _, _, _, _, _, _, _, _, _, _, _, _, _, _, _, _, _, _, _, _, _, _, _, _, rfl⟩, hb4, z4, hCW5.grown hg4 hCW5.size (fun k hk => by cases hk; exact z4)⟩
  rintro e a' w4 h
  clear e22 e42
  cases e with
  | normal =>
    obtain ⟨g4, ⟨y11, y12, y13, y14, y15, y16, y17, y18, y19, y20, y21, y22, y23, y24, y25, y26, y27, y28, y29, y30, y31, y32, y33, y34, y35, y36, y37, y38, y39, y40, y41, y42, y43, rfl⟩, hb4, hg4, hw4⟩ := h
    have hw4w := hwv.trans (hw4.mono hz)
    have hz4 := hw4.size
    have b24 := b2.below hw4 b2.lt
    have b2lt := b2.lt
    have k0 : w4.cell? ⟨g4, 0, none⟩ = some (.int .i64 (nm bs 0 1)) := by rw [hb4.cell]; rfl
    have k4 : w4.cell? ⟨g4, 4, none⟩ = some (.slice none 0 0) := by rw [hb4.cell]; rfl
    have f4 := hb4.frozen 4
    have hbl := hb4.lt
    rw [h6] at k0 hb4
    have hne : ((n : Int) != 25) = false := by rw [H25.out]; rfl
    have HD6 := Lib.hid ((hw4.cell (show (⟨bb, off + 6, none⟩ : Addr).block < v.heap.size from hbbv)).trans HC6.out)
    have HD23 := Lib.hid ((hw4.cell (show (⟨bb, off + 23, none⟩ : Addr).block < v.heap.size from hbbv)).trans HC23.out)
    have HD24 := Lib.hid ((hw4.cell (show (⟨bb, off + 24, none⟩ : Addr).block < v.heap.size from hbbv)).trans HC24.out)
    have hbb4 : bb < w4.heap.size := Nat.lt_of_lt_of_le hbbv hz4
    go_wp2_with (first
      | (go_at_call 51; (fail_if_success have hx := T2); have hprev := T1; clear hprev; refine (ref_take_ok (H15.out.below (hw4.mono hBv)) (k := 8) (by simp [sz]) (by omega)).mono ?_; rintro e w' ⟨rfl, rfl⟩; rw [show i64v (bigN ((bs.drop 15).take 8)) = nm bs 15 8 from rfl]; have T2 := True.intro)
      | (go_at_call 51; (fail_if_success have hx := T1); refine (ref_take_ok (H7.out.below (hw4.mono hBv)) (k := 8) (by simp [sz]) (by omega)).mono ?_; rintro e w' ⟨rfl, rfl⟩; rw [show i64v (bigN ((bs.drop 7).take 8)) = nm bs 7 8 from rfl]; have T1 := True.intro))
    refine Code.wp_mono (Q := Exit.then (fun a' w' => (∃ y11 y12 y13 y14 y15 y16 y17 y18 y19 y20 y21 y22 y23 y24 y25 y26 y27 y28 y29 y30 y31 y32 y33 y34 y35 y36 y37 y38 y39 y40 y41 y42 y43 y44 y45 y46 y47 y48 y49 y50 y51 y52 y53 y54 y55 y56 y57 y58 y59 y60 y61 y62 y63 y64 y65 y66 y67 y68 y69 y70 y71 y72 y73 y74 y75 y76 y77 y78 y79 y80 y81 y82 y83 y84 y85 y86 : Value, a' = { tmps := #[Value.slice (some ⟨bb, off, none⟩) n c, undef, Value.pointer (some ⟨w.heap.size, 0, none⟩), Value.bool false, Value.pointer (some ⟨g4, 0, none⟩), Value.int .i64 (nm bs 7 8), Value.bool true, Value.int .i64 (nm bs 15 8), Value.bool true, undef, undef, y11, y12, y13, y14, y15, y16, y17, y18, y19, y20, y21, y22, y23, y24, y25, y26, y27, y28, y29, y30, y31, y32, y33, y34, y35, y36, y37, y38, y39, y40, y41, y42, y43, y44, y45, y46, y47, y48, y49, y50, y51, y52, y53, y54, y55, y56, y57, y58, y59, y60, y61, y62, y63, y64, y65, y66, y67, y68, y69, y70, y71, y72, y73, y74, y75, y76, y77, y78, y79, y80, y81, y82, y83, y84, y85, y86, undef, undef, undef, undef, undef, undef, undef, undef, undef, undef, undef, undef, undef, undef, undef, undef], defers := [] }) ∧ Blk w' g4 56 #[.int .i64 6, .int .i64 (nm bs 1 1), .int .i64 (nm bs 2 2), .int .i64 (nm bs 4 2), .slice none 0 0, .int .i64 (nm bs 6 1), .int .i64 0, .int .i64 (nm bs 7 8), .int .i64 (nm bs 15 8), .int .i64 (nm bs 23 1), .bool (nm bs 24 1 == 1)] ∧ Below v.heap.size v w' ∧ Blk w' w.heap.size 56 #[.int .i64 0, .int .i64 0, .int .i64 0, .int .i64 0, .slice none 0 0, .int .i64 0, .int .i64 0, .int .i64 0, .int .i64 0, .int .i64 0, .bool false]) (fun _ _ _ => False)) ?_ ?_
    rotate_left
    · refine (wpIn_wide (n := 4)).1 ?_
      refine wpIn_region_rel free_wide rfl 16 (fun W W' => Below W.heap.size W W') (fun W => Below w4.heap.size w4 W)
        [Det (.slice (some ⟨bb, off, none⟩) n c), Det (.pointer (some ⟨bb, off + 6, none⟩)), Det (.int .u8 (nm bs 6 1)), Det (.int .i64 (nm bs 6 1)), Det (.int .i64 (nm bs 7 8)), Det (.int .i64 (nm bs 15 8)), Det (.slice (some ⟨bb, off, none⟩) n c), Det (.pointer (some ⟨bb, off + 23, none⟩)), Det (.int .u8 (nm bs 23 1)), Det (.int .i64 (nm bs 23 1)), Det (.slice (some ⟨bb, off, none⟩) n c), Det (.pointer (some ⟨bb, off + 24, none⟩)), Det (.int .u8 (nm bs 24 1)), Det (.bool (nm bs 24 1 == 1)), Det (.agg #[.int .i64 (nm bs 6 1), .int .i64 0, .int .i64 (nm bs 7 8), .int .i64 (nm bs 15 8), .int .i64 (nm bs 23 1), .bool (nm bs 24 1 == 1)]), Det (.pointer (some ⟨g4, 5, none⟩)), Any]
        [[], [(0, some 71)], [(1, some 72)], [(2, some 73)], [], [], [], [(6, some 77)], [(7, some 78)], [(8, some 79)], [], [(10, some 81)], [(11, some 82)], [(12, some 83)], [(3, some 74), (4, some 75), (5, some 76), (9, some 80), (13, some 84)], [], [(15, some 86), (14, some 85)]]
        [[], [0], [0, 1], [0, 1, 2], [], [], [], [6], [6, 7], [6, 7, 8], [], [10], [10, 11], [10, 11, 12], [0, 1, 2, 3, 4, 5, 6, 7, 8, 9, 10, 11, 12, 13], [0, 1, 2, 3, 4, 5, 6, 7, 8, 9, 10, 11, 12, 13, 14], [0, 1, 2, 3, 4, 5, 6, 7, 8, 9, 10, 11, 12, 13, 14, 15]]
        [(0, some 71), (1, some 72), (2, some 73), (3, some 74), (4, some 75), (5, some 76), (6, some 77), (7, some 78), (8, some 79), (9, some 80), (10, some 81), (11, some 82), (12, some 83), (13, some 84), (14, some 85), (15, some 86), (16, none)] (by kernel_rfl) (by kernel_rfl) (by kernel_rfl) (fun W W' h1 h2 => h1.trans (h2.mono h1.size)) ((Below.refl _ _).drew) ?_ ?_ ?_
      · exact (AllMono.cons Det.later (AllMono.cons Det.later (AllMono.cons Det.later (AllMono.cons Det.later (AllMono.cons Det.later (AllMono.cons Det.later (AllMono.cons Det.later (AllMono.cons Det.later (AllMono.cons Det.later (AllMono.cons Det.later (AllMono.cons Det.later (AllMono.cons Det.later (AllMono.cons Det.later (AllMono.cons Det.later (AllMono.cons Det.later (AllMono.cons Det.later (AllMono.cons Any.later AllMono.nil)))))))))))))))))
      · refine AllOb.cons ?_ (AllOb.cons ?_ (AllOb.cons ?_ (AllOb.cons ?_ (AllOb.cons ?_ (AllOb.cons ?_ (AllOb.cons ?_ (AllOb.cons ?_ (AllOb.cons ?_ (AllOb.cons ?_ (AllOb.cons ?_ (AllOb.cons ?_ (AllOb.cons ?_ (AllOb.cons ?_ (AllOb.cons ?_ (AllOb.cons ?_ (AllOb.nil))))))))))))))))
        · intro uF W hC' hU aF hF
          have hC : Below w4.heap.size w4 W := hC'
          clear hC'
          simp only [puts] at hF
          subst hF
          go_wp2_with (fail)
          exact ⟨rfl, rfl, (Below.refl _ _), rfl⟩
        · intro uF W hC' hU aF hF
          have hC : Below w4.heap.size w4 W := hC'
          clear hC'
          have h71 : (Det (.slice (some ⟨bb, off, none⟩) n c)) (uF 0) W := hU.1
          clear hU
          simp only [puts, Act.put, List.setIfInBounds_toArray, List.set_cons_zero, List.set_cons_succ] at hF
          generalize uF 0 = x71 at h71 hF
          obtain rfl : x71 = (.slice (some ⟨bb, off, none⟩) n c) := h71
          subst hF
          go_wp2_with (fail)
          exact ⟨rfl, rfl, (Below.refl _ _), rfl⟩
        · intro uF W hC' hU aF hF
          have hC : Below w4.heap.size w4 W := hC'
          clear hC'
          have h72 : (Det (.pointer (some ⟨bb, off + 6, none⟩))) (uF 1) W := hU.1
          clear hU
          simp only [puts, Act.put, List.setIfInBounds_toArray, List.set_cons_zero, List.set_cons_succ] at hF
          generalize uF 1 = x72 at h72 hF
          obtain rfl : x72 = (.pointer (some ⟨bb, off + 6, none⟩)) := h72
          subst hF
          have k0 := (hC.cell (show (⟨bb, off + 6, none⟩ : Addr).block < w4.heap.size from hbb4)).trans HD6.out
          go_wp2_with (fail)
          exact ⟨rfl, rfl, (Below.refl _ _), rfl⟩
        · intro uF W hC' hU aF hF
          have hC : Below w4.heap.size w4 W := hC'
          clear hC'
          have h73 : (Det (.int .u8 (nm bs 6 1))) (uF 2) W := hU.1
          clear hU
          simp only [puts, Act.put, List.setIfInBounds_toArray, List.set_cons_zero, List.set_cons_succ] at hF
          generalize uF 2 = x73 at h73 hF
          obtain rfl : x73 = (.int .u8 (nm bs 6 1)) := h73
          subst hF
          go_wp2_with (fail)
          exact ⟨rfl, rfl, (Below.refl _ _), rfl⟩
        · intro uF W hC' hU aF hF
          have hC : Below w4.heap.size w4 W := hC'
          clear hC'
          simp only [puts] at hF
          subst hF
          go_wp2_with (fail)
          exact ⟨rfl, rfl, (Below.refl _ _), rfl⟩
        · intro uF W hC' hU aF hF
          have hC : Below w4.heap.size w4 W := hC'
          clear hC'
          simp only [puts] at hF
          subst hF
          go_wp2_with (fail)
          exact ⟨rfl, rfl, (Below.refl _ _), rfl⟩
        · intro uF W hC' hU aF hF
          have hC : Below w4.heap.size w4 W := hC'
          clear hC'
          simp only [puts] at hF
          subst hF
          go_wp2_with (fail)
          exact ⟨rfl, rfl, (Below.refl _ _), rfl⟩
        · intro uF W hC' hU aF hF
          have hC : Below w4.heap.size w4 W := hC'
          clear hC'
          have h77 : (Det (.slice (some ⟨bb, off, none⟩) n c)) (uF 6) W := hU.1
          clear hU
          simp only [puts, Act.put, List.setIfInBounds_toArray, List.set_cons_zero, List.set_cons_succ] at hF
          generalize uF 6 = x77 at h77 hF
          obtain rfl : x77 = (.slice (some ⟨bb, off, none⟩) n c) := h77
          subst hF
          go_wp2_with (fail)
          exact ⟨rfl, rfl, (Below.refl _ _), rfl⟩
        · intro uF W hC' hU aF hF
          have hC : Below w4.heap.size w4 W := hC'
          clear hC'
          have h78 : (Det (.pointer (some ⟨bb, off + 23, none⟩))) (uF 7) W := hU.1
          clear hU
          simp only [puts, Act.put, List.setIfInBounds_toArray, List.set_cons_zero, List.set_cons_succ] at hF
          generalize uF 7 = x78 at h78 hF
          obtain rfl : x78 = (.pointer (some ⟨bb, off + 23, none⟩)) := h78
          subst hF
          have k0 := (hC.cell (show (⟨bb, off + 23, none⟩ : Addr).block < w4.heap.size from hbb4)).trans HD23.out
          go_wp2_with (fail)
          exact ⟨rfl, rfl, (Below.refl _ _), rfl⟩
        · intro uF W hC' hU aF hF
          have hC : Below w4.heap.size w4 W := hC'
          clear hC'
          have h79 : (Det (.int .u8 (nm bs 23 1))) (uF 8) W := hU.1
          clear hU
          simp only [puts, Act.put, List.setIfInBounds_toArray, List.set_cons_zero, List.set_cons_succ] at hF
          generalize uF 8 = x79 at h79 hF
          obtain rfl : x79 = (.int .u8 (nm bs 23 1)) := h79
          subst hF
          go_wp2_with (fail)
          exact ⟨rfl, rfl, (Below.refl _ _), rfl⟩
        · intro uF W hC' hU aF hF
          have hC : Below w4.heap.size w4 W := hC'
          clear hC'
          simp only [puts] at hF
          subst hF
          go_wp2_with (fail)
          exact ⟨rfl, rfl, (Below.refl _ _), rfl⟩
        · intro uF W hC' hU aF hF
          have hC : Below w4.heap.size w4 W := hC'
          clear hC'
          have h81 : (Det (.slice (some ⟨bb, off, none⟩) n c)) (uF 10) W := hU.1
          clear hU
          simp only [puts, Act.put, List.setIfInBounds_toArray, List.set_cons_zero, List.set_cons_succ] at hF
          generalize uF 10 = x81 at h81 hF
          obtain rfl : x81 = (.slice (some ⟨bb, off, none⟩) n c) := h81
          subst hF
          go_wp2_with (fail)
          exact ⟨rfl, rfl, (Below.refl _ _), rfl⟩
        · intro uF W hC' hU aF hF
          have hC : Below w4.heap.size w4 W := hC'
          clear hC'
          have h82 : (Det (.pointer (some ⟨bb, off + 24, none⟩))) (uF 11) W := hU.1
          clear hU
          simp only [puts, Act.put, List.setIfInBounds_toArray, List.set_cons_zero, List.set_cons_succ] at hF
          generalize uF 11 = x82 at h82 hF
          obtain rfl : x82 = (.pointer (some ⟨bb, off + 24, none⟩)) := h82
          subst hF
          have k0 := (hC.cell (show (⟨bb, off + 24, none⟩ : Addr).block < w4.heap.size from hbb4)).trans HD24.out
          go_wp2_with (fail)
          exact ⟨rfl, rfl, (Below.refl _ _), rfl⟩
        · intro uF W hC' hU aF hF
          have hC : Below w4.heap.size w4 W := hC'
          clear hC'
          have h83 : (Det (.int .u8 (nm bs 24 1))) (uF 12) W := hU.1
          clear hU
          simp only [puts, Act.put, List.setIfInBounds_toArray, List.set_cons_zero, List.set_cons_succ] at hF
          generalize uF 12 = x83 at h83 hF
          obtain rfl : x83 = (.int .u8 (nm bs 24 1)) := h83
          subst hF
          go_wp2_with (fail)
          exact ⟨rfl, rfl, (Below.refl _ _), rfl⟩
        · intro uF W hC' hU aF hF
          have hC : Below w4.heap.size w4 W := hC'
          clear hC'
          have h74 : (Det (.int .i64 (nm bs 6 1))) (uF 3) W := hU.1
          have h75 : (Det (.int .i64 (nm bs 7 8))) (uF 4) W := hU.2.1
          have h76 : (Det (.int .i64 (nm bs 15 8))) (uF 5) W := hU.2.2.1
          have h80 : (Det (.int .i64 (nm bs 23 1))) (uF 9) W := hU.2.2.2.1
          have h84 : (Det (.bool (nm bs 24 1 == 1))) (uF 13) W := hU.2.2.2.2.1
          clear hU
          simp only [puts, Act.put, List.setIfInBounds_toArray, List.set_cons_zero, List.set_cons_succ] at hF
          generalize uF 3 = x74 at h74 hF
          generalize uF 4 = x75 at h75 hF
          generalize uF 5 = x76 at h76 hF
          generalize uF 9 = x80 at h80 hF
          generalize uF 13 = x84 at h84 hF
          obtain rfl : x74 = (.int .i64 (nm bs 6 1)) := h74
          obtain rfl : x75 = (.int .i64 (nm bs 7 8)) := h75
          obtain rfl : x76 = (.int .i64 (nm bs 15 8)) := h76
          obtain rfl : x80 = (.int .i64 (nm bs 23 1)) := h80
          obtain rfl : x84 = (.bool (nm bs 24 1 == 1)) := h84
          subst hF
          go_wp2_with (fail)
          exact ⟨rfl, rfl, (Below.refl _ _), rfl⟩
        · intro uF W hC' hU aF hF
          have hC : Below w4.heap.size w4 W := hC'
          clear hC'
          simp only [puts] at hF
          subst hF
          go_wp2_with (fail)
          exact ⟨rfl, rfl, (Below.refl _ _), rfl⟩
      intro uF W6 hC' hU aF hF
      have hCW6 : Below w4.heap.size w4 W6 := hC'
      clear hC'
      have h85 : (Det (.agg #[.int .i64 (nm bs 6 1), .int .i64 0, .int .i64 (nm bs 7 8), .int .i64 (nm bs 15 8), .int .i64 (nm bs 23 1), .bool (nm bs 24 1 == 1)])) (uF 14) W6 := hU.2.2.2.2.2.2.2.2.2.2.2.2.2.2.1
      have h86 : (Det (.pointer (some ⟨g4, 5, none⟩))) (uF 15) W6 := hU.2.2.2.2.2.2.2.2.2.2.2.2.2.2.2.1
      clear hU
      simp only [List.take_succ_cons, List.take_zero, puts, Act.put, List.setIfInBounds_toArray, List.set_cons_zero, List.set_cons_succ] at hF
      generalize uF 0 = x71 at hF
      generalize uF 1 = x72 at hF
      generalize uF 2 = x73 at hF
      generalize uF 3 = x74 at hF
      generalize uF 4 = x75 at hF
      generalize uF 5 = x76 at hF
      generalize uF 6 = x77 at hF
      generalize uF 7 = x78 at hF
      generalize uF 8 = x79 at hF
      generalize uF 9 = x80 at hF
      generalize uF 10 = x81 at hF
      generalize uF 11 = x82 at hF
      generalize uF 12 = x83 at hF
      generalize uF 13 = x84 at hF
      generalize uF 14 = x85 at h85 hF
      generalize uF 15 = x86 at h86 hF
      obtain rfl : x85 = (.agg #[.int .i64 (nm bs 6 1), .int .i64 0, .int .i64 (nm bs 7 8), .int .i64 (nm bs 15 8), .int .i64 (nm bs 23 1), .bool (nm bs 24 1 == 1)]) := h85
      obtain rfl : x86 = (.pointer (some ⟨g4, 5, none⟩)) := h86
      subst hF
      simp only [List.drop_succ_cons, List.drop_zero]
      refine wpListIn_of free_wide (fun ⟨_, _, h⟩ => h) rfl ?_
      have b46 := hb4.below hCW6 hb4.lt
      have b26 := b24.below hCW6 b24.lt
      refine wpList_store_agg rfl 54 (.tmp 86) (.tmp 85) rfl g4 5 rfl [.int .i64 (nm bs 6 1), .int .i64 0, .int .i64 (nm bs 7 8), .int .i64 (nm bs 15 8), .int .i64 (nm bs 23 1), .bool (nm bs 24 1 == 1)] rfl aggRv rfl _ _ b46 (by simp) (by simp [Value.oneCell']) ?_
      intro vA bA0 gA sA
      have bA : Blk vA g4 56 #[.int .i64 6, .int .i64 (nm bs 1 1), .int .i64 (nm bs 2 2), .int .i64 (nm bs 4 2), .slice none 0 0, .int .i64 (nm bs 6 1), .int .i64 0, .int .i64 (nm bs 7 8), .int .i64 (nm bs 15 8), .int .i64 (nm bs 23 1), .bool (nm bs 24 1 == 1)] := bA0
      have hvA := (hw4.trans (hCW6.mono hz4)).grown gA (hw4.trans (hCW6.mono hz4)).size (fun k hk => by cases hk; exact hg4)
      have b2A := b26.grown gA (by simp; omega)
      exact wpList_nil ⟨⟨_, _, _, _, _, _, _, _, _, _, _, _, _, _, _, _, _, _, _, _, _, _, _, _, _, _, _, _, _, _, _, _, _, _, _, _, _, _, _, _, _, _, _, _, _, _, _, _, _, _, _, _, _, _, _, _, _, _, _, _, _, _, _, _, _, _, _, _, _, _, _, _, _, _, _, _, rfl⟩, bA, hvA, b2A⟩
    rintro e a' V6 h
    cases e with
    | normal =>
      obtain ⟨⟨y11, y12, y13, y14, y15, y16, y17, y18, y19, y20, y21, y22, y23, y24, y25, y26, y27, y28, y29, y30, y31, y32, y33, y34, y35, y36, y37, y38, y39, y40, y41, y42, y43, y44, y45, y46, y47, y48, y49, y50, y51, y52, y53, y54, y55, y56, y57, y58, y59, y60, y61, y62, y63, y64, y65, y66, y67, y68, y69, y70, y71, y72, y73, y74, y75, y76, y77, y78, y79, y80, y81, y82, y83, y84, y85, y86, rfl⟩, b6, hv6v, b26⟩ := h
      have hv6 := hwv.trans (hv6v.mono hz)
      have hz6 := hv6.size
      have o6 : OwB V6 V6.heap.size none 0 0 [] := OwB.nil _ _ _
      have heq' : (⟨(cmB 6 (nm bs 1 1) (nm bs 2 2) (nm bs 4 2) (nm bs 6 1) (nm bs 7 8) (nm bs 15 8) (nm bs 23 1) (nm bs 24 1 == 1) []).toArray⟩ : ByteArray) = ⟨bs.toArray⟩ := by rw [eq_of_beq heq]
      obtain ⟨S2, hS2⟩ : ∃ S : ByteArray, S = ⟨bs.toArray⟩ := ⟨_, rfl⟩
      have HS2 := Lib.hid hS2
      have HEQ := Lib.hid heq'
      clear hS2 heq'
      go_wp2_with (first
        | ((with_reducible show wpList _ _ _ (Oper.mk (some 88) (Op.load 56 _) _ _ _ _ :: _) _ _); refine wpList_load_whole (by rfl) 56 (.tmp 4) rfl g4 rfl #[.int .i64 6, .int .i64 (nm bs 1 1), .int .i64 (nm bs 2 2), .int .i64 (nm bs 4 2), .slice none 0 0, .int .i64 (nm bs 6 1), .int .i64 0, .int .i64 (nm bs 7 8), .int .i64 (nm bs 15 8), .int .i64 (nm bs 23 1), .bool (nm bs 24 1 == 1)] aggCm rfl _ b6 ?_)
        | (go_at_call 30; refine (crefenc_yes 6 (nm bs 1 1) (nm bs 2 2) (nm bs 4 2) (nm bs 6 1) 0 (nm bs 7 8) (nm bs 15 8) (nm bs 23 1) (nm bs 24 1 == 1) (OwB.sl o6) (Nat.le_refl _) (by omega) ⟨by decide, nm_wf _ _ _, nm_wf _ _ _, nm_wf _ _ _⟩ ⟨nm_wf _ _ _, nm_wf _ _ _, nm_wf _ _ _, nm_wf _ _ _⟩ hgood).mono ?_; rintro e w7 ⟨A7, N7, c7, rfl, o7, hb7⟩; have hw7 := hv6.trans (hb7.mono hz6); have hz7 := hw7.size; have b27 := b26.below hb7 b26.lt; have b67 := b6.below hb7 b6.lt; have o67 := OwB.below o6 hb7; have e7 := o7.sl.str; have e8 := SlB.str ((HB.out.below (hv6v.mono hBv)).below (hb7.mono (Nat.le_trans hBv hv6v.size))); rw [HEQ.out, ← HS2.out] at e7; rw [← HS2.out] at e8)
        | ((with_reducible show wpList _ _ _ (Oper.mk (some 102) (Op.load 56 _) _ _ _ _ :: _) _ _); refine wpList_load_whole rfl 56 (.tmp 4) rfl g4 rfl #[.int .i64 6, .int .i64 (nm bs 1 1), .int .i64 (nm bs 2 2), .int .i64 (nm bs 4 2), .slice none 0 0, .int .i64 (nm bs 6 1), .int .i64 0, .int .i64 (nm bs 7 8), .int .i64 (nm bs 15 8), .int .i64 (nm bs 23 1), .bool (nm bs 24 1 == 1)] aggCm rfl _ b67 ?_)
        | ((with_reducible show wpList _ _ _ (Oper.mk none (Op.store 56 (.tmp 2) (.tmp 102)) _ _ _ _ :: _) _ _); refine wpList_store_whole rfl 56 (.tmp 2) (.tmp 102) rfl w.heap.size rfl [.int .i64 6, .int .i64 (nm bs 1 1), .int .i64 (nm bs 2 2), .int .i64 (nm bs 4 2), .slice none 0 0, .int .i64 (nm bs 6 1), .int .i64 0, .int .i64 (nm bs 7 8), .int .i64 (nm bs 15 8), .int .i64 (nm bs 23 1), .bool (nm bs 24 1 == 1)] rfl aggCm rfl _ _ b27 rfl (by simp [Value.oneCell']) ?_; intro wf bf gf sf))
      refine bodyPost_ret (results_cell_tmp rfl _ w.heap.size _ #[.int .i64 6, .int .i64 (nm bs 1 1), .int .i64 (nm bs 2 2), .int .i64 (nm bs 4 2), .slice none 0 0, .int .i64 (nm bs 6 1), .int .i64 0, .int .i64 (nm bs 7 8), .int .i64 (nm bs 15 8), .int .i64 (nm bs 23 1), .bool (nm bs 24 1 == 1)] aggCm rfl rfl bf) rfl ⟨_, _, _, rfl, (by rw [hdz]; exact OwB.nil _ _ _), ?_⟩
      exact hw7.grown gf hz7 (fun k hk => by cases hk; exact Nat.le_refl _)
    | _ => exact h.elim
  | _ => exact h.elim

set_option maxHeartbeats 4000000 in
theorem crefdec_six_off {w : World} {B : Nat} {A : Option Addr} {n c : Nat} {bs : List UInt8} (hb : SlB w B A n c bs) (hB : B ≤ w.heap.size) (hn : n ≤ 1048576) (h6 : nm bs 0 1 = 6) (h25 : n = 25) (hgood : goodC 6 (nm bs 1 1) (nm bs 2 2) (nm bs 4 2) 0 (nm bs 6 1) 0 (nm bs 7 8) (nm bs 15 8) (nm bs 23 1) (nm bs 24 1 == 1)) (heq : (cmB 6 (nm bs 1 1) (nm bs 2 2) (nm bs 4 2) (nm bs 6 1) (nm bs 7 8) (nm bs 15 8) (nm bs 23 1) (nm bs 24 1 == 1) [] == bs) = false) :
    Calls Try.prog 37 #[.slice A n c] w fun e w' => e = .returned (.tuple #[.agg #[.int .i64 0, .int .i64 0, .int .i64 0, .int .i64 0, .slice none 0 0, .int .i64 0, .int .i64 0, .int .i64 0, .int .i64 0, .int .i64 0, .bool false], .bool false]) ∧ Below w.heap.size w w' := by
  have h25' : 25 ≤ n := by omega
  have H25 := Lib.hid h25
  clear h25
  have hlen := hb.len
  have hcap := hb.le
  have hcm : c ≤ 9223372036854775807 := hb.cap
  obtain ⟨v, hv⟩ : ∃ v, v = w.alloc (.cells #[.int .i64 0, .int .i64 0, .int .i64 0, .int .i64 0, .slice none 0 0, .int .i64 0, .int .i64 0, .int .i64 0, .int .i64 0, .int .i64 0, .bool false] 56) := ⟨_, rfl⟩
  have b2 : Blk v w.heap.size 56 #[.int .i64 0, .int .i64 0, .int .i64 0, .int .i64 0, .slice none 0 0, .int .i64 0, .int .i64 0, .int .i64 0, .int .i64 0, .int .i64 0, .bool false] := by rw [hv]; exact Blk.new _ _ _
  have hwv : Below w.heap.size w v := by rw [hv]; exact below_alloc _ _
  have hz := hwv.size
  have hbv := hb.below (hwv.mono hB)
  have hBv := Nat.le_trans hB hz
  obtain ⟨bb, off, eA, hbb, hj⟩ := hbv.at_ (by omega)
  obtain ⟨AT7, hAT7, hsl7⟩ := hbv.tailRun (lo := 7) (by omega)
  rw [show ((7 : Nat) : Int) = 7 from rfl] at hsl7
  obtain ⟨AT15, hAT15, hsl15⟩ := hbv.tailRun (lo := 15) (by omega)
  rw [show ((15 : Nat) : Int) = 15 from rfl] at hsl15
  obtain ⟨x0, hx0⟩ : ∃ x, bs[0]? = some x := ⟨bs[0]'(by omega), List.getElem?_eq_getElem _⟩
  have c0 : v.cell? ⟨bb, off, none⟩ = some (.int .u8 (nm bs 0 1)) := by rw [show nm bs 0 1 = (x0.toNat : Int) from bigN_one (i := 0) hx0]; exact hj 0 x0 hx0
  obtain ⟨p0, q0⟩ := nm_one (bs := bs) (a := 0) (by omega)
  have hi0 : (0 : Int) < (n : Int) := by omega
  obtain ⟨x1, hx1⟩ : ∃ x, bs[1]? = some x := ⟨bs[1]'(by omega), List.getElem?_eq_getElem _⟩
  have c1 : v.cell? ⟨bb, off + 1, none⟩ = some (.int .u8 (nm bs 1 1)) := by rw [show nm bs 1 1 = (x1.toNat : Int) from bigN_one (i := 1) hx1]; exact hj 1 x1 hx1
  obtain ⟨p1, q1⟩ := nm_one (bs := bs) (a := 1) (by omega)
  have hi1 : (1 : Int) < (n : Int) := by omega
  obtain ⟨x2, hx2⟩ : ∃ x, bs[2]? = some x := ⟨bs[2]'(by omega), List.getElem?_eq_getElem _⟩
  have c2 : v.cell? ⟨bb, off + 2, none⟩ = some (.int .u8 (nm bs 2 1)) := by rw [show nm bs 2 1 = (x2.toNat : Int) from bigN_one (i := 2) hx2]; exact hj 2 x2 hx2
  obtain ⟨p2, q2⟩ := nm_one (bs := bs) (a := 2) (by omega)
  have hi2 : (2 : Int) < (n : Int) := by omega
  obtain ⟨x3, hx3⟩ : ∃ x, bs[3]? = some x := ⟨bs[3]'(by omega), List.getElem?_eq_getElem _⟩
  have c3 : v.cell? ⟨bb, off + 3, none⟩ = some (.int .u8 (nm bs 3 1)) := by rw [show nm bs 3 1 = (x3.toNat : Int) from bigN_one (i := 3) hx3]; exact hj 3 x3 hx3
  obtain ⟨p3, q3⟩ := nm_one (bs := bs) (a := 3) (by omega)
  have hi3 : (3 : Int) < (n : Int) := by omega
  obtain ⟨x4, hx4⟩ : ∃ x, bs[4]? = some x := ⟨bs[4]'(by omega), List.getElem?_eq_getElem _⟩
  have c4 : v.cell? ⟨bb, off + 4, none⟩ = some (.int .u8 (nm bs 4 1)) := by rw [show nm bs 4 1 = (x4.toNat : Int) from bigN_one (i := 4) hx4]; exact hj 4 x4 hx4
  obtain ⟨p4, q4⟩ := nm_one (bs := bs) (a := 4) (by omega)
  have hi4 : (4 : Int) < (n : Int) := by omega
  obtain ⟨x5, hx5⟩ : ∃ x, bs[5]? = some x := ⟨bs[5]'(by omega), List.getElem?_eq_getElem _⟩
  have c5 : v.cell? ⟨bb, off + 5, none⟩ = some (.int .u8 (nm bs 5 1)) := by rw [show nm bs 5 1 = (x5.toNat : Int) from bigN_one (i := 5) hx5]; exact hj 5 x5 hx5
  obtain ⟨p5, q5⟩ := nm_one (bs := bs) (a := 5) (by omega)
  have hi5 : (5 : Int) < (n : Int) := by omega
  obtain ⟨x6, hx6⟩ : ∃ x, bs[6]? = some x := ⟨bs[6]'(by omega), List.getElem?_eq_getElem _⟩
  have c6 : v.cell? ⟨bb, off + 6, none⟩ = some (.int .u8 (nm bs 6 1)) := by rw [show nm bs 6 1 = (x6.toNat : Int) from bigN_one (i := 6) hx6]; exact hj 6 x6 hx6
  obtain ⟨p6, q6⟩ := nm_one (bs := bs) (a := 6) (by omega)
  have hi6 : (6 : Int) < (n : Int) := by omega
  obtain ⟨x23, hx23⟩ : ∃ x, bs[23]? = some x := ⟨bs[23]'(by omega), List.getElem?_eq_getElem _⟩
  have c23 : v.cell? ⟨bb, off + 23, none⟩ = some (.int .u8 (nm bs 23 1)) := by rw [show nm bs 23 1 = (x23.toNat : Int) from bigN_one (i := 23) hx23]; exact hj 23 x23 hx23
  obtain ⟨p23, q23⟩ := nm_one (bs := bs) (a := 23) (by omega)
  have hi23 : (23 : Int) < (n : Int) := by omega
  obtain ⟨x24, hx24⟩ : ∃ x, bs[24]? = some x := ⟨bs[24]'(by omega), List.getElem?_eq_getElem _⟩
  have c24 : v.cell? ⟨bb, off + 24, none⟩ = some (.int .u8 (nm bs 24 1)) := by rw [show nm bs 24 1 = (x24.toNat : Int) from bigN_one (i := 24) hx24]; exact hj 24 x24 hx24
  obtain ⟨p24, q24⟩ := nm_one (bs := bs) (a := 24) (by omega)
  have hi24 : (24 : Int) < (n : Int) := by omega
  have hi6' : (6 : Int) ≤ (n : Int) := by omega
  have e22 := nm_pair (bs := bs) (i := 2) (by omega)
  have e42 := nm_pair (bs := bs) (i := 4) (by omega)
  obtain ⟨p22, q22⟩ := nm_two (bs := bs) (a := 2) (by omega)
  obtain ⟨p42, q42⟩ := nm_two (bs := bs) (a := 4) (by omega)
  subst eA
  have HV := Lib.hid hv
  have HB := Lib.hid hbv
  have HC0 := Lib.hid c0
  have HC1 := Lib.hid c1
  have HC2 := Lib.hid c2
  have HC3 := Lib.hid c3
  have HC4 := Lib.hid c4
  have HC5 := Lib.hid c5
  have HC6 := Lib.hid c6
  have HC23 := Lib.hid c23
  have HC24 := Lib.hid c24
  have H7 := Lib.hid hAT7
  have H15 := Lib.hid hAT15
  have hbbv : bb < v.heap.size := Nat.lt_of_lt_of_le hbb hBv
  clear hv hb hbv hj c0 hx0 c1 hx1 c2 hx2 c3 hx3 c4 hx4 c5 hx5 c6 hx6 c23 hx23 c24 hx24 hAT7 hAT15
  go_enter Try.func37, Try.ntmps37
  go_wp2_with (first
    | ((with_reducible show wpList _ _ _ (Oper.mk (some 2) (Op.alloc _) _ _ _ _ :: _) _ _); refine wpList_alloc_agg rfl 56 rfl #[.int .i64 0, .int .i64 0, .int .i64 0, .int .i64 0, .slice none 0 0, .int .i64 0, .int .i64 0, .int .i64 0, .int .i64 0, .int .i64 0, .bool false] zeroCm ?_; rw [← HV.out]))
  refine Code.wp_mono (Q := Exit.then (fun a' w' => ∃ g4, (∃ y11 y12 y13 y14 y15 y16 y17 y18 y19 y20 y21 y22 y23 y24 y25 y26 y27 y28 y29 y30 y31 y32 y33 y34 y35 y36 y37 y38 y39 y40 y41 y42 y43 : Value, a' = { tmps := #[Value.slice (some ⟨bb, off, none⟩) n c, undef, Value.pointer (some ⟨w.heap.size, 0, none⟩), Value.bool false, Value.pointer (some ⟨g4, 0, none⟩), undef, undef, undef, undef, undef, undef, y11, y12, y13, y14, y15, y16, y17, y18, y19, y20, y21, y22, y23, y24, y25, y26, y27, y28, y29, y30, y31, y32, y33, y34, y35, y36, y37, y38, y39, y40, y41, y42, y43, undef, undef, undef, undef, undef, undef, undef, undef, undef, undef, undef, undef, undef, undef, undef, undef, undef, undef, undef, undef, undef, undef, undef, undef, undef, undef, undef, undef, undef, undef, undef, undef, undef, undef, undef, undef, undef, undef, undef, undef, undef, undef, undef, undef, undef, undef, undef, undef, undef, undef, undef, undef, undef, undef, undef, undef, undef, undef, undef], defers := [] }) ∧ Blk w' g4 56 #[.int .i64 (nm bs 0 1), .int .i64 (nm bs 1 1), .int .i64 (nm bs 2 2), .int .i64 (nm bs 4 2), .slice none 0 0, .int .i64 0, .int .i64 0, .int .i64 0, .int .i64 0, .int .i64 0, .bool false] ∧ v.heap.size ≤ g4 ∧ Below v.heap.size v w') (fun _ _ _ => False)) ?_ ?_
  rotate_left
  · refine (wpIn_wide (n := 4)).1 ?_
    refine wpIn_region_rel free_wide rfl 30 (fun W W' => Below W.heap.size W W') (fun W => Below v.heap.size v W)
      [Det (.slice (some ⟨bb, off, none⟩) n c), Det (.pointer (some ⟨bb, off, none⟩)), Det (.int .u8 (nm bs 0 1)), Det (.int .i64 (nm bs 0 1)), Det (.slice (some ⟨bb, off, none⟩) n c), Det (.pointer (some ⟨bb, off + 1, none⟩)), Det (.int .u8 (nm bs 1 1)), Det (.int .i64 (nm bs 1 1)), Det (.slice (some ⟨bb, off, none⟩) n c), Det (.pointer (some ⟨bb, off + 2, none⟩)), Det (.int .u8 (nm bs 2 1)), Det (.int .i64 (nm bs 2 1)), Det (.int .i64 (nm bs 2 1 * 256)), Det (.slice (some ⟨bb, off, none⟩) n c), Det (.pointer (some ⟨bb, off + 3, none⟩)), Det (.int .u8 (nm bs 3 1)), Det (.int .i64 (nm bs 3 1)), Det (.int .i64 (nm bs 2 2)), Det (.slice (some ⟨bb, off, none⟩) n c), Det (.pointer (some ⟨bb, off + 4, none⟩)), Det (.int .u8 (nm bs 4 1)), Det (.int .i64 (nm bs 4 1)), Det (.int .i64 (nm bs 4 1 * 256)), Det (.slice (some ⟨bb, off, none⟩) n c), Det (.pointer (some ⟨bb, off + 5, none⟩)), Det (.int .u8 (nm bs 5 1)), Det (.int .i64 (nm bs 5 1)), Det (.int .i64 (nm bs 4 2)), Det (.agg #[.int .i64 (nm bs 0 1), .int .i64 (nm bs 1 1), .int .i64 (nm bs 2 2), .int .i64 (nm bs 4 2), .slice none 0 0, .int .i64 0, .int .i64 0, .int .i64 0, .int .i64 0, .int .i64 0, .bool false]), RelZ v.heap.size 56 #[.int .i64 0, .int .i64 0, .int .i64 0, .int .i64 0, .slice none 0 0, .int .i64 0, .int .i64 0, .int .i64 0, .int .i64 0, .int .i64 0, .bool false], Any]
      [[], [(0, some 15)], [(1, some 16)], [(2, some 17)], [], [(4, some 19)], [(5, some 20)], [(6, some 21)], [], [(8, some 23)], [(9, some 24)], [(10, some 25)], [(11, some 26)], [], [(13, some 28)], [(14, some 29)], [(15, some 30)], [(12, some 27), (16, some 31)], [], [(18, some 33)], [(19, some 34)], [(20, some 35)], [(21, some 36)], [], [(23, some 38)], [(24, some 39)], [(25, some 40)], [(22, some 37), (26, some 41)], [(3, some 18), (7, some 22), (17, some 32), (27, some 42)], [], [(29, some 4), (28, some 43)]]
      [[], [0], [0, 1], [0, 1, 2], [], [4], [4, 5], [4, 5, 6], [], [8], [8, 9], [8, 9, 10], [8, 9, 10, 11], [], [13], [13, 14], [13, 14, 15], [8, 9, 10, 11, 12, 13, 14, 15, 16], [], [18], [18, 19], [18, 19, 20], [18, 19, 20, 21], [], [23], [23, 24], [23, 24, 25], [18, 19, 20, 21, 22, 23, 24, 25, 26], [0, 1, 2, 3, 4, 5, 6, 7, 8, 9, 10, 11, 12, 13, 14, 15, 16, 17, 18, 19, 20, 21, 22, 23, 24, 25, 26, 27], [], [0, 1, 2, 3, 4, 5, 6, 7, 8, 9, 10, 11, 12, 13, 14, 15, 16, 17, 18, 19, 20, 21, 22, 23, 24, 25, 26, 27, 28, 29]]
      [(0, some 15), (1, some 16), (2, some 17), (3, some 18), (4, some 19), (5, some 20), (6, some 21), (7, some 22), (8, some 23), (9, some 24), (10, some 25), (11, some 26), (12, some 27), (13, some 28), (14, some 29), (15, some 30), (16, some 31), (17, some 32), (18, some 33), (19, some 34), (20, some 35), (21, some 36), (22, some 37), (23, some 38), (24, some 39), (25, some 40), (26, some 41), (27, some 42), (28, some 43), (29, some 4), (30, none)] (by kernel_rfl) (by kernel_rfl) (by kernel_rfl) (fun W W' h1 h2 => h1.trans (h2.mono h1.size)) ((Below.refl _ _).drew) ?_ ?_ ?_
    · exact (AllMono.cons Det.later (AllMono.cons Det.later (AllMono.cons Det.later (AllMono.cons Det.later (AllMono.cons Det.later (AllMono.cons Det.later (AllMono.cons Det.later (AllMono.cons Det.later (AllMono.cons Det.later (AllMono.cons Det.later (AllMono.cons Det.later (AllMono.cons Det.later (AllMono.cons Det.later (AllMono.cons Det.later (AllMono.cons Det.later (AllMono.cons Det.later (AllMono.cons Det.later (AllMono.cons Det.later (AllMono.cons Det.later (AllMono.cons Det.later (AllMono.cons Det.later (AllMono.cons Det.later (AllMono.cons Det.later (AllMono.cons Det.later (AllMono.cons Det.later (AllMono.cons Det.later (AllMono.cons Det.later (AllMono.cons Det.later (AllMono.cons Det.later (AllMono.cons RelZ.later (AllMono.cons Any.later AllMono.nil)))))))))))))))))))))))))))))))
    · refine AllOb.cons ?_ (AllOb.cons ?_ (AllOb.cons ?_ (AllOb.cons ?_ (AllOb.cons ?_ (AllOb.cons ?_ (AllOb.cons ?_ (AllOb.cons ?_ (AllOb.cons ?_ (AllOb.cons ?_ (AllOb.cons ?_ (AllOb.cons ?_ (AllOb.cons ?_ (AllOb.cons ?_ (AllOb.cons ?_ (AllOb.cons ?_ (AllOb.cons ?_ (AllOb.cons ?_ (AllOb.cons ?_ (AllOb.cons ?_ (AllOb.cons ?_ (AllOb.cons ?_ (AllOb.cons ?_ (AllOb.cons ?_ (AllOb.cons ?_ (AllOb.cons ?_ (AllOb.cons ?_ (AllOb.cons ?_ (AllOb.cons ?_ (AllOb.cons ?_ (AllOb.nil))))))))))))))))))))))))))))))
      · intro uF W hC' hU aF hF
        have hC : Below v.heap.size v W := hC'
        clear hC'
        simp only [puts] at hF
        subst hF
        go_wp2_with (fail)
        exact ⟨rfl, rfl, (Below.refl _ _), rfl⟩
      · intro uF W hC' hU aF hF
        have hC : Below v.heap.size v W := hC'
        clear hC'
        have h15 : (Det (.slice (some ⟨bb, off, none⟩) n c)) (uF 0) W := hU.1
        clear hU
        simp only [puts, Act.put, List.setIfInBounds_toArray, List.set_cons_zero, List.set_cons_succ] at hF
        generalize uF 0 = x15 at h15 hF
        obtain rfl : x15 = (.slice (some ⟨bb, off, none⟩) n c) := h15
        subst hF
        go_wp2_with (fail)
        exact ⟨rfl, rfl, (Below.refl _ _), rfl⟩
      · intro uF W hC' hU aF hF
        have hC : Below v.heap.size v W := hC'
        clear hC'
        have h16 : (Det (.pointer (some ⟨bb, off, none⟩))) (uF 1) W := hU.1
        clear hU
        simp only [puts, Act.put, List.setIfInBounds_toArray, List.set_cons_zero, List.set_cons_succ] at hF
        generalize uF 1 = x16 at h16 hF
        obtain rfl : x16 = (.pointer (some ⟨bb, off, none⟩)) := h16
        subst hF
        have k0 := (hC.cell (show (⟨bb, off, none⟩ : Addr).block < v.heap.size from hbbv)).trans HC0.out
        go_wp2_with (fail)
        exact ⟨rfl, rfl, (Below.refl _ _), rfl⟩
      · intro uF W hC' hU aF hF
        have hC : Below v.heap.size v W := hC'
        clear hC'
        have h17 : (Det (.int .u8 (nm bs 0 1))) (uF 2) W := hU.1
        clear hU
        simp only [puts, Act.put, List.setIfInBounds_toArray, List.set_cons_zero, List.set_cons_succ] at hF
        generalize uF 2 = x17 at h17 hF
        obtain rfl : x17 = (.int .u8 (nm bs 0 1)) := h17
        subst hF
        go_wp2_with (fail)
        exact ⟨rfl, rfl, (Below.refl _ _), rfl⟩
      · intro uF W hC' hU aF hF
        have hC : Below v.heap.size v W := hC'
        clear hC'
        simp only [puts] at hF
        subst hF
        go_wp2_with (fail)
        exact ⟨rfl, rfl, (Below.refl _ _), rfl⟩
      · intro uF W hC' hU aF hF
        have hC : Below v.heap.size v W := hC'
        clear hC'
        have h19 : (Det (.slice (some ⟨bb, off, none⟩) n c)) (uF 4) W := hU.1
        clear hU
        simp only [puts, Act.put, List.setIfInBounds_toArray, List.set_cons_zero, List.set_cons_succ] at hF
        generalize uF 4 = x19 at h19 hF
        obtain rfl : x19 = (.slice (some ⟨bb, off, none⟩) n c) := h19
        subst hF
        go_wp2_with (fail)
        exact ⟨rfl, rfl, (Below.refl _ _), rfl⟩
      · intro uF W hC' hU aF hF
        have hC : Below v.heap.size v W := hC'
        clear hC'
        have h20 : (Det (.pointer (some ⟨bb, off + 1, none⟩))) (uF 5) W := hU.1
        clear hU
        simp only [puts, Act.put, List.setIfInBounds_toArray, List.set_cons_zero, List.set_cons_succ] at hF
        generalize uF 5 = x20 at h20 hF
        obtain rfl : x20 = (.pointer (some ⟨bb, off + 1, none⟩)) := h20
        subst hF
        have k0 := (hC.cell (show (⟨bb, off + 1, none⟩ : Addr).block < v.heap.size from hbbv)).trans HC1.out
        go_wp2_with (fail)
        exact ⟨rfl, rfl, (Below.refl _ _), rfl⟩
      · intro uF W hC' hU aF hF
        have hC : Below v.heap.size v W := hC'
        clear hC'
        have h21 : (Det (.int .u8 (nm bs 1 1))) (uF 6) W := hU.1
        clear hU
        simp only [puts, Act.put, List.setIfInBounds_toArray, List.set_cons_zero, List.set_cons_succ] at hF
        generalize uF 6 = x21 at h21 hF
        obtain rfl : x21 = (.int .u8 (nm bs 1 1)) := h21
        subst hF
        go_wp2_with (fail)
        exact ⟨rfl, rfl, (Below.refl _ _), rfl⟩
      · intro uF W hC' hU aF hF
        have hC : Below v.heap.size v W := hC'
        clear hC'
        simp only [puts] at hF
        subst hF
        go_wp2_with (fail)
        exact ⟨rfl, rfl, (Below.refl _ _), rfl⟩
      · intro uF W hC' hU aF hF
        have hC : Below v.heap.size v W := hC'
        clear hC'
        have h23 : (Det (.slice (some ⟨bb, off, none⟩) n c)) (uF 8) W := hU.1
        clear hU
        simp only [puts, Act.put, List.setIfInBounds_toArray, List.set_cons_zero, List.set_cons_succ] at hF
        generalize uF 8 = x23 at h23 hF
        obtain rfl : x23 = (.slice (some ⟨bb, off, none⟩) n c) := h23
        subst hF
        go_wp2_with (fail)
        exact ⟨rfl, rfl, (Below.refl _ _), rfl⟩
      · intro uF W hC' hU aF hF
        have hC : Below v.heap.size v W := hC'
        clear hC'
        have h24 : (Det (.pointer (some ⟨bb, off + 2, none⟩))) (uF 9) W := hU.1
        clear hU
        simp only [puts, Act.put, List.setIfInBounds_toArray, List.set_cons_zero, List.set_cons_succ] at hF
        generalize uF 9 = x24 at h24 hF
        obtain rfl : x24 = (.pointer (some ⟨bb, off + 2, none⟩)) := h24
        subst hF
        have k0 := (hC.cell (show (⟨bb, off + 2, none⟩ : Addr).block < v.heap.size from hbbv)).trans HC2.out
        go_wp2_with (fail)
        exact ⟨rfl, rfl, (Below.refl _ _), rfl⟩
      · intro uF W hC' hU aF hF
        have hC : Below v.heap.size v W := hC'
        clear hC'
        have h25 : (Det (.int .u8 (nm bs 2 1))) (uF 10) W := hU.1
        clear hU
        simp only [puts, Act.put, List.setIfInBounds_toArray, List.set_cons_zero, List.set_cons_succ] at hF
        generalize uF 10 = x25 at h25 hF
        obtain rfl : x25 = (.int .u8 (nm bs 2 1)) := h25
        subst hF
        go_wp2_with (fail)
        exact ⟨rfl, rfl, (Below.refl _ _), rfl⟩
      · intro uF W hC' hU aF hF
        have hC : Below v.heap.size v W := hC'
        clear hC'
        have h26 : (Det (.int .i64 (nm bs 2 1))) (uF 11) W := hU.1
        clear hU
        simp only [puts, Act.put, List.setIfInBounds_toArray, List.set_cons_zero, List.set_cons_succ] at hF
        generalize uF 11 = x26 at h26 hF
        obtain rfl : x26 = (.int .i64 (nm bs 2 1)) := h26
        subst hF
        go_wp2_with (fail)
        exact ⟨rfl, rfl, (Below.refl _ _), rfl⟩
      · intro uF W hC' hU aF hF
        have hC : Below v.heap.size v W := hC'
        clear hC'
        simp only [puts] at hF
        subst hF
        go_wp2_with (fail)
        exact ⟨rfl, rfl, (Below.refl _ _), rfl⟩
      · intro uF W hC' hU aF hF
        have hC : Below v.heap.size v W := hC'
        clear hC'
        have h28 : (Det (.slice (some ⟨bb, off, none⟩) n c)) (uF 13) W := hU.1
        clear hU
        simp only [puts, Act.put, List.setIfInBounds_toArray, List.set_cons_zero, List.set_cons_succ] at hF
        generalize uF 13 = x28 at h28 hF
        obtain rfl : x28 = (.slice (some ⟨bb, off, none⟩) n c) := h28
        subst hF
        go_wp2_with (fail)
        exact ⟨rfl, rfl, (Below.refl _ _), rfl⟩
      · intro uF W hC' hU aF hF
        have hC : Below v.heap.size v W := hC'
        clear hC'
        have h29 : (Det (.pointer (some ⟨bb, off + 3, none⟩))) (uF 14) W := hU.1
        clear hU
        simp only [puts, Act.put, List.setIfInBounds_toArray, List.set_cons_zero, List.set_cons_succ] at hF
        generalize uF 14 = x29 at h29 hF
        obtain rfl : x29 = (.pointer (some ⟨bb, off + 3, none⟩)) := h29
        subst hF
        have k0 := (hC.cell (show (⟨bb, off + 3, none⟩ : Addr).block < v.heap.size from hbbv)).trans HC3.out
        go_wp2_with (fail)
        exact ⟨rfl, rfl, (Below.refl _ _), rfl⟩
      · intro uF W hC' hU aF hF
        have hC : Below v.heap.size v W := hC'
        clear hC'
        have h30 : (Det (.int .u8 (nm bs 3 1))) (uF 15) W := hU.1
        clear hU
        simp only [puts, Act.put, List.setIfInBounds_toArray, List.set_cons_zero, List.set_cons_succ] at hF
        generalize uF 15 = x30 at h30 hF
        obtain rfl : x30 = (.int .u8 (nm bs 3 1)) := h30
        subst hF
        go_wp2_with (fail)
        exact ⟨rfl, rfl, (Below.refl _ _), rfl⟩
      · intro uF W hC' hU aF hF
        have hC : Below v.heap.size v W := hC'
        clear hC'
        have h27 : (Det (.int .i64 (nm bs 2 1 * 256))) (uF 12) W := hU.1
        have h31 : (Det (.int .i64 (nm bs 3 1))) (uF 16) W := hU.2.1
        clear hU
        simp only [puts, Act.put, List.setIfInBounds_toArray, List.set_cons_zero, List.set_cons_succ] at hF
        generalize uF 12 = x27 at h27 hF
        generalize uF 16 = x31 at h31 hF
        obtain rfl : x27 = (.int .i64 (nm bs 2 1 * 256)) := h27
        obtain rfl : x31 = (.int .i64 (nm bs 3 1)) := h31
        subst hF
        go_wp2_with (fail)
        exact ⟨rfl, rfl, (Below.refl _ _), rfl⟩
      · intro uF W hC' hU aF hF
        have hC : Below v.heap.size v W := hC'
        clear hC'
        simp only [puts] at hF
        subst hF
        go_wp2_with (fail)
        exact ⟨rfl, rfl, (Below.refl _ _), rfl⟩
      · intro uF W hC' hU aF hF
        have hC : Below v.heap.size v W := hC'
        clear hC'
        have h33 : (Det (.slice (some ⟨bb, off, none⟩) n c)) (uF 18) W := hU.1
        clear hU
        simp only [puts, Act.put, List.setIfInBounds_toArray, List.set_cons_zero, List.set_cons_succ] at hF
        generalize uF 18 = x33 at h33 hF
        obtain rfl : x33 = (.slice (some ⟨bb, off, none⟩) n c) := h33
        subst hF
        go_wp2_with (fail)
        exact ⟨rfl, rfl, (Below.refl _ _), rfl⟩
      · intro uF W hC' hU aF hF
        have hC : Below v.heap.size v W := hC'
        clear hC'
        have h34 : (Det (.pointer (some ⟨bb, off + 4, none⟩))) (uF 19) W := hU.1
        clear hU
        simp only [puts, Act.put, List.setIfInBounds_toArray, List.set_cons_zero, List.set_cons_succ] at hF
        generalize uF 19 = x34 at h34 hF
        obtain rfl : x34 = (.pointer (some ⟨bb, off + 4, none⟩)) := h34
        subst hF
        have k0 := (hC.cell (show (⟨bb, off + 4, none⟩ : Addr).block < v.heap.size from hbbv)).trans HC4.out
        go_wp2_with (fail)
        exact ⟨rfl, rfl, (Below.refl _ _), rfl⟩
      · intro uF W hC' hU aF hF
        have hC : Below v.heap.size v W := hC'
        clear hC'
        have h35 : (Det (.int .u8 (nm bs 4 1))) (uF 20) W := hU.1
        clear hU
        simp only [puts, Act.put, List.setIfInBounds_toArray, List.set_cons_zero, List.set_cons_succ] at hF
        generalize uF 20 = x35 at h35 hF
        obtain rfl : x35 = (.int .u8 (nm bs 4 1)) := h35
        subst hF
        go_wp2_with (fail)
        exact ⟨rfl, rfl, (Below.refl _ _), rfl⟩
      · intro uF W hC' hU aF hF
        have hC : Below v.heap.size v W := hC'
        clear hC'
        have h36 : (Det (.int .i64 (nm bs 4 1))) (uF 21) W := hU.1
        clear hU
        simp only [puts, Act.put, List.setIfInBounds_toArray, List.set_cons_zero, List.set_cons_succ] at hF
        generalize uF 21 = x36 at h36 hF
        obtain rfl : x36 = (.int .i64 (nm bs 4 1)) := h36
        subst hF
        go_wp2_with (fail)
        exact ⟨rfl, rfl, (Below.refl _ _), rfl⟩
      · intro uF W hC' hU aF hF
        have hC : Below v.heap.size v W := hC'
        clear hC'
        simp only [puts] at hF
        subst hF
        go_wp2_with (fail)
        exact ⟨rfl, rfl, (Below.refl _ _), rfl⟩
      · intro uF W hC' hU aF hF
        have hC : Below v.heap.size v W := hC'
        clear hC'
        have h38 : (Det (.slice (some ⟨bb, off, none⟩) n c)) (uF 23) W := hU.1
        clear hU
        simp only [puts, Act.put, List.setIfInBounds_toArray, List.set_cons_zero, List.set_cons_succ] at hF
        generalize uF 23 = x38 at h38 hF
        obtain rfl : x38 = (.slice (some ⟨bb, off, none⟩) n c) := h38
        subst hF
        go_wp2_with (fail)
        exact ⟨rfl, rfl, (Below.refl _ _), rfl⟩
      · intro uF W hC' hU aF hF
        have hC : Below v.heap.size v W := hC'
        clear hC'
        have h39 : (Det (.pointer (some ⟨bb, off + 5, none⟩))) (uF 24) W := hU.1
        clear hU
        simp only [puts, Act.put, List.setIfInBounds_toArray, List.set_cons_zero, List.set_cons_succ] at hF
        generalize uF 24 = x39 at h39 hF
        obtain rfl : x39 = (.pointer (some ⟨bb, off + 5, none⟩)) := h39
        subst hF
        have k0 := (hC.cell (show (⟨bb, off + 5, none⟩ : Addr).block < v.heap.size from hbbv)).trans HC5.out
        go_wp2_with (fail)
        exact ⟨rfl, rfl, (Below.refl _ _), rfl⟩
      · intro uF W hC' hU aF hF
        have hC : Below v.heap.size v W := hC'
        clear hC'
        have h40 : (Det (.int .u8 (nm bs 5 1))) (uF 25) W := hU.1
        clear hU
        simp only [puts, Act.put, List.setIfInBounds_toArray, List.set_cons_zero, List.set_cons_succ] at hF
        generalize uF 25 = x40 at h40 hF
        obtain rfl : x40 = (.int .u8 (nm bs 5 1)) := h40
        subst hF
        go_wp2_with (fail)
        exact ⟨rfl, rfl, (Below.refl _ _), rfl⟩
      · intro uF W hC' hU aF hF
        have hC : Below v.heap.size v W := hC'
        clear hC'
        have h37 : (Det (.int .i64 (nm bs 4 1 * 256))) (uF 22) W := hU.1
        have h41 : (Det (.int .i64 (nm bs 5 1))) (uF 26) W := hU.2.1
        clear hU
        simp only [puts, Act.put, List.setIfInBounds_toArray, List.set_cons_zero, List.set_cons_succ] at hF
        generalize uF 22 = x37 at h37 hF
        generalize uF 26 = x41 at h41 hF
        obtain rfl : x37 = (.int .i64 (nm bs 4 1 * 256)) := h37
        obtain rfl : x41 = (.int .i64 (nm bs 5 1)) := h41
        subst hF
        go_wp2_with (fail)
        exact ⟨rfl, rfl, (Below.refl _ _), rfl⟩
      · intro uF W hC' hU aF hF
        have hC : Below v.heap.size v W := hC'
        clear hC'
        have h18 : (Det (.int .i64 (nm bs 0 1))) (uF 3) W := hU.1
        have h22 : (Det (.int .i64 (nm bs 1 1))) (uF 7) W := hU.2.1
        have h32 : (Det (.int .i64 (nm bs 2 2))) (uF 17) W := hU.2.2.1
        have h42 : (Det (.int .i64 (nm bs 4 2))) (uF 27) W := hU.2.2.2.1
        clear hU
        simp only [puts, Act.put, List.setIfInBounds_toArray, List.set_cons_zero, List.set_cons_succ] at hF
        generalize uF 3 = x18 at h18 hF
        generalize uF 7 = x22 at h22 hF
        generalize uF 17 = x32 at h32 hF
        generalize uF 27 = x42 at h42 hF
        obtain rfl : x18 = (.int .i64 (nm bs 0 1)) := h18
        obtain rfl : x22 = (.int .i64 (nm bs 1 1)) := h22
        obtain rfl : x32 = (.int .i64 (nm bs 2 2)) := h32
        obtain rfl : x42 = (.int .i64 (nm bs 4 2)) := h42
        subst hF
        go_wp2_with (fail)
        exact ⟨rfl, rfl, (Below.refl _ _), rfl⟩
      · intro uF W hC' hU aF hF
        have hC : Below v.heap.size v W := hC'
        clear hC'
        simp only [puts] at hF
        subst hF
        go_wp2_with (((with_reducible show wpList _ _ _ (Oper.mk (some 4) (Op.alloc _) _ _ _ _ :: _) _ _); refine wpList_alloc_agg (by rfl) 56 rfl #[.int .i64 0, .int .i64 0, .int .i64 0, .int .i64 0, .slice none 0 0, .int .i64 0, .int .i64 0, .int .i64 0, .int .i64 0, .int .i64 0, .bool false] zeroCm ?_))
        exact ⟨rfl, rfl, (below_alloc _ _), ⟨_, rfl, hC.size, Blk.new _ _ _⟩⟩
    intro uF W5 hC' hU aF hF
    have hCW5 : Below v.heap.size v W5 := hC'
    clear hC'
    have h43 : (Det (.agg #[.int .i64 (nm bs 0 1), .int .i64 (nm bs 1 1), .int .i64 (nm bs 2 2), .int .i64 (nm bs 4 2), .slice none 0 0, .int .i64 0, .int .i64 0, .int .i64 0, .int .i64 0, .int .i64 0, .bool false])) (uF 28) W5 := hU.2.2.2.2.2.2.2.2.2.2.2.2.2.2.2.2.2.2.2.2.2.2.2.2.2.2.2.2.1
    have h4 : (RelZ v.heap.size 56 #[.int .i64 0, .int .i64 0, .int .i64 0, .int .i64 0, .slice none 0 0, .int .i64 0, .int .i64 0, .int .i64 0, .int .i64 0, .int .i64 0, .bool false]) (uF 29) W5 := hU.2.2.2.2.2.2.2.2.2.2.2.2.2.2.2.2.2.2.2.2.2.2.2.2.2.2.2.2.2.1
    clear hU
    simp only [List.take_succ_cons, List.take_zero, puts, Act.put, List.setIfInBounds_toArray, List.set_cons_zero, List.set_cons_succ] at hF
    generalize uF 0 = x15 at hF
    generalize uF 1 = x16 at hF
    generalize uF 2 = x17 at hF
    generalize uF 3 = x18 at hF
    generalize uF 4 = x19 at hF
    generalize uF 5 = x20 at hF
    generalize uF 6 = x21 at hF
    generalize uF 7 = x22 at hF
    generalize uF 8 = x23 at hF
    generalize uF 9 = x24 at hF
    generalize uF 10 = x25 at hF
    generalize uF 11 = x26 at hF
    generalize uF 12 = x27 at hF
    generalize uF 13 = x28 at hF
    generalize uF 14 = x29 at hF
    generalize uF 15 = x30 at hF
    generalize uF 16 = x31 at hF
    generalize uF 17 = x32 at hF
    generalize uF 18 = x33 at hF
    generalize uF 19 = x34 at hF
    generalize uF 20 = x35 at hF
    generalize uF 21 = x36 at hF
    generalize uF 22 = x37 at hF
    generalize uF 23 = x38 at hF
    generalize uF 24 = x39 at hF
    generalize uF 25 = x40 at hF
    generalize uF 26 = x41 at hF
    generalize uF 27 = x42 at hF
    generalize uF 28 = x43 at h43 hF
    generalize uF 29 = x4 at h4 hF
    obtain rfl : x43 = (.agg #[.int .i64 (nm bs 0 1), .int .i64 (nm bs 1 1), .int .i64 (nm bs 2 2), .int .i64 (nm bs 4 2), .slice none 0 0, .int .i64 0, .int .i64 0, .int .i64 0, .int .i64 0, .int .i64 0, .bool false]) := h43
    obtain ⟨g4, rfl, z4, b4⟩ := h4
    subst hF
    simp only [List.drop_succ_cons, List.drop_zero]
    refine wpListIn_of free_wide (fun ⟨_, _, h⟩ => h) rfl ?_
    refine wpList_store_whole rfl 56 (.tmp 4) (.tmp 43) rfl g4 rfl [.int .i64 (nm bs 0 1), .int .i64 (nm bs 1 1), .int .i64 (nm bs 2 2), .int .i64 (nm bs 4 2), .slice none 0 0, .int .i64 0, .int .i64 0, .int .i64 0, .int .i64 0, .int .i64 0, .bool false] rfl aggCm rfl _ _ b4 rfl (by simp [Value.oneCell']) ?_
    intro w4 hb4 hg4 hs4
    exact wpList_nil ⟨g4, ⟨_, _, _, _, _, _, _, _, _, _, _, _, _, _, _, _, _, _, _, _, _, _, _, _, _, _, _, _, _, _, _, _, _, rfl⟩, hb4, z4, hCW5.grown hg4 hCW5.size (fun k hk => by cases hk; exact z4)⟩
  rintro e a' w4 h
  clear e22 e42
  cases e with
  | normal =>
    obtain ⟨g4, ⟨y11, y12, y13, y14, y15, y16, y17, y18, y19, y20, y21, y22, y23, y24, y25, y26, y27, y28, y29, y30, y31, y32, y33, y34, y35, y36, y37, y38, y39, y40, y41, y42, y43, rfl⟩, hb4, hg4, hw4⟩ := h
    have hw4w := hwv.trans (hw4.mono hz)
    have hz4 := hw4.size
    have b24 := b2.below hw4 b2.lt
    have b2lt := b2.lt
    have k0 : w4.cell? ⟨g4, 0, none⟩ = some (.int .i64 (nm bs 0 1)) := by rw [hb4.cell]; rfl
    have k4 : w4.cell? ⟨g4, 4, none⟩ = some (.slice none 0 0) := by rw [hb4.cell]; rfl
    have f4 := hb4.frozen 4
    have hbl := hb4.lt
    rw [h6] at k0 hb4
    have hne : ((n : Int) != 25) = false := by rw [H25.out]; rfl
    have HD6 := Lib.hid ((hw4.cell (show (⟨bb, off + 6, none⟩ : Addr).block < v.heap.size from hbbv)).trans HC6.out)
    have HD23 := Lib.hid ((hw4.cell (show (⟨bb, off + 23, none⟩ : Addr).block < v.heap.size from hbbv)).trans HC23.out)
    have HD24 := Lib.hid ((hw4.cell (show (⟨bb, off + 24, none⟩ : Addr).block < v.heap.size from hbbv)).trans HC24.out)
    have hbb4 : bb < w4.heap.size := Nat.lt_of_lt_of_le hbbv hz4
    go_wp2_with (first
      | (go_at_call 51; (fail_if_success have hx := T2); have hprev := T1; clear hprev; refine (ref_take_ok (H15.out.below (hw4.mono hBv)) (k := 8) (by simp [sz]) (by omega)).mono ?_; rintro e w' ⟨rfl, rfl⟩; rw [show i64v (bigN ((bs.drop 15).take 8)) = nm bs 15 8 from rfl]; have T2 := True.intro)
      | (go_at_call 51; (fail_if_success have hx := T1); refine (ref_take_ok (H7.out.below (hw4.mono hBv)) (k := 8) (by simp [sz]) (by omega)).mono ?_; rintro e w' ⟨rfl, rfl⟩; rw [show i64v (bigN ((bs.drop 7).take 8)) = nm bs 7 8 from rfl]; have T1 := True.intro))
    refine Code.wp_mono (Q := Exit.then (fun a' w' => (∃ y11 y12 y13 y14 y15 y16 y17 y18 y19 y20 y21 y22 y23 y24 y25 y26 y27 y28 y29 y30 y31 y32 y33 y34 y35 y36 y37 y38 y39 y40 y41 y42 y43 y44 y45 y46 y47 y48 y49 y50 y51 y52 y53 y54 y55 y56 y57 y58 y59 y60 y61 y62 y63 y64 y65 y66 y67 y68 y69 y70 y71 y72 y73 y74 y75 y76 y77 y78 y79 y80 y81 y82 y83 y84 y85 y86 : Value, a' = { tmps := #[Value.slice (some ⟨bb, off, none⟩) n c, undef, Value.pointer (some ⟨w.heap.size, 0, none⟩), Value.bool false, Value.pointer (some ⟨g4, 0, none⟩), Value.int .i64 (nm bs 7 8), Value.bool true, Value.int .i64 (nm bs 15 8), Value.bool true, undef, undef, y11, y12, y13, y14, y15, y16, y17, y18, y19, y20, y21, y22, y23, y24, y25, y26, y27, y28, y29, y30, y31, y32, y33, y34, y35, y36, y37, y38, y39, y40, y41, y42, y43, y44, y45, y46, y47, y48, y49, y50, y51, y52, y53, y54, y55, y56, y57, y58, y59, y60, y61, y62, y63, y64, y65, y66, y67, y68, y69, y70, y71, y72, y73, y74, y75, y76, y77, y78, y79, y80, y81, y82, y83, y84, y85, y86, undef, undef, undef, undef, undef, undef, undef, undef, undef, undef, undef, undef, undef, undef, undef, undef], defers := [] }) ∧ Blk w' g4 56 #[.int .i64 6, .int .i64 (nm bs 1 1), .int .i64 (nm bs 2 2), .int .i64 (nm bs 4 2), .slice none 0 0, .int .i64 (nm bs 6 1), .int .i64 0, .int .i64 (nm bs 7 8), .int .i64 (nm bs 15 8), .int .i64 (nm bs 23 1), .bool (nm bs 24 1 == 1)] ∧ Below v.heap.size v w' ∧ Blk w' w.heap.size 56 #[.int .i64 0, .int .i64 0, .int .i64 0, .int .i64 0, .slice none 0 0, .int .i64 0, .int .i64 0, .int .i64 0, .int .i64 0, .int .i64 0, .bool false]) (fun _ _ _ => False)) ?_ ?_
    rotate_left
    · refine (wpIn_wide (n := 4)).1 ?_
      refine wpIn_region_rel free_wide rfl 16 (fun W W' => Below W.heap.size W W') (fun W => Below w4.heap.size w4 W)
        [Det (.slice (some ⟨bb, off, none⟩) n c), Det (.pointer (some ⟨bb, off + 6, none⟩)), Det (.int .u8 (nm bs 6 1)), Det (.int .i64 (nm bs 6 1)), Det (.int .i64 (nm bs 7 8)), Det (.int .i64 (nm bs 15 8)), Det (.slice (some ⟨bb, off, none⟩) n c), Det (.pointer (some ⟨bb, off + 23, none⟩)), Det (.int .u8 (nm bs 23 1)), Det (.int .i64 (nm bs 23 1)), Det (.slice (some ⟨bb, off, none⟩) n c), Det (.pointer (some ⟨bb, off + 24, none⟩)), Det (.int .u8 (nm bs 24 1)), Det (.bool (nm bs 24 1 == 1)), Det (.agg #[.int .i64 (nm bs 6 1), .int .i64 0, .int .i64 (nm bs 7 8), .int .i64 (nm bs 15 8), .int .i64 (nm bs 23 1), .bool (nm bs 24 1 == 1)]), Det (.pointer (some ⟨g4, 5, none⟩)), Any]
        [[], [(0, some 71)], [(1, some 72)], [(2, some 73)], [], [], [], [(6, some 77)], [(7, some 78)], [(8, some 79)], [], [(10, some 81)], [(11, some 82)], [(12, some 83)], [(3, some 74), (4, some 75), (5, some 76), (9, some 80), (13, some 84)], [], [(15, some 86), (14, some 85)]]
        [[], [0], [0, 1], [0, 1, 2], [], [], [], [6], [6, 7], [6, 7, 8], [], [10], [10, 11], [10, 11, 12], [0, 1, 2, 3, 4, 5, 6, 7, 8, 9, 10, 11, 12, 13], [0, 1, 2, 3, 4, 5, 6, 7, 8, 9, 10, 11, 12, 13, 14], [0, 1, 2, 3, 4, 5, 6, 7, 8, 9, 10, 11, 12, 13, 14, 15]]
        [(0, some 71), (1, some 72), (2, some 73), (3, some 74), (4, some 75), (5, some 76), (6, some 77), (7, some 78), (8, some 79), (9, some 80), (10, some 81), (11, some 82), (12, some 83), (13, some 84), (14, some 85), (15, some 86), (16, none)] (by kernel_rfl) (by kernel_rfl) (by kernel_rfl) (fun W W' h1 h2 => h1.trans (h2.mono h1.size)) ((Below.refl _ _).drew) ?_ ?_ ?_
      · exact (AllMono.cons Det.later (AllMono.cons Det.later (AllMono.cons Det.later (AllMono.cons Det.later (AllMono.cons Det.later (AllMono.cons Det.later (AllMono.cons Det.later (AllMono.cons Det.later (AllMono.cons Det.later (AllMono.cons Det.later (AllMono.cons Det.later (AllMono.cons Det.later (AllMono.cons Det.later (AllMono.cons Det.later (AllMono.cons Det.later (AllMono.cons Det.later (AllMono.cons Any.later AllMono.nil)))))))))))))))))
      · refine AllOb.cons ?_ (AllOb.cons ?_ (AllOb.cons ?_ (AllOb.cons ?_ (AllOb.cons ?_ (AllOb.cons ?_ (AllOb.cons ?_ (AllOb.cons ?_ (AllOb.cons ?_ (AllOb.cons ?_ (AllOb.cons ?_ (AllOb.cons ?_ (AllOb.cons ?_ (AllOb.cons ?_ (AllOb.cons ?_ (AllOb.cons ?_ (AllOb.nil))))))))))))))))
        · intro uF W hC' hU aF hF
          have hC : Below w4.heap.size w4 W := hC'
          clear hC'
          simp only [puts] at hF
          subst hF
          go_wp2_with (fail)
          exact ⟨rfl, rfl, (Below.refl _ _), rfl⟩
        · intro uF W hC' hU aF hF
          have hC : Below w4.heap.size w4 W := hC'
          clear hC'
          have h71 : (Det (.slice (some ⟨bb, off, none⟩) n c)) (uF 0) W := hU.1
          clear hU
          simp only [puts, Act.put, List.setIfInBounds_toArray, List.set_cons_zero, List.set_cons_succ] at hF
          generalize uF 0 = x71 at h71 hF
          obtain rfl : x71 = (.slice (some ⟨bb, off, none⟩) n c) := h71
          subst hF
          go_wp2_with (fail)
          exact ⟨rfl, rfl, (Below.refl _ _), rfl⟩
        · intro uF W hC' hU aF hF
          have hC : Below w4.heap.size w4 W := hC'
          clear hC'
          have h72 : (Det (.pointer (some ⟨bb, off + 6, none⟩))) (uF 1) W := hU.1
          clear hU
          simp only [puts, Act.put, List.setIfInBounds_toArray, List.set_cons_zero, List.set_cons_succ] at hF
          generalize uF 1 = x72 at h72 hF
          obtain rfl : x72 = (.pointer (some ⟨bb, off + 6, none⟩)) := h72
          subst hF
          have k0 := (hC.cell (show (⟨bb, off + 6, none⟩ : Addr).block < w4.heap.size from hbb4)).trans HD6.out
          go_wp2_with (fail)
          exact ⟨rfl, rfl, (Below.refl _ _), rfl⟩
        · intro uF W hC' hU aF hF
          have hC : Below w4.heap.size w4 W := hC'
          clear hC'
          have h73 : (Det (.int .u8 (nm bs 6 1))) (uF 2) W := hU.1
          clear hU
          simp only [puts, Act.put, List.setIfInBounds_toArray, List.set_cons_zero, List.set_cons_succ] at hF
          generalize uF 2 = x73 at h73 hF
          obtain rfl : x73 = (.int .u8 (nm bs 6 1)) := h73
          subst hF
          go_wp2_with (fail)
          exact ⟨rfl, rfl, (Below.refl _ _), rfl⟩
        · intro uF W hC' hU aF hF
          have hC : Below w4.heap.size w4 W := hC'
          clear hC'
          simp only [puts] at hF
          subst hF
          go_wp2_with (fail)
          exact ⟨rfl, rfl, (Below.refl _ _), rfl⟩
        · intro uF W hC' hU aF hF
          have hC : Below w4.heap.size w4 W := hC'
          clear hC'
          simp only [puts] at hF
          subst hF
          go_wp2_with (fail)
          exact ⟨rfl, rfl, (Below.refl _ _), rfl⟩
        · intro uF W hC' hU aF hF
          have hC : Below w4.heap.size w4 W := hC'
          clear hC'
          simp only [puts] at hF
          subst hF
          go_wp2_with (fail)
          exact ⟨rfl, rfl, (Below.refl _ _), rfl⟩
        · intro uF W hC' hU aF hF
          have hC : Below w4.heap.size w4 W := hC'
          clear hC'
          have h77 : (Det (.slice (some ⟨bb, off, none⟩) n c)) (uF 6) W := hU.1
          clear hU
          simp only [puts, Act.put, List.setIfInBounds_toArray, List.set_cons_zero, List.set_cons_succ] at hF
          generalize uF 6 = x77 at h77 hF
          obtain rfl : x77 = (.slice (some ⟨bb, off, none⟩) n c) := h77
          subst hF
          go_wp2_with (fail)
          exact ⟨rfl, rfl, (Below.refl _ _), rfl⟩
        · intro uF W hC' hU aF hF
          have hC : Below w4.heap.size w4 W := hC'
          clear hC'
          have h78 : (Det (.pointer (some ⟨bb, off + 23, none⟩))) (uF 7) W := hU.1
          clear hU
          simp only [puts, Act.put, List.setIfInBounds_toArray, List.set_cons_zero, List.set_cons_succ] at hF
          generalize uF 7 = x78 at h78 hF
          obtain rfl : x78 = (.pointer (some ⟨bb, off + 23, none⟩)) := h78
          subst hF
          have k0 := (hC.cell (show (⟨bb, off + 23, none⟩ : Addr).block < w4.heap.size from hbb4)).trans HD23.out
          go_wp2_with (fail)
          exact ⟨rfl, rfl, (Below.refl _ _), rfl⟩
        · intro uF W hC' hU aF hF
          have hC : Below w4.heap.size w4 W := hC'
          clear hC'
          have h79 : (Det (.int .u8 (nm bs 23 1))) (uF 8) W := hU.1
          clear hU
          simp only [puts, Act.put, List.setIfInBounds_toArray, List.set_cons_zero, List.set_cons_succ] at hF
          generalize uF 8 = x79 at h79 hF
          obtain rfl : x79 = (.int .u8 (nm bs 23 1)) := h79
          subst hF
          go_wp2_with (fail)
          exact ⟨rfl, rfl, (Below.refl _ _), rfl⟩
        · intro uF W hC' hU aF hF
          have hC : Below w4.heap.size w4 W := hC'
          clear hC'
          simp only [puts] at hF
          subst hF
          go_wp2_with (fail)
          exact ⟨rfl, rfl, (Below.refl _ _), rfl⟩
        · intro uF W hC' hU aF hF
          have hC : Below w4.heap.size w4 W := hC'
          clear hC'
          have h81 : (Det (.slice (some ⟨bb, off, none⟩) n c)) (uF 10) W := hU.1
          clear hU
          simp only [puts, Act.put, List.setIfInBounds_toArray, List.set_cons_zero, List.set_cons_succ] at hF
          generalize uF 10 = x81 at h81 hF
          obtain rfl : x81 = (.slice (some ⟨bb, off, none⟩) n c) := h81
          subst hF
          go_wp2_with (fail)
          exact ⟨rfl, rfl, (Below.refl _ _), rfl⟩
        · intro uF W hC' hU aF hF
          have hC : Below w4.heap.size w4 W := hC'
          clear hC'
          have h82 : (Det (.pointer (some ⟨bb, off + 24, none⟩))) (uF 11) W := hU.1
          clear hU
          simp only [puts, Act.put, List.setIfInBounds_toArray, List.set_cons_zero, List.set_cons_succ] at hF
          generalize uF 11 = x82 at h82 hF
          obtain rfl : x82 = (.pointer (some ⟨bb, off + 24, none⟩)) := h82
          subst hF
          have k0 := (hC.cell (show (⟨bb, off + 24, none⟩ : Addr).block < w4.heap.size from hbb4)).trans HD24.out
          go_wp2_with (fail)
          exact ⟨rfl, rfl, (Below.refl _ _), rfl⟩
        · intro uF W hC' hU aF hF
          have hC : Below w4.heap.size w4 W := hC'
          clear hC'
          have h83 : (Det (.int .u8 (nm bs 24 1))) (uF 12) W := hU.1
          clear hU
          simp only [puts, Act.put, List.setIfInBounds_toArray, List.set_cons_zero, List.set_cons_succ] at hF
          generalize uF 12 = x83 at h83 hF
          obtain rfl : x83 = (.int .u8 (nm bs 24 1)) := h83
          subst hF
          go_wp2_with (fail)
          exact ⟨rfl, rfl, (Below.refl _ _), rfl⟩
        · intro uF W hC' hU aF hF
          have hC : Below w4.heap.size w4 W := hC'
          clear hC'
          have h74 : (Det (.int .i64 (nm bs 6 1))) (uF 3) W := hU.1
          have h75 : (Det (.int .i64 (nm bs 7 8))) (uF 4) W := hU.2.1
          have h76 : (Det (.int .i64 (nm bs 15 8))) (uF 5) W := hU.2.2.1
          have h80 : (Det (.int .i64 (nm bs 23 1))) (uF 9) W := hU.2.2.2.1
          have h84 : (Det (.bool (nm bs 24 1 == 1))) (uF 13) W := hU.2.2.2.2.1
          clear hU
          simp only [puts, Act.put, List.setIfInBounds_toArray, List.set_cons_zero, List.set_cons_succ] at hF
          generalize uF 3 = x74 at h74 hF
          generalize uF 4 = x75 at h75 hF
          generalize uF 5 = x76 at h76 hF
          generalize uF 9 = x80 at h80 hF
          generalize uF 13 = x84 at h84 hF
          obtain rfl : x74 = (.int .i64 (nm bs 6 1)) := h74
          obtain rfl : x75 = (.int .i64 (nm bs 7 8)) := h75
          obtain rfl : x76 = (.int .i64 (nm bs 15 8)) := h76
          obtain rfl : x80 = (.int .i64 (nm bs 23 1)) := h80
          obtain rfl : x84 = (.bool (nm bs 24 1 == 1)) := h84
          subst hF
          go_wp2_with (fail)
          exact ⟨rfl, rfl, (Below.refl _ _), rfl⟩
        · intro uF W hC' hU aF hF
          have hC : Below w4.heap.size w4 W := hC'
          clear hC'
          simp only [puts] at hF
          subst hF
          go_wp2_with (fail)
          exact ⟨rfl, rfl, (Below.refl _ _), rfl⟩
      intro uF W6 hC' hU aF hF
      have hCW6 : Below w4.heap.size w4 W6 := hC'
      clear hC'
      have h85 : (Det (.agg #[.int .i64 (nm bs 6 1), .int .i64 0, .int .i64 (nm bs 7 8), .int .i64 (nm bs 15 8), .int .i64 (nm bs 23 1), .bool (nm bs 24 1 == 1)])) (uF 14) W6 := hU.2.2.2.2.2.2.2.2.2.2.2.2.2.2.1
      have h86 : (Det (.pointer (some ⟨g4, 5, none⟩))) (uF 15) W6 := hU.2.2.2.2.2.2.2.2.2.2.2.2.2.2.2.1
      clear hU
      simp only [List.take_succ_cons, List.take_zero, puts, Act.put, List.setIfInBounds_toArray, List.set_cons_zero, List.set_cons_succ] at hF
      generalize uF 0 = x71 at hF
      generalize uF 1 = x72 at hF
      generalize uF 2 = x73 at hF
      generalize uF 3 = x74 at hF
      generalize uF 4 = x75 at hF
      generalize uF 5 = x76 at hF
      generalize uF 6 = x77 at hF
      generalize uF 7 = x78 at hF
      generalize uF 8 = x79 at hF
      generalize uF 9 = x80 at hF
      generalize uF 10 = x81 at hF
      generalize uF 11 = x82 at hF
      generalize uF 12 = x83 at hF
      generalize uF 13 = x84 at hF
      generalize uF 14 = x85 at h85 hF
      generalize uF 15 = x86 at h86 hF
      obtain rfl : x85 = (.agg #[.int .i64 (nm bs 6 1), .int .i64 0, .int .i64 (nm bs 7 8), .int .i64 (nm bs 15 8), .int .i64 (nm bs 23 1), .bool (nm bs 24 1 == 1)]) := h85
      obtain rfl : x86 = (.pointer (some ⟨g4, 5, none⟩)) := h86
      subst hF
      simp only [List.drop_succ_cons, List.drop_zero]
      refine wpListIn_of free_wide (fun ⟨_, _, h⟩ => h) rfl ?_
      have b46 := hb4.below hCW6 hb4.lt
      have b26 := b24.below hCW6 b24.lt
      refine wpList_store_agg rfl 54 (.tmp 86) (.tmp 85) rfl g4 5 rfl [.int .i64 (nm bs 6 1), .int .i64 0, .int .i64 (nm bs 7 8), .int .i64 (nm bs 15 8), .int .i64 (nm bs 23 1), .bool (nm bs 24 1 == 1)] rfl aggRv rfl _ _ b46 (by simp) (by simp [Value.oneCell']) ?_
      intro vA bA0 gA sA
      have bA : Blk vA g4 56 #[.int .i64 6, .int .i64 (nm bs 1 1), .int .i64 (nm bs 2 2), .int .i64 (nm bs 4 2), .slice none 0 0, .int .i64 (nm bs 6 1), .int .i64 0, .int .i64 (nm bs 7 8), .int .i64 (nm bs 15 8), .int .i64 (nm bs 23 1), .bool (nm bs 24 1 == 1)] := bA0
      have hvA := (hw4.trans (hCW6.mono hz4)).grown gA (hw4.trans (hCW6.mono hz4)).size (fun k hk => by cases hk; exact hg4)
      have b2A := b26.grown gA (by simp; omega)
      exact wpList_nil ⟨⟨_, _, _, _, _, _, _, _, _, _, _, _, _, _, _, _, _, _, _, _, _, _, _, _, _, _, _, _, _, _, _, _, _, _, _, _, _, _, _, _, _, _, _, _, _, _, _, _, _, _, _, _, _, _, _, _, _, _, _, _, _, _, _, _, _, _, _, _, _, _, _, _, _, _, _, _, rfl⟩, bA, hvA, b2A⟩
    rintro e a' V6 h
    cases e with
    | normal =>
      obtain ⟨⟨y11, y12, y13, y14, y15, y16, y17, y18, y19, y20, y21, y22, y23, y24, y25, y26, y27, y28, y29, y30, y31, y32, y33, y34, y35, y36, y37, y38, y39, y40, y41, y42, y43, y44, y45, y46, y47, y48, y49, y50, y51, y52, y53, y54, y55, y56, y57, y58, y59, y60, y61, y62, y63, y64, y65, y66, y67, y68, y69, y70, y71, y72, y73, y74, y75, y76, y77, y78, y79, y80, y81, y82, y83, y84, y85, y86, rfl⟩, b6, hv6v, b26⟩ := h
      have hv6 := hwv.trans (hv6v.mono hz)
      have hz6 := hv6.size
      have o6 : OwB V6 V6.heap.size none 0 0 [] := OwB.nil _ _ _
      obtain ⟨fb, hfb⟩ : ∃ fb, fb = cmB 6 (nm bs 1 1) (nm bs 2 2) (nm bs 4 2) (nm bs 6 1) (nm bs 7 8) (nm bs 15 8) (nm bs 23 1) (nm bs 24 1 == 1) [] := ⟨_, rfl⟩
      have hne : (fb == bs) = false := by rw [hfb]; exact heq
      have HFB := Lib.hid hfb
      clear hfb
      go_wp2_with (first
        | ((with_reducible show wpList _ _ _ (Oper.mk (some 88) (Op.load 56 _) _ _ _ _ :: _) _ _); refine wpList_load_whole (by rfl) 56 (.tmp 4) rfl g4 rfl #[.int .i64 6, .int .i64 (nm bs 1 1), .int .i64 (nm bs 2 2), .int .i64 (nm bs 4 2), .slice none 0 0, .int .i64 (nm bs 6 1), .int .i64 0, .int .i64 (nm bs 7 8), .int .i64 (nm bs 15 8), .int .i64 (nm bs 23 1), .bool (nm bs 24 1 == 1)] aggCm rfl _ b6 ?_)
        | (go_at_call 30; refine (crefenc_yes 6 (nm bs 1 1) (nm bs 2 2) (nm bs 4 2) (nm bs 6 1) 0 (nm bs 7 8) (nm bs 15 8) (nm bs 23 1) (nm bs 24 1 == 1) (OwB.sl o6) (Nat.le_refl _) (by omega) ⟨by decide, nm_wf _ _ _, nm_wf _ _ _, nm_wf _ _ _⟩ ⟨nm_wf _ _ _, nm_wf _ _ _, nm_wf _ _ _, nm_wf _ _ _⟩ hgood).mono ?_; rintro e w7 ⟨A7, N7, c7, rfl, o7, hb7⟩; have hw7 := hv6.trans (hb7.mono hz6); have hz7 := hw7.size; have b27 := b26.below hb7 b26.lt; have b67 := b6.below hb7 b6.lt; have o67 := OwB.below o6 hb7; have e7 := o7.sl.str; have e8 := SlB.str ((HB.out.below (hv6v.mono hBv)).below (hb7.mono (Nat.le_trans hBv hv6v.size))); rw [← HFB.out] at e7)
        | ((with_reducible show wpList _ _ _ (Oper.mk none (Op.store 56 (.tmp 2) (.tmp 101)) _ _ _ _ :: _) _ _); refine wpList_store_whole rfl 56 (.tmp 2) (.tmp 101) rfl w.heap.size rfl [.int .i64 0, .int .i64 0, .int .i64 0, .int .i64 0, .slice none 0 0, .int .i64 0, .int .i64 0, .int .i64 0, .int .i64 0, .int .i64 0, .bool false] rfl aggCm rfl _ _ b27 rfl (by simp [Value.oneCell']) ?_; intro wf bf gf sf))
      refine bodyPost_ret (results_cell_tmp rfl _ w.heap.size _ #[.int .i64 0, .int .i64 0, .int .i64 0, .int .i64 0, .slice none 0 0, .int .i64 0, .int .i64 0, .int .i64 0, .int .i64 0, .int .i64 0, .bool false] aggCm rfl rfl bf) rfl ⟨rfl, ?_⟩
      exact hw7.grown gf hz7 (fun k hk => by cases hk; exact Nat.le_refl _)
    | _ => exact h.elim
  | _ => exact h.elim

set_option maxHeartbeats 4000000 in
theorem crefdec_six_bad {w : World} {B : Nat} {A : Option Addr} {n c : Nat} {bs : List UInt8} (hb : SlB w B A n c bs) (hB : B ≤ w.heap.size) (hn : n ≤ 1048576) (h6 : nm bs 0 1 = 6) (h25 : n = 25) (hgood : ¬ goodC 6 (nm bs 1 1) (nm bs 2 2) (nm bs 4 2) 0 (nm bs 6 1) 0 (nm bs 7 8) (nm bs 15 8) (nm bs 23 1) (nm bs 24 1 == 1)) :
    Calls Try.prog 37 #[.slice A n c] w fun e w' => e = .returned (.tuple #[.agg #[.int .i64 0, .int .i64 0, .int .i64 0, .int .i64 0, .slice none 0 0, .int .i64 0, .int .i64 0, .int .i64 0, .int .i64 0, .int .i64 0, .bool false], .bool false]) ∧ Below w.heap.size w w' := by
  have h25' : 25 ≤ n := by omega
  have H25 := Lib.hid h25
  clear h25
  have hlen := hb.len
  have hcap := hb.le
  have hcm : c ≤ 9223372036854775807 := hb.cap
  obtain ⟨v, hv⟩ : ∃ v, v = w.alloc (.cells #[.int .i64 0, .int .i64 0, .int .i64 0, .int .i64 0, .slice none 0 0, .int .i64 0, .int .i64 0, .int .i64 0, .int .i64 0, .int .i64 0, .bool false] 56) := ⟨_, rfl⟩
  have b2 : Blk v w.heap.size 56 #[.int .i64 0, .int .i64 0, .int .i64 0, .int .i64 0, .slice none 0 0, .int .i64 0, .int .i64 0, .int .i64 0, .int .i64 0, .int .i64 0, .bool false] := by rw [hv]; exact Blk.new _ _ _
  have hwv : Below w.heap.size w v := by rw [hv]; exact below_alloc _ _
  have hz := hwv.size
  have hbv := hb.below (hwv.mono hB)
  have hBv := Nat.le_trans hB hz
  obtain ⟨bb, off, eA, hbb, hj⟩ := hbv.at_ (by omega)
  obtain ⟨AT7, hAT7, hsl7⟩ := hbv.tailRun (lo := 7) (by omega)
  rw [show ((7 : Nat) : Int) = 7 from rfl] at hsl7
  obtain ⟨AT15, hAT15, hsl15⟩ := hbv.tailRun (lo := 15) (by omega)
  rw [show ((15 : Nat) : Int) = 15 from rfl] at hsl15
  obtain ⟨x0, hx0⟩ : ∃ x, bs[0]? = some x := ⟨bs[0]'(by omega), List.getElem?_eq_getElem _⟩
  have c0 : v.cell? ⟨bb, off, none⟩ = some (.int .u8 (nm bs 0 1)) := by rw [show nm bs 0 1 = (x0.toNat : Int) from bigN_one (i := 0) hx0]; exact hj 0 x0 hx0
  obtain ⟨p0, q0⟩ := nm_one (bs := bs) (a := 0) (by omega)
  have hi0 : (0 : Int) < (n : Int) := by omega
  obtain ⟨x1, hx1⟩ : ∃ x, bs[1]? = some x := ⟨bs[1]'(by omega), List.getElem?_eq_getElem _⟩
  have c1 : v.cell? ⟨bb, off + 1, none⟩ = some (.int .u8 (nm bs 1 1)) := by rw [show nm bs 1 1 = (x1.toNat : Int) from bigN_one (i := 1) hx1]; exact hj 1 x1 hx1
  obtain ⟨p1, q1⟩ := nm_one (bs := bs) (a := 1) (by omega)
  have hi1 : (1 : Int) < (n : Int) := by omega
  obtain ⟨x2, hx2⟩ : ∃ x, bs[2]? = some x := ⟨bs[2]'(by omega), List.getElem?_eq_getElem _⟩
  have c2 : v.cell? ⟨bb, off + 2, none⟩ = some (.int .u8 (nm bs 2 1)) := by rw [show nm bs 2 1 = (x2.toNat : Int) from bigN_one (i := 2) hx2]; exact hj 2 x2 hx2
  obtain ⟨p2, q2⟩ := nm_one (bs := bs) (a := 2) (by omega)
  have hi2 : (2 : Int) < (n : Int) := by omega
  obtain ⟨x3, hx3⟩ : ∃ x, bs[3]? = some x := ⟨bs[3]'(by omega), List.getElem?_eq_getElem _⟩
  have c3 : v.cell? ⟨bb, off + 3, none⟩ = some (.int .u8 (nm bs 3 1)) := by rw [show nm bs 3 1 = (x3.toNat : Int) from bigN_one (i := 3) hx3]; exact hj 3 x3 hx3
  obtain ⟨p3, q3⟩ := nm_one (bs := bs) (a := 3) (by omega)
  have hi3 : (3 : Int) < (n : Int) := by omega
  obtain ⟨x4, hx4⟩ : ∃ x, bs[4]? = some x := ⟨bs[4]'(by omega), List.getElem?_eq_getElem _⟩
  have c4 : v.cell? ⟨bb, off + 4, none⟩ = some (.int .u8 (nm bs 4 1)) := by rw [show nm bs 4 1 = (x4.toNat : Int) from bigN_one (i := 4) hx4]; exact hj 4 x4 hx4
  obtain ⟨p4, q4⟩ := nm_one (bs := bs) (a := 4) (by omega)
  have hi4 : (4 : Int) < (n : Int) := by omega
  obtain ⟨x5, hx5⟩ : ∃ x, bs[5]? = some x := ⟨bs[5]'(by omega), List.getElem?_eq_getElem _⟩
  have c5 : v.cell? ⟨bb, off + 5, none⟩ = some (.int .u8 (nm bs 5 1)) := by rw [show nm bs 5 1 = (x5.toNat : Int) from bigN_one (i := 5) hx5]; exact hj 5 x5 hx5
  obtain ⟨p5, q5⟩ := nm_one (bs := bs) (a := 5) (by omega)
  have hi5 : (5 : Int) < (n : Int) := by omega
  obtain ⟨x6, hx6⟩ : ∃ x, bs[6]? = some x := ⟨bs[6]'(by omega), List.getElem?_eq_getElem _⟩
  have c6 : v.cell? ⟨bb, off + 6, none⟩ = some (.int .u8 (nm bs 6 1)) := by rw [show nm bs 6 1 = (x6.toNat : Int) from bigN_one (i := 6) hx6]; exact hj 6 x6 hx6
  obtain ⟨p6, q6⟩ := nm_one (bs := bs) (a := 6) (by omega)
  have hi6 : (6 : Int) < (n : Int) := by omega
  obtain ⟨x23, hx23⟩ : ∃ x, bs[23]? = some x := ⟨bs[23]'(by omega), List.getElem?_eq_getElem _⟩
  have c23 : v.cell? ⟨bb, off + 23, none⟩ = some (.int .u8 (nm bs 23 1)) := by rw [show nm bs 23 1 = (x23.toNat : Int) from bigN_one (i := 23) hx23]; exact hj 23 x23 hx23
  obtain ⟨p23, q23⟩ := nm_one (bs := bs) (a := 23) (by omega)
  have hi23 : (23 : Int) < (n : Int) := by omega
  obtain ⟨x24, hx24⟩ : ∃ x, bs[24]? = some x := ⟨bs[24]'(by omega), List.getElem?_eq_getElem _⟩
  have c24 : v.cell? ⟨bb, off + 24, none⟩ = some (.int .u8 (nm bs 24 1)) := by rw [show nm bs 24 1 = (x24.toNat : Int) from bigN_one (i := 24) hx24]; exact hj 24 x24 hx24
  obtain ⟨p24, q24⟩ := nm_one (bs := bs) (a := 24) (by omega)
  have hi24 : (24 : Int) < (n : Int) := by omega
  have hi6' : (6 : Int) ≤ (n : Int) := by omega
  have e22 := nm_pair (bs := bs) (i := 2) (by omega)
  have e42 := nm_pair (bs := bs) (i := 4) (by omega)
  obtain ⟨p22, q22⟩ := nm_two (bs := bs) (a := 2) (by omega)
  obtain ⟨p42, q42⟩ := nm_two (bs := bs) (a := 4) (by omega)
  subst eA
  have HV := Lib.hid hv
  have HB := Lib.hid hbv
  have HC0 := Lib.hid c0
  have HC1 := Lib.hid c1
  have HC2 := Lib.hid c2
  have HC3 := Lib.hid c3
  have HC4 := Lib.hid c4
  have HC5 := Lib.hid c5
  have HC6 := Lib.hid c6
  have HC23 := Lib.hid c23
  have HC24 := Lib.hid c24
  have H7 := Lib.hid hAT7
  have H15 := Lib.hid hAT15
  have hbbv : bb < v.heap.size := Nat.lt_of_lt_of_le hbb hBv
  clear hv hb hbv hj c0 hx0 c1 hx1 c2 hx2 c3 hx3 c4 hx4 c5 hx5 c6 hx6 c23 hx23 c24 hx24 hAT7 hAT15
  go_enter Try.func37, Try.ntmps37
  go_wp2_with (first
    | ((with_reducible show wpList _ _ _ (Oper.mk (some 2) (Op.alloc _) _ _ _ _ :: _) _ _); refine wpList_alloc_agg rfl 56 rfl #[.int .i64 0, .int .i64 0, .int .i64 0, .int .i64 0, .slice none 0 0, .int .i64 0, .int .i64 0, .int .i64 0, .int .i64 0, .int .i64 0, .bool false] zeroCm ?_; rw [← HV.out]))
  refine Code.wp_mono (Q := Exit.then (fun a' w' => ∃ g4, (∃ y11 y12 y13 y14 y15 y16 y17 y18 y19 y20 y21 y22 y23 y24 y25 y26 y27 y28 y29 y30 y31 y32 y33 y34 y35 y36 y37 y38 y39 y40 y41 y42 y43 : Value, a' = { tmps := #[Value.slice (some ⟨bb, off, none⟩) n c, undef, Value.pointer (some ⟨w.heap.size, 0, none⟩), Value.bool false, Value.pointer (some ⟨g4, 0, none⟩), undef, undef, undef, undef, undef, undef, y11, y12, y13, y14, y15, y16, y17, y18, y19, y20, y21, y22, y23, y24, y25, y26, y27, y28, y29, y30, y31, y32, y33, y34, y35, y36, y37, y38, y39, y40, y41, y42, y43, undef, undef, undef, undef, undef, undef, undef, undef, undef, undef, undef, undef, undef, undef, undef, undef, undef, undef, undef, undef, undef, undef, undef, undef, undef, undef, undef, undef, undef, undef, undef, undef, undef, undef, undef, undef, undef, undef, undef, undef, undef, undef, undef, undef, undef, undef, undef, undef, undef, undef, undef, undef, undef, undef, undef, undef, undef, undef, undef], defers := [] }) ∧ Blk w' g4 56 #[.int .i64 (nm bs 0 1), .int .i64 (nm bs 1 1), .int .i64 (nm bs 2 2), .int .i64 (nm bs 4 2), .slice none 0 0, .int .i64 0, .int .i64 0, .int .i64 0, .int .i64 0, .int .i64 0, .bool false] ∧ v.heap.size ≤ g4 ∧ Below v.heap.size v w') (fun _ _ _ => False)) ?_ ?_
  rotate_left
  · refine (wpIn_wide (n := 4)).1 ?_
    refine wpIn_region_rel free_wide rfl 30 (fun W W' => Below W.heap.size W W') (fun W => Below v.heap.size v W)
      [Det (.slice (some ⟨bb, off, none⟩) n c), Det (.pointer (some ⟨bb, off, none⟩)), Det (.int .u8 (nm bs 0 1)), Det (.int .i64 (nm bs 0 1)), Det (.slice (some ⟨bb, off, none⟩) n c), Det (.pointer (some ⟨bb, off + 1, none⟩)), Det (.int .u8 (nm bs 1 1)), Det (.int .i64 (nm bs 1 1)), Det (.slice (some ⟨bb, off, none⟩) n c), Det (.pointer (some ⟨bb, off + 2, none⟩)), Det (.int .u8 (nm bs 2 1)), Det (.int .i64 (nm bs 2 1)), Det (.int .i64 (nm bs 2 1 * 256)), Det (.slice (some ⟨bb, off, none⟩) n c), Det (.pointer (some ⟨bb, off + 3, none⟩)), Det (.int .u8 (nm bs 3 1)), Det (.int .i64 (nm bs 3 1)), Det (.int .i64 (nm bs 2 2)), Det (.slice (some ⟨bb, off, none⟩) n c), Det (.pointer (some ⟨bb, off + 4, none⟩)), Det (.int .u8 (nm bs 4 1)), Det (.int .i64 (nm bs 4 1)), Det (.int .i64 (nm bs 4 1 * 256)), Det (.slice (some ⟨bb, off, none⟩) n c), Det (.pointer (some ⟨bb, off + 5, none⟩)), Det (.int .u8 (nm bs 5 1)), Det (.int .i64 (nm bs 5 1)), Det (.int .i64 (nm bs 4 2)), Det (.agg #[.int .i64 (nm bs 0 1), .int .i64 (nm bs 1 1), .int .i64 (nm bs 2 2), .int .i64 (nm bs 4 2), .slice none 0 0, .int .i64 0, .int .i64 0, .int .i64 0, .int .i64 0, .int .i64 0, .bool false]), RelZ v.heap.size 56 #[.int .i64 0, .int .i64 0, .int .i64 0, .int .i64 0, .slice none 0 0, .int .i64 0, .int .i64 0, .int .i64 0, .int .i64 0, .int .i64 0, .bool false], Any]
      [[], [(0, some 15)], [(1, some 16)], [(2, some 17)], [], [(4, some 19)], [(5, some 20)], [(6, some 21)], [], [(8, some 23)], [(9, some 24)], [(10, some 25)], [(11, some 26)], [], [(13, some 28)], [(14, some 29)], [(15, some 30)], [(12, some 27), (16, some 31)], [], [(18, some 33)], [(19, some 34)], [(20, some 35)], [(21, some 36)], [], [(23, some 38)], [(24, some 39)], [(25, some 40)], [(22, some 37), (26, some 41)], [(3, some 18), (7, some 22), (17, some 32), (27, some 42)], [], [(29, some 4), (28, some 43)]]
      [[], [0], [0, 1], [0, 1, 2], [], [4], [4, 5], [4, 5, 6], [], [8], [8, 9], [8, 9, 10], [8, 9, 10, 11], [], [13], [13, 14], [13, 14, 15], [8, 9, 10, 11, 12, 13, 14, 15, 16], [], [18], [18, 19], [18, 19, 20], [18, 19, 20, 21], [], [23], [23, 24], [23, 24, 25], [18, 19, 20, 21, 22, 23, 24, 25, 26], [0, 1, 2, 3, 4, 5, 6, 7, 8, 9, 10, 11, 12, 13, 14, 15, 16, 17, 18, 19, 20, 21, 22, 23, 24, 25, 26, 27], [], [0, 1, 2, 3, 4, 5, 6, 7, 8, 9, 10, 11, 12, 13, 14, 15, 16, 17, 18, 19, 20, 21, 22, 23, 24, 25, 26, 27, 28, 29]]
      [(0, some 15), (1, some 16), (2, some 17), (3, some 18), (4, some 19), (5, some 20), (6, some 21), (7, some 22), (8, some 23), (9, some 24), (10, some 25), (11, some 26), (12, some 27), (13, some 28), (14, some 29), (15, some 30), (16, some 31), (17, some 32), (18, some 33), (19, some 34), (20, some 35), (21, some 36), (22, some 37), (23, some 38), (24, some 39), (25, some 40), (26, some 41), (27, some 42), (28, some 43), (29, some 4), (30, none)] (by kernel_rfl) (by kernel_rfl) (by kernel_rfl) (fun W W' h1 h2 => h1.trans (h2.mono h1.size)) ((Below.refl _ _).drew) ?_ ?_ ?_
    · exact (AllMono.cons Det.later (AllMono.cons Det.later (AllMono.cons Det.later (AllMono.cons Det.later (AllMono.cons Det.later (AllMono.cons Det.later (AllMono.cons Det.later (AllMono.cons Det.later (AllMono.cons Det.later (AllMono.cons Det.later (AllMono.cons Det.later (AllMono.cons Det.later (AllMono.cons Det.later (AllMono.cons Det.later (AllMono.cons Det.later (AllMono.cons Det.later (AllMono.cons Det.later (AllMono.cons Det.later (AllMono.cons Det.later (AllMono.cons Det.later (AllMono.cons Det.later (AllMono.cons Det.later (AllMono.cons Det.later (AllMono.cons Det.later (AllMono.cons Det.later (AllMono.cons Det.later (AllMono.cons Det.later (AllMono.cons Det.later (AllMono.cons Det.later (AllMono.cons RelZ.later (AllMono.cons Any.later AllMono.nil)))))))))))))))))))))))))))))))
    · refine AllOb.cons ?_ (AllOb.cons ?_ (AllOb.cons ?_ (AllOb.cons ?_ (AllOb.cons ?_ (AllOb.cons ?_ (AllOb.cons ?_ (AllOb.cons ?_ (AllOb.cons ?_ (AllOb.cons ?_ (AllOb.cons ?_ (AllOb.cons ?_ (AllOb.cons ?_ (AllOb.cons ?_ (AllOb.cons ?_ (AllOb.cons ?_ (AllOb.cons ?_ (AllOb.cons ?_ (AllOb.cons ?_ (AllOb.cons ?_ (AllOb.cons ?_ (AllOb.cons ?_ (AllOb.cons ?_ (AllOb.cons ?_ (AllOb.cons ?_ (AllOb.cons ?_ (AllOb.cons ?_ (AllOb.cons ?_ (AllOb.cons ?_ (AllOb.cons ?_ (AllOb.nil))))))))))))))))))))))))))))))
      · intro uF W hC' hU aF hF
        have hC : Below v.heap.size v W := hC'
        clear hC'
        simp only [puts] at hF
        subst hF
        go_wp2_with (fail)
        exact ⟨rfl, rfl, (Below.refl _ _), rfl⟩
      · intro uF W hC' hU aF hF
        have hC : Below v.heap.size v W := hC'
        clear hC'
        have h15 : (Det (.slice (some ⟨bb, off, none⟩) n c)) (uF 0) W := hU.1
        clear hU
        simp only [puts, Act.put, List.setIfInBounds_toArray, List.set_cons_zero, List.set_cons_succ] at hF
        generalize uF 0 = x15 at h15 hF
        obtain rfl : x15 = (.slice (some ⟨bb, off, none⟩) n c) := h15
        subst hF
        go_wp2_with (fail)
        exact ⟨rfl, rfl, (Below.refl _ _), rfl⟩
      · intro uF W hC' hU aF hF
        have hC : Below v.heap.size v W := hC'
        clear hC'
        have h16 : (Det (.pointer (some ⟨bb, off, none⟩))) (uF 1) W := hU.1
        clear hU
        simp only [puts, Act.put, List.setIfInBounds_toArray, List.set_cons_zero, List.set_cons_succ] at hF
        generalize uF 1 = x16 at h16 hF
        obtain rfl : x16 = (.pointer (some ⟨bb, off, none⟩)) := h16
        subst hF
        have k0 := (hC.cell (show (⟨bb, off, none⟩ : Addr).block < v.heap.size from hbbv)).trans HC0.out
        go_wp2_with (fail)
        exact ⟨rfl, rfl, (Below.refl _ _), rfl⟩
      · intro uF W hC' hU aF hF
        have hC : Below v.heap.size v W := hC'
        clear hC'
        have h17 : (Det (.int .u8 (nm bs 0 1))) (uF 2) W := hU.1
        clear hU
        simp only [puts, Act.put, List.setIfInBounds_toArray, List.set_cons_zero, List.set_cons_succ] at hF
        generalize uF 2 = x17 at h17 hF
        obtain rfl : x17 = (.int .u8 (nm bs 0 1)) := h17
        subst hF
        go_wp2_with (fail)
        exact ⟨rfl, rfl, (Below.refl _ _), rfl⟩
      · intro uF W hC' hU aF hF
        have hC : Below v.heap.size v W := hC'
        clear hC'
        simp only [puts] at hF
        subst hF
        go_wp2_with (fail)
        exact ⟨rfl, rfl, (Below.refl _ _), rfl⟩
      · intro uF W hC' hU aF hF
        have hC : Below v.heap.size v W := hC'
        clear hC'
        have h19 : (Det (.slice (some ⟨bb, off, none⟩) n c)) (uF 4) W := hU.1
        clear hU
        simp only [puts, Act.put, List.setIfInBounds_toArray, List.set_cons_zero, List.set_cons_succ] at hF
        generalize uF 4 = x19 at h19 hF
        obtain rfl : x19 = (.slice (some ⟨bb, off, none⟩) n c) := h19
        subst hF
        go_wp2_with (fail)
        exact ⟨rfl, rfl, (Below.refl _ _), rfl⟩
      · intro uF W hC' hU aF hF
        have hC : Below v.heap.size v W := hC'
        clear hC'
        have h20 : (Det (.pointer (some ⟨bb, off + 1, none⟩))) (uF 5) W := hU.1
        clear hU
        simp only [puts, Act.put, List.setIfInBounds_toArray, List.set_cons_zero, List.set_cons_succ] at hF
        generalize uF 5 = x20 at h20 hF
        obtain rfl : x20 = (.pointer (some ⟨bb, off + 1, none⟩)) := h20
        subst hF
        have k0 := (hC.cell (show (⟨bb, off + 1, none⟩ : Addr).block < v.heap.size from hbbv)).trans HC1.out
        go_wp2_with (fail)
        exact ⟨rfl, rfl, (Below.refl _ _), rfl⟩
      · intro uF W hC' hU aF hF
        have hC : Below v.heap.size v W := hC'
        clear hC'
        have h21 : (Det (.int .u8 (nm bs 1 1))) (uF 6) W := hU.1
        clear hU
        simp only [puts, Act.put, List.setIfInBounds_toArray, List.set_cons_zero, List.set_cons_succ] at hF
        generalize uF 6 = x21 at h21 hF
        obtain rfl : x21 = (.int .u8 (nm bs 1 1)) := h21
        subst hF
        go_wp2_with (fail)
        exact ⟨rfl, rfl, (Below.refl _ _), rfl⟩
      · intro uF W hC' hU aF hF
        have hC : Below v.heap.size v W := hC'
        clear hC'
        simp only [puts] at hF
        subst hF
        go_wp2_with (fail)
        exact ⟨rfl, rfl, (Below.refl _ _), rfl⟩
      · intro uF W hC' hU aF hF
        have hC : Below v.heap.size v W := hC'
        clear hC'
        have h23 : (Det (.slice (some ⟨bb, off, none⟩) n c)) (uF 8) W := hU.1
        clear hU
        simp only [puts, Act.put, List.setIfInBounds_toArray, List.set_cons_zero, List.set_cons_succ] at hF
        generalize uF 8 = x23 at h23 hF
        obtain rfl : x23 = (.slice (some ⟨bb, off, none⟩) n c) := h23
        subst hF
        go_wp2_with (fail)
        exact ⟨rfl, rfl, (Below.refl _ _), rfl⟩
      · intro uF W hC' hU aF hF
        have hC : Below v.heap.size v W := hC'
        clear hC'
        have h24 : (Det (.pointer (some ⟨bb, off + 2, none⟩))) (uF 9) W := hU.1
        clear hU
        simp only [puts, Act.put, List.setIfInBounds_toArray, List.set_cons_zero, List.set_cons_succ] at hF
        generalize uF 9 = x24 at h24 hF
        obtain rfl : x24 = (.pointer (some ⟨bb, off + 2, none⟩)) := h24
        subst hF
        have k0 := (hC.cell (show (⟨bb, off + 2, none⟩ : Addr).block < v.heap.size from hbbv)).trans HC2.out
        go_wp2_with (fail)
        exact ⟨rfl, rfl, (Below.refl _ _), rfl⟩
      · intro uF W hC' hU aF hF
        have hC : Below v.heap.size v W := hC'
        clear hC'
        have h25 : (Det (.int .u8 (nm bs 2 1))) (uF 10) W := hU.1
        clear hU
        simp only [puts, Act.put, List.setIfInBounds_toArray, List.set_cons_zero, List.set_cons_succ] at hF
        generalize uF 10 = x25 at h25 hF
        obtain rfl : x25 = (.int .u8 (nm bs 2 1)) := h25
        subst hF
        go_wp2_with (fail)
        exact ⟨rfl, rfl, (Below.refl _ _), rfl⟩
      · intro uF W hC' hU aF hF
        have hC : Below v.heap.size v W := hC'
        clear hC'
        have h26 : (Det (.int .i64 (nm bs 2 1))) (uF 11) W := hU.1
        clear hU
        simp only [puts, Act.put, List.setIfInBounds_toArray, List.set_cons_zero, List.set_cons_succ] at hF
        generalize uF 11 = x26 at h26 hF
        obtain rfl : x26 = (.int .i64 (nm bs 2 1)) := h26
        subst hF
        go_wp2_with (fail)
        exact ⟨rfl, rfl, (Below.refl _ _), rfl⟩
      · intro uF W hC' hU aF hF
        have hC : Below v.heap.size v W := hC'
        clear hC'
        simp only [puts] at hF
        subst hF
        go_wp2_with (fail)
        exact ⟨rfl, rfl, (Below.refl _ _), rfl⟩
      · intro uF W hC' hU aF hF
        have hC : Below v.heap.size v W := hC'
        clear hC'
        have h28 : (Det (.slice (some ⟨bb, off, none⟩) n c)) (uF 13) W := hU.1
        clear hU
        simp only [puts, Act.put, List.setIfInBounds_toArray, List.set_cons_zero, List.set_cons_succ] at hF
        generalize uF 13 = x28 at h28 hF
        obtain rfl : x28 = (.slice (some ⟨bb, off, none⟩) n c) := h28
        subst hF
        go_wp2_with (fail)
        exact ⟨rfl, rfl, (Below.refl _ _), rfl⟩
      · intro uF W hC' hU aF hF
        have hC : Below v.heap.size v W := hC'
        clear hC'
        have h29 : (Det (.pointer (some ⟨bb, off + 3, none⟩))) (uF 14) W := hU.1
        clear hU
        simp only [puts, Act.put, List.setIfInBounds_toArray, List.set_cons_zero, List.set_cons_succ] at hF
        generalize uF 14 = x29 at h29 hF
        obtain rfl : x29 = (.pointer (some ⟨bb, off + 3, none⟩)) := h29
        subst hF
        have k0 := (hC.cell (show (⟨bb, off + 3, none⟩ : Addr).block < v.heap.size from hbbv)).trans HC3.out
        go_wp2_with (fail)
        exact ⟨rfl, rfl, (Below.refl _ _), rfl⟩
      · intro uF W hC' hU aF hF
        have hC : Below v.heap.size v W := hC'
        clear hC'
        have h30 : (Det (.int .u8 (nm bs 3 1))) (uF 15) W := hU.1
        clear hU
        simp only [puts, Act.put, List.setIfInBounds_toArray, List.set_cons_zero, List.set_cons_succ] at hF
        generalize uF 15 = x30 at h30 hF
        obtain rfl : x30 = (.int .u8 (nm bs 3 1)) := h30
        subst hF
        go_wp2_with (fail)
        exact ⟨rfl, rfl, (Below.refl _ _), rfl⟩
      · intro uF W hC' hU aF hF
        have hC : Below v.heap.size v W := hC'
        clear hC'
        have h27 : (Det (.int .i64 (nm bs 2 1 * 256))) (uF 12) W := hU.1
        have h31 : (Det (.int .i64 (nm bs 3 1))) (uF 16) W := hU.2.1
        clear hU
        simp only [puts, Act.put, List.setIfInBounds_toArray, List.set_cons_zero, List.set_cons_succ] at hF
        generalize uF 12 = x27 at h27 hF
        generalize uF 16 = x31 at h31 hF
        obtain rfl : x27 = (.int .i64 (nm bs 2 1 * 256)) := h27
        obtain rfl : x31 = (.int .i64 (nm bs 3 1)) := h31
        subst hF
        go_wp2_with (fail)
        exact ⟨rfl, rfl, (Below.refl _ _), rfl⟩
      · intro uF W hC' hU aF hF
        have hC : Below v.heap.size v W := hC'
        clear hC'
        simp only [puts] at hF
        subst hF
        go_wp2_with (fail)
        exact ⟨rfl, rfl, (Below.refl _ _), rfl⟩
      · intro uF W hC' hU aF hF
        have hC : Below v.heap.size v W := hC'
        clear hC'
        have h33 : (Det (.slice (some ⟨bb, off, none⟩) n c)) (uF 18) W := hU.1
        clear hU
        simp only [puts, Act.put, List.setIfInBounds_toArray, List.set_cons_zero, List.set_cons_succ] at hF
        generalize uF 18 = x33 at h33 hF
        obtain rfl : x33 = (.slice (some ⟨bb, off, none⟩) n c) := h33
        subst hF
        go_wp2_with (fail)
        exact ⟨rfl, rfl, (Below.refl _ _), rfl⟩
      · intro uF W hC' hU aF hF
        have hC : Below v.heap.size v W := hC'
        clear hC'
        have h34 : (Det (.pointer (some ⟨bb, off + 4, none⟩))) (uF 19) W := hU.1
        clear hU
        simp only [puts, Act.put, List.setIfInBounds_toArray, List.set_cons_zero, List.set_cons_succ] at hF
        generalize uF 19 = x34 at h34 hF
        obtain rfl : x34 = (.pointer (some ⟨bb, off + 4, none⟩)) := h34
        subst hF
        have k0 := (hC.cell (show (⟨bb, off + 4, none⟩ : Addr).block < v.heap.size from hbbv)).trans HC4.out
        go_wp2_with (fail)
        exact ⟨rfl, rfl, (Below.refl _ _), rfl⟩
      · intro uF W hC' hU aF hF
        have hC : Below v.heap.size v W := hC'
        clear hC'
        have h35 : (Det (.int .u8 (nm bs 4 1))) (uF 20) W := hU.1
        clear hU
        simp only [puts, Act.put, List.setIfInBounds_toArray, List.set_cons_zero, List.set_cons_succ] at hF
        generalize uF 20 = x35 at h35 hF
        obtain rfl : x35 = (.int .u8 (nm bs 4 1)) := h35
        subst hF
        go_wp2_with (fail)
        exact ⟨rfl, rfl, (Below.refl _ _), rfl⟩
      · intro uF W hC' hU aF hF
        have hC : Below v.heap.size v W := hC'
        clear hC'
        have h36 : (Det (.int .i64 (nm bs 4 1))) (uF 21) W := hU.1
        clear hU
        simp only [puts, Act.put, List.setIfInBounds_toArray, List.set_cons_zero, List.set_cons_succ] at hF
        generalize uF 21 = x36 at h36 hF
        obtain rfl : x36 = (.int .i64 (nm bs 4 1)) := h36
        subst hF
        go_wp2_with (fail)
        exact ⟨rfl, rfl, (Below.refl _ _), rfl⟩
      · intro uF W hC' hU aF hF
        have hC : Below v.heap.size v W := hC'
        clear hC'
        simp only [puts] at hF
        subst hF
        go_wp2_with (fail)
        exact ⟨rfl, rfl, (Below.refl _ _), rfl⟩
      · intro uF W hC' hU aF hF
        have hC : Below v.heap.size v W := hC'
        clear hC'
        have h38 : (Det (.slice (some ⟨bb, off, none⟩) n c)) (uF 23) W := hU.1
        clear hU
        simp only [puts, Act.put, List.setIfInBounds_toArray, List.set_cons_zero, List.set_cons_succ] at hF
        generalize uF 23 = x38 at h38 hF
        obtain rfl : x38 = (.slice (some ⟨bb, off, none⟩) n c) := h38
        subst hF
        go_wp2_with (fail)
        exact ⟨rfl, rfl, (Below.refl _ _), rfl⟩
      · intro uF W hC' hU aF hF
        have hC : Below v.heap.size v W := hC'
        clear hC'
        have h39 : (Det (.pointer (some ⟨bb, off + 5, none⟩))) (uF 24) W := hU.1
        clear hU
        simp only [puts, Act.put, List.setIfInBounds_toArray, List.set_cons_zero, List.set_cons_succ] at hF
        generalize uF 24 = x39 at h39 hF
        obtain rfl : x39 = (.pointer (some ⟨bb, off + 5, none⟩)) := h39
        subst hF
        have k0 := (hC.cell (show (⟨bb, off + 5, none⟩ : Addr).block < v.heap.size from hbbv)).trans HC5.out
        go_wp2_with (fail)
        exact ⟨rfl, rfl, (Below.refl _ _), rfl⟩
      · intro uF W hC' hU aF hF
        have hC : Below v.heap.size v W := hC'
        clear hC'
        have h40 : (Det (.int .u8 (nm bs 5 1))) (uF 25) W := hU.1
        clear hU
        simp only [puts, Act.put, List.setIfInBounds_toArray, List.set_cons_zero, List.set_cons_succ] at hF
        generalize uF 25 = x40 at h40 hF
        obtain rfl : x40 = (.int .u8 (nm bs 5 1)) := h40
        subst hF
        go_wp2_with (fail)
        exact ⟨rfl, rfl, (Below.refl _ _), rfl⟩
      · intro uF W hC' hU aF hF
        have hC : Below v.heap.size v W := hC'
        clear hC'
        have h37 : (Det (.int .i64 (nm bs 4 1 * 256))) (uF 22) W := hU.1
        have h41 : (Det (.int .i64 (nm bs 5 1))) (uF 26) W := hU.2.1
        clear hU
        simp only [puts, Act.put, List.setIfInBounds_toArray, List.set_cons_zero, List.set_cons_succ] at hF
        generalize uF 22 = x37 at h37 hF
        generalize uF 26 = x41 at h41 hF
        obtain rfl : x37 = (.int .i64 (nm bs 4 1 * 256)) := h37
        obtain rfl : x41 = (.int .i64 (nm bs 5 1)) := h41
        subst hF
        go_wp2_with (fail)
        exact ⟨rfl, rfl, (Below.refl _ _), rfl⟩
      · intro uF W hC' hU aF hF
        have hC : Below v.heap.size v W := hC'
        clear hC'
        have h18 : (Det (.int .i64 (nm bs 0 1))) (uF 3) W := hU.1
        have h22 : (Det (.int .i64 (nm bs 1 1))) (uF 7) W := hU.2.1
        have h32 : (Det (.int .i64 (nm bs 2 2))) (uF 17) W := hU.2.2.1
        have h42 : (Det (.int .i64 (nm bs 4 2))) (uF 27) W := hU.2.2.2.1
        clear hU
        simp only [puts, Act.put, List.setIfInBounds_toArray, List.set_cons_zero, List.set_cons_succ] at hF
        generalize uF 3 = x18 at h18 hF
        generalize uF 7 = x22 at h22 hF
        generalize uF 17 = x32 at h32 hF
        generalize uF 27 = x42 at h42 hF
        obtain rfl : x18 = (.int .i64 (nm bs 0 1)) := h18
        obtain rfl : x22 = (.int .i64 (nm bs 1 1)) := h22
        obtain rfl : x32 = (.int .i64 (nm bs 2 2)) := h32
        obtain rfl : x42 = (.int .i64 (nm bs 4 2)) := h42
        subst hF
        go_wp2_with (fail)
        exact ⟨rfl, rfl, (Below.refl _ _), rfl⟩
      · intro uF W hC' hU aF hF
        have hC : Below v.heap.size v W := hC'
        clear hC'
        simp only [puts] at hF
        subst hF
        go_wp2_with (((with_reducible show wpList _ _ _ (Oper.mk (some 4) (Op.alloc _) _ _ _ _ :: _) _ _); refine wpList_alloc_agg (by rfl) 56 rfl #[.int .i64 0, .int .i64 0, .int .i64 0, .int .i64 0, .slice none 0 0, .int .i64 0, .int .i64 0, .int .i64 0, .int .i64 0, .int .i64 0, .bool false] zeroCm ?_))
        exact ⟨rfl, rfl, (below_alloc _ _), ⟨_, rfl, hC.size, Blk.new _ _ _⟩⟩
    intro uF W5 hC' hU aF hF
    have hCW5 : Below v.heap.size v W5 := hC'
    clear hC'
    have h43 : (Det (.agg #[.int .i64 (nm bs 0 1), .int .i64 (nm bs 1 1), .int .i64 (nm bs 2 2), .int .i64 (nm bs 4 2), .slice none 0 0, .int .i64 0, .int .i64 0, .int .i64 0, .int .i64 0, .int .i64 0, .bool false])) (uF 28) W5 := hU.2.2.2.2.2.2.2.2.2.2.2.2.2.2.2.2.2.2.2.2.2.2.2.2.2.2.2.2.1
    have h4 : (RelZ v.heap.size 56 #[.int .i64 0, .int .i64 0, .int .i64 0, .int .i64 0, .slice none 0 0, .int .i64 0, .int .i64 0, .int .i64 0, .int .i64 0, .int .i64 0, .bool false]) (uF 29) W5 := hU.2.2.2.2.2.2.2.2.2.2.2.2.2.2.2.2.2.2.2.2.2.2.2.2.2.2.2.2.2.1
    clear hU
    simp only [List.take_succ_cons, List.take_zero, puts, Act.put, List.setIfInBounds_toArray, List.set_cons_zero, List.set_cons_succ] at hF
    generalize uF 0 = x15 at hF
    generalize uF 1 = x16 at hF
    generalize uF 2 = x17 at hF
    generalize uF 3 = x18 at hF
    generalize uF 4 = x19 at hF
    generalize uF 5 = x20 at hF
    generalize uF 6 = x21 at hF
    generalize uF 7 = x22 at hF
    generalize uF 8 = x23 at hF
    generalize uF 9 = x24 at hF
    generalize uF 10 = x25 at hF
    generalize uF 11 = x26 at hF
    generalize uF 12 = x27 at hF
    generalize uF 13 = x28 at hF
    generalize uF 14 = x29 at hF
    generalize uF 15 = x30 at hF
    generalize uF 16 = x31 at hF
    generalize uF 17 = x32 at hF
    generalize uF 18 = x33 at hF
    generalize uF 19 = x34 at hF
    generalize uF 20 = x35 at hF
    generalize uF 21 = x36 at hF
    generalize uF 22 = x37 at hF
    generalize uF 23 = x38 at hF
    generalize uF 24 = x39 at hF
    generalize uF 25 = x40 at hF
    generalize uF 26 = x41 at hF
    generalize uF 27 = x42 at hF
    generalize uF 28 = x43 at h43 hF
    generalize uF 29 = x4 at h4 hF
    obtain rfl : x43 = (.agg #[.int .i64 (nm bs 0 1), .int .i64 (nm bs 1 1), .int .i64 (nm bs 2 2), .int .i64 (nm bs 4 2), .slice none 0 0, .int .i64 0, .int .i64 0, .int .i64 0, .int .i64 0, .int .i64 0, .bool false]) := h43
    obtain ⟨g4, rfl, z4, b4⟩ := h4
    subst hF
    simp only [List.drop_succ_cons, List.drop_zero]
    refine wpListIn_of free_wide (fun ⟨_, _, h⟩ => h) rfl ?_
    refine wpList_store_whole rfl 56 (.tmp 4) (.tmp 43) rfl g4 rfl [.int .i64 (nm bs 0 1), .int .i64 (nm bs 1 1), .int .i64 (nm bs 2 2), .int .i64 (nm bs 4 2), .slice none 0 0, .int .i64 0, .int .i64 0, .int .i64 0, .int .i64 0, .int .i64 0, .bool false] rfl aggCm rfl _ _ b4 rfl (by simp [Value.oneCell']) ?_
    intro w4 hb4 hg4 hs4
    exact wpList_nil ⟨g4, ⟨_, _, _, _, _, _, _, _, _, _, _, _, _, _, _, _, _, _, _, _, _, _, _, _, _, _, _, _, _, _, _, _, _, rfl⟩, hb4, z4, hCW5.grown hg4 hCW5.size (fun k hk => by cases hk; exact z4)⟩
  rintro e a' w4 h
  clear e22 e42
  cases e with
  | normal =>
    obtain ⟨g4, ⟨y11, y12, y13, y14, y15, y16, y17, y18, y19, y20, y21, y22, y23, y24, y25, y26, y27, y28, y29, y30, y31, y32, y33, y34, y35, y36, y37, y38, y39, y40, y41, y42, y43, rfl⟩, hb4, hg4, hw4⟩ := h
    have hw4w := hwv.trans (hw4.mono hz)
    have hz4 := hw4.size
    have b24 := b2.below hw4 b2.lt
    have b2lt := b2.lt
    have k0 : w4.cell? ⟨g4, 0, none⟩ = some (.int .i64 (nm bs 0 1)) := by rw [hb4.cell]; rfl
    have k4 : w4.cell? ⟨g4, 4, none⟩ = some (.slice none 0 0) := by rw [hb4.cell]; rfl
    have f4 := hb4.frozen 4
    have hbl := hb4.lt
    rw [h6] at k0 hb4
    have hne : ((n : Int) != 25) = false := by rw [H25.out]; rfl
    have HD6 := Lib.hid ((hw4.cell (show (⟨bb, off + 6, none⟩ : Addr).block < v.heap.size from hbbv)).trans HC6.out)
    have HD23 := Lib.hid ((hw4.cell (show (⟨bb, off + 23, none⟩ : Addr).block < v.heap.size from hbbv)).trans HC23.out)
    have HD24 := Lib.hid ((hw4.cell (show (⟨bb, off + 24, none⟩ : Addr).block < v.heap.size from hbbv)).trans HC24.out)
    have hbb4 : bb < w4.heap.size := Nat.lt_of_lt_of_le hbbv hz4
    go_wp2_with (first
      | (go_at_call 51; (fail_if_success have hx := T2); have hprev := T1; clear hprev; refine (ref_take_ok (H15.out.below (hw4.mono hBv)) (k := 8) (by simp [sz]) (by omega)).mono ?_; rintro e w' ⟨rfl, rfl⟩; rw [show i64v (bigN ((bs.drop 15).take 8)) = nm bs 15 8 from rfl]; have T2 := True.intro)
      | (go_at_call 51; (fail_if_success have hx := T1); refine (ref_take_ok (H7.out.below (hw4.mono hBv)) (k := 8) (by simp [sz]) (by omega)).mono ?_; rintro e w' ⟨rfl, rfl⟩; rw [show i64v (bigN ((bs.drop 7).take 8)) = nm bs 7 8 from rfl]; have T1 := True.intro))
    refine Code.wp_mono (Q := Exit.then (fun a' w' => (∃ y11 y12 y13 y14 y15 y16 y17 y18 y19 y20 y21 y22 y23 y24 y25 y26 y27 y28 y29 y30 y31 y32 y33 y34 y35 y36 y37 y38 y39 y40 y41 y42 y43 y44 y45 y46 y47 y48 y49 y50 y51 y52 y53 y54 y55 y56 y57 y58 y59 y60 y61 y62 y63 y64 y65 y66 y67 y68 y69 y70 y71 y72 y73 y74 y75 y76 y77 y78 y79 y80 y81 y82 y83 y84 y85 y86 : Value, a' = { tmps := #[Value.slice (some ⟨bb, off, none⟩) n c, undef, Value.pointer (some ⟨w.heap.size, 0, none⟩), Value.bool false, Value.pointer (some ⟨g4, 0, none⟩), Value.int .i64 (nm bs 7 8), Value.bool true, Value.int .i64 (nm bs 15 8), Value.bool true, undef, undef, y11, y12, y13, y14, y15, y16, y17, y18, y19, y20, y21, y22, y23, y24, y25, y26, y27, y28, y29, y30, y31, y32, y33, y34, y35, y36, y37, y38, y39, y40, y41, y42, y43, y44, y45, y46, y47, y48, y49, y50, y51, y52, y53, y54, y55, y56, y57, y58, y59, y60, y61, y62, y63, y64, y65, y66, y67, y68, y69, y70, y71, y72, y73, y74, y75, y76, y77, y78, y79, y80, y81, y82, y83, y84, y85, y86, undef, undef, undef, undef, undef, undef, undef, undef, undef, undef, undef, undef, undef, undef, undef, undef], defers := [] }) ∧ Blk w' g4 56 #[.int .i64 6, .int .i64 (nm bs 1 1), .int .i64 (nm bs 2 2), .int .i64 (nm bs 4 2), .slice none 0 0, .int .i64 (nm bs 6 1), .int .i64 0, .int .i64 (nm bs 7 8), .int .i64 (nm bs 15 8), .int .i64 (nm bs 23 1), .bool (nm bs 24 1 == 1)] ∧ Below v.heap.size v w' ∧ Blk w' w.heap.size 56 #[.int .i64 0, .int .i64 0, .int .i64 0, .int .i64 0, .slice none 0 0, .int .i64 0, .int .i64 0, .int .i64 0, .int .i64 0, .int .i64 0, .bool false]) (fun _ _ _ => False)) ?_ ?_
    rotate_left
    · refine (wpIn_wide (n := 4)).1 ?_
      refine wpIn_region_rel free_wide rfl 16 (fun W W' => Below W.heap.size W W') (fun W => Below w4.heap.size w4 W)
        [Det (.slice (some ⟨bb, off, none⟩) n c), Det (.pointer (some ⟨bb, off + 6, none⟩)), Det (.int .u8 (nm bs 6 1)), Det (.int .i64 (nm bs 6 1)), Det (.int .i64 (nm bs 7 8)), Det (.int .i64 (nm bs 15 8)), Det (.slice (some ⟨bb, off, none⟩) n c), Det (.pointer (some ⟨bb, off + 23, none⟩)), Det (.int .u8 (nm bs 23 1)), Det (.int .i64 (nm bs 23 1)), Det (.slice (some ⟨bb, off, none⟩) n c), Det (.pointer (some ⟨bb, off + 24, none⟩)), Det (.int .u8 (nm bs 24 1)), Det (.bool (nm bs 24 1 == 1)), Det (.agg #[.int .i64 (nm bs 6 1), .int .i64 0, .int .i64 (nm bs 7 8), .int .i64 (nm bs 15 8), .int .i64 (nm bs 23 1), .bool (nm bs 24 1 == 1)]), Det (.pointer (some ⟨g4, 5, none⟩)), Any]
        [[], [(0, some 71)], [(1, some 72)], [(2, some 73)], [], [], [], [(6, some 77)], [(7, some 78)], [(8, some 79)], [], [(10, some 81)], [(11, some 82)], [(12, some 83)], [(3, some 74), (4, some 75), (5, some 76), (9, some 80), (13, some 84)], [], [(15, some 86), (14, some 85)]]
        [[], [0], [0, 1], [0, 1, 2], [], [], [], [6], [6, 7], [6, 7, 8], [], [10], [10, 11], [10, 11, 12], [0, 1, 2, 3, 4, 5, 6, 7, 8, 9, 10, 11, 12, 13], [0, 1, 2, 3, 4, 5, 6, 7, 8, 9, 10, 11, 12, 13, 14], [0, 1, 2, 3, 4, 5, 6, 7, 8, 9, 10, 11, 12, 13, 14, 15]]
        [(0, some 71), (1, some 72), (2, some 73), (3, some 74), (4, some 75), (5, some 76), (6, some 77), (7, some 78), (8, some 79), (9, some 80), (10, some 81), (11, some 82), (12, some 83), (13, some 84), (14, some 85), (15, some 86), (16, none)] (by kernel_rfl) (by kernel_rfl) (by kernel_rfl) (fun W W' h1 h2 => h1.trans (h2.mono h1.size)) ((Below.refl _ _).drew) ?_ ?_ ?_
      · exact (AllMono.cons Det.later (AllMono.cons Det.later (AllMono.cons Det.later (AllMono.cons Det.later (AllMono.cons Det.later (AllMono.cons Det.later (AllMono.cons Det.later (AllMono.cons Det.later (AllMono.cons Det.later (AllMono.cons Det.later (AllMono.cons Det.later (AllMono.cons Det.later (AllMono.cons Det.later (AllMono.cons Det.later (AllMono.cons Det.later (AllMono.cons Det.later (AllMono.cons Any.later AllMono.nil)))))))))))))))))
      · refine AllOb.cons ?_ (AllOb.cons ?_ (AllOb.cons ?_ (AllOb.cons ?_ (AllOb.cons ?_ (AllOb.cons ?_ (AllOb.cons ?_ (AllOb.cons ?_ (AllOb.cons ?_ (AllOb.cons ?_ (AllOb.cons ?_ (AllOb.cons ?_ (AllOb.cons ?_ (AllOb.cons ?_ (AllOb.cons ?_ (AllOb.cons ?_ (AllOb.nil))))))))))))))))
        · intro uF W hC' hU aF hF
          have hC : Below w4.heap.size w4 W := hC'
          clear hC'
          simp only [puts] at hF
          subst hF
          go_wp2_with (fail)
          exact ⟨rfl, rfl, (Below.refl _ _), rfl⟩
        · intro uF W hC' hU aF hF
          have hC : Below w4.heap.size w4 W := hC'
          clear hC'
          have h71 : (Det (.slice (some ⟨bb, off, none⟩) n c)) (uF 0) W := hU.1
          clear hU
          simp only [puts, Act.put, List.setIfInBounds_toArray, List.set_cons_zero, List.set_cons_succ] at hF
          generalize uF 0 = x71 at h71 hF
          obtain rfl : x71 = (.slice (some ⟨bb, off, none⟩) n c) := h71
          subst hF
          go_wp2_with (fail)
          exact ⟨rfl, rfl, (Below.refl _ _), rfl⟩
        · intro uF W hC' hU aF hF
          have hC : Below w4.heap.size w4 W := hC'
          clear hC'
          have h72 : (Det (.pointer (some ⟨bb, off + 6, none⟩))) (uF 1) W := hU.1
          clear hU
          simp only [puts, Act.put, List.setIfInBounds_toArray, List.set_cons_zero, List.set_cons_succ] at hF
          generalize uF 1 = x72 at h72 hF
          obtain rfl : x72 = (.pointer (some ⟨bb, off + 6, none⟩)) := h72
          subst hF
          have k0 := (hC.cell (show (⟨bb, off + 6, none⟩ : Addr).block < w4.heap.size from hbb4)).trans HD6.out
          go_wp2_with (fail)
          exact ⟨rfl, rfl, (Below.refl _ _), rfl⟩
        · intro uF W hC' hU aF hF
          have hC : Below w4.heap.size w4 W := hC'
          clear hC'
          have h73 : (Det (.int .u8 (nm bs 6 1))) (uF 2) W := hU.1
          clear hU
          simp only [puts, Act.put, List.setIfInBounds_toArray, List.set_cons_zero, List.set_cons_succ] at hF
          generalize uF 2 = x73 at h73 hF
          obtain rfl : x73 = (.int .u8 (nm bs 6 1)) := h73
          subst hF
          go_wp2_with (fail)
          exact ⟨rfl, rfl, (Below.refl _ _), rfl⟩
        · intro uF W hC' hU aF hF
          have hC : Below w4.heap.size w4 W := hC'
          clear hC'
          simp only [puts] at hF
          subst hF
          go_wp2_with (fail)
          exact ⟨rfl, rfl, (Below.refl _ _), rfl⟩
        · intro uF W hC' hU aF hF
          have hC : Below w4.heap.size w4 W := hC'
          clear hC'
          simp only [puts] at hF
          subst hF
          go_wp2_with (fail)
          exact ⟨rfl, rfl, (Below.refl _ _), rfl⟩
        · intro uF W hC' hU aF hF
          have hC : Below w4.heap.size w4 W := hC'
          clear hC'
          simp only [puts] at hF
          subst hF
          go_wp2_with (fail)
          exact ⟨rfl, rfl, (Below.refl _ _), rfl⟩
        · intro uF W hC' hU aF hF
          have hC : Below w4.heap.size w4 W := hC'
          clear hC'
          have h77 : (Det (.slice (some ⟨bb, off, none⟩) n c)) (uF 6) W := hU.1
          clear hU
          simp only [puts, Act.put, List.setIfInBounds_toArray, List.set_cons_zero, List.set_cons_succ] at hF
          generalize uF 6 = x77 at h77 hF
          obtain rfl : x77 = (.slice (some ⟨bb, off, none⟩) n c) := h77
          subst hF
          go_wp2_with (fail)
          exact ⟨rfl, rfl, (Below.refl _ _), rfl⟩
        · intro uF W hC' hU aF hF
          have hC : Below w4.heap.size w4 W := hC'
          clear hC'
          have h78 : (Det (.pointer (some ⟨bb, off + 23, none⟩))) (uF 7) W := hU.1
          clear hU
          simp only [puts, Act.put, List.setIfInBounds_toArray, List.set_cons_zero, List.set_cons_succ] at hF
          generalize uF 7 = x78 at h78 hF
          obtain rfl : x78 = (.pointer (some ⟨bb, off + 23, none⟩)) := h78
          subst hF
          have k0 := (hC.cell (show (⟨bb, off + 23, none⟩ : Addr).block < w4.heap.size from hbb4)).trans HD23.out
          go_wp2_with (fail)
          exact ⟨rfl, rfl, (Below.refl _ _), rfl⟩
        · intro uF W hC' hU aF hF
          have hC : Below w4.heap.size w4 W := hC'
          clear hC'
          have h79 : (Det (.int .u8 (nm bs 23 1))) (uF 8) W := hU.1
          clear hU
          simp only [puts, Act.put, List.setIfInBounds_toArray, List.set_cons_zero, List.set_cons_succ] at hF
          generalize uF 8 = x79 at h79 hF
          obtain rfl : x79 = (.int .u8 (nm bs 23 1)) := h79
          subst hF
          go_wp2_with (fail)
          exact ⟨rfl, rfl, (Below.refl _ _), rfl⟩
        · intro uF W hC' hU aF hF
          have hC : Below w4.heap.size w4 W := hC'
          clear hC'
          simp only [puts] at hF
          subst hF
          go_wp2_with (fail)
          exact ⟨rfl, rfl, (Below.refl _ _), rfl⟩
        · intro uF W hC' hU aF hF
          have hC : Below w4.heap.size w4 W := hC'
          clear hC'
          have h81 : (Det (.slice (some ⟨bb, off, none⟩) n c)) (uF 10) W := hU.1
          clear hU
          simp only [puts, Act.put, List.setIfInBounds_toArray, List.set_cons_zero, List.set_cons_succ] at hF
          generalize uF 10 = x81 at h81 hF
          obtain rfl : x81 = (.slice (some ⟨bb, off, none⟩) n c) := h81
          subst hF
          go_wp2_with (fail)
          exact ⟨rfl, rfl, (Below.refl _ _), rfl⟩
        · intro uF W hC' hU aF hF
          have hC : Below w4.heap.size w4 W := hC'
          clear hC'
          have h82 : (Det (.pointer (some ⟨bb, off + 24, none⟩))) (uF 11) W := hU.1
          clear hU
          simp only [puts, Act.put, List.setIfInBounds_toArray, List.set_cons_zero, List.set_cons_succ] at hF
          generalize uF 11 = x82 at h82 hF
          obtain rfl : x82 = (.pointer (some ⟨bb, off + 24, none⟩)) := h82
          subst hF
          have k0 := (hC.cell (show (⟨bb, off + 24, none⟩ : Addr).block < w4.heap.size from hbb4)).trans HD24.out
          go_wp2_with (fail)
          exact ⟨rfl, rfl, (Below.refl _ _), rfl⟩
        · intro uF W hC' hU aF hF
          have hC : Below w4.heap.size w4 W := hC'
          clear hC'
          have h83 : (Det (.int .u8 (nm bs 24 1))) (uF 12) W := hU.1
          clear hU
          simp only [puts, Act.put, List.setIfInBounds_toArray, List.set_cons_zero, List.set_cons_succ] at hF
          generalize uF 12 = x83 at h83 hF
          obtain rfl : x83 = (.int .u8 (nm bs 24 1)) := h83
          subst hF
          go_wp2_with (fail)
          exact ⟨rfl, rfl, (Below.refl _ _), rfl⟩
        · intro uF W hC' hU aF hF
          have hC : Below w4.heap.size w4 W := hC'
          clear hC'
          have h74 : (Det (.int .i64 (nm bs 6 1))) (uF 3) W := hU.1
          have h75 : (Det (.int .i64 (nm bs 7 8))) (uF 4) W := hU.2.1
          have h76 : (Det (.int .i64 (nm bs 15 8))) (uF 5) W := hU.2.2.1
          have h80 : (Det (.int .i64 (nm bs 23 1))) (uF 9) W := hU.2.2.2.1
          have h84 : (Det (.bool (nm bs 24 1 == 1))) (uF 13) W := hU.2.2.2.2.1
          clear hU
          simp only [puts, Act.put, List.setIfInBounds_toArray, List.set_cons_zero, List.set_cons_succ] at hF
          generalize uF 3 = x74 at h74 hF
          generalize uF 4 = x75 at h75 hF
          generalize uF 5 = x76 at h76 hF
          generalize uF 9 = x80 at h80 hF
          generalize uF 13 = x84 at h84 hF
          obtain rfl : x74 = (.int .i64 (nm bs 6 1)) := h74
          obtain rfl : x75 = (.int .i64 (nm bs 7 8)) := h75
          obtain rfl : x76 = (.int .i64 (nm bs 15 8)) := h76
          obtain rfl : x80 = (.int .i64 (nm bs 23 1)) := h80
          obtain rfl : x84 = (.bool (nm bs 24 1 == 1)) := h84
          subst hF
          go_wp2_with (fail)
          exact ⟨rfl, rfl, (Below.refl _ _), rfl⟩
        · intro uF W hC' hU aF hF
          have hC : Below w4.heap.size w4 W := hC'
          clear hC'
          simp only [puts] at hF
          subst hF
          go_wp2_with (fail)
          exact ⟨rfl, rfl, (Below.refl _ _), rfl⟩
      intro uF W6 hC' hU aF hF
      have hCW6 : Below w4.heap.size w4 W6 := hC'
      clear hC'
      have h85 : (Det (.agg #[.int .i64 (nm bs 6 1), .int .i64 0, .int .i64 (nm bs 7 8), .int .i64 (nm bs 15 8), .int .i64 (nm bs 23 1), .bool (nm bs 24 1 == 1)])) (uF 14) W6 := hU.2.2.2.2.2.2.2.2.2.2.2.2.2.2.1
      have h86 : (Det (.pointer (some ⟨g4, 5, none⟩))) (uF 15) W6 := hU.2.2.2.2.2.2.2.2.2.2.2.2.2.2.2.1
      clear hU
      simp only [List.take_succ_cons, List.take_zero, puts, Act.put, List.setIfInBounds_toArray, List.set_cons_zero, List.set_cons_succ] at hF
      generalize uF 0 = x71 at hF
      generalize uF 1 = x72 at hF
      generalize uF 2 = x73 at hF
      generalize uF 3 = x74 at hF
      generalize uF 4 = x75 at hF
      generalize uF 5 = x76 at hF
      generalize uF 6 = x77 at hF
      generalize uF 7 = x78 at hF
      generalize uF 8 = x79 at hF
      generalize uF 9 = x80 at hF
      generalize uF 10 = x81 at hF
      generalize uF 11 = x82 at hF
      generalize uF 12 = x83 at hF
      generalize uF 13 = x84 at hF
      generalize uF 14 = x85 at h85 hF
      generalize uF 15 = x86 at h86 hF
      obtain rfl : x85 = (.agg #[.int .i64 (nm bs 6 1), .int .i64 0, .int .i64 (nm bs 7 8), .int .i64 (nm bs 15 8), .int .i64 (nm bs 23 1), .bool (nm bs 24 1 == 1)]) := h85
      obtain rfl : x86 = (.pointer (some ⟨g4, 5, none⟩)) := h86
      subst hF
      simp only [List.drop_succ_cons, List.drop_zero]
      refine wpListIn_of free_wide (fun ⟨_, _, h⟩ => h) rfl ?_
      have b46 := hb4.below hCW6 hb4.lt
      have b26 := b24.below hCW6 b24.lt
      refine wpList_store_agg rfl 54 (.tmp 86) (.tmp 85) rfl g4 5 rfl [.int .i64 (nm bs 6 1), .int .i64 0, .int .i64 (nm bs 7 8), .int .i64 (nm bs 15 8), .int .i64 (nm bs 23 1), .bool (nm bs 24 1 == 1)] rfl aggRv rfl _ _ b46 (by simp) (by simp [Value.oneCell']) ?_
      intro vA bA0 gA sA
      have bA : Blk vA g4 56 #[.int .i64 6, .int .i64 (nm bs 1 1), .int .i64 (nm bs 2 2), .int .i64 (nm bs 4 2), .slice none 0 0, .int .i64 (nm bs 6 1), .int .i64 0, .int .i64 (nm bs 7 8), .int .i64 (nm bs 15 8), .int .i64 (nm bs 23 1), .bool (nm bs 24 1 == 1)] := bA0
      have hvA := (hw4.trans (hCW6.mono hz4)).grown gA (hw4.trans (hCW6.mono hz4)).size (fun k hk => by cases hk; exact hg4)
      have b2A := b26.grown gA (by simp; omega)
      exact wpList_nil ⟨⟨_, _, _, _, _, _, _, _, _, _, _, _, _, _, _, _, _, _, _, _, _, _, _, _, _, _, _, _, _, _, _, _, _, _, _, _, _, _, _, _, _, _, _, _, _, _, _, _, _, _, _, _, _, _, _, _, _, _, _, _, _, _, _, _, _, _, _, _, _, _, _, _, _, _, _, _, rfl⟩, bA, hvA, b2A⟩
    rintro e a' V6 h
    cases e with
    | normal =>
      obtain ⟨⟨y11, y12, y13, y14, y15, y16, y17, y18, y19, y20, y21, y22, y23, y24, y25, y26, y27, y28, y29, y30, y31, y32, y33, y34, y35, y36, y37, y38, y39, y40, y41, y42, y43, y44, y45, y46, y47, y48, y49, y50, y51, y52, y53, y54, y55, y56, y57, y58, y59, y60, y61, y62, y63, y64, y65, y66, y67, y68, y69, y70, y71, y72, y73, y74, y75, y76, y77, y78, y79, y80, y81, y82, y83, y84, y85, y86, rfl⟩, b6, hv6v, b26⟩ := h
      have hv6 := hwv.trans (hv6v.mono hz)
      have hz6 := hv6.size
      have o6 : OwB V6 V6.heap.size none 0 0 [] := OwB.nil _ _ _
      go_wp2_with (first
        | ((with_reducible show wpList _ _ _ (Oper.mk (some 88) (Op.load 56 _) _ _ _ _ :: _) _ _); refine wpList_load_whole (by rfl) 56 (.tmp 4) rfl g4 rfl #[.int .i64 6, .int .i64 (nm bs 1 1), .int .i64 (nm bs 2 2), .int .i64 (nm bs 4 2), .slice none 0 0, .int .i64 (nm bs 6 1), .int .i64 0, .int .i64 (nm bs 7 8), .int .i64 (nm bs 15 8), .int .i64 (nm bs 23 1), .bool (nm bs 24 1 == 1)] aggCm rfl _ b6 ?_)
        | (go_at_call 30; refine (crefenc_bad 6 (nm bs 1 1) (nm bs 2 2) (nm bs 4 2) (nm bs 6 1) 0 (nm bs 7 8) (nm bs 15 8) (nm bs 23 1) (nm bs 24 1 == 1) (OwB.sl o6) (Nat.le_refl _) (by omega) ⟨by decide, nm_wf _ _ _, nm_wf _ _ _, nm_wf _ _ _⟩ ⟨nm_wf _ _ _, nm_wf _ _ _, nm_wf _ _ _, nm_wf _ _ _⟩ hgood).mono ?_; rintro e w7 ⟨rfl, hb7⟩; have hw7 := hv6.trans (hb7.mono hz6); have hz7 := hw7.size; have b27 := b26.below hb7 b26.lt; have b67 := b6.below hb7 b6.lt; have o67 := OwB.below o6 hb7)
        | ((with_reducible show wpList _ _ _ (Oper.mk none (Op.store 56 (.tmp 2) (.tmp 101)) _ _ _ _ :: _) _ _); refine wpList_store_whole rfl 56 (.tmp 2) (.tmp 101) rfl w.heap.size rfl [.int .i64 0, .int .i64 0, .int .i64 0, .int .i64 0, .slice none 0 0, .int .i64 0, .int .i64 0, .int .i64 0, .int .i64 0, .int .i64 0, .bool false] rfl aggCm rfl _ _ b27 rfl (by simp [Value.oneCell']) ?_; intro wf bf gf sf))
      refine bodyPost_ret (results_cell_tmp rfl _ w.heap.size _ #[.int .i64 0, .int .i64 0, .int .i64 0, .int .i64 0, .slice none 0 0, .int .i64 0, .int .i64 0, .int .i64 0, .int .i64 0, .int .i64 0, .bool false] aggCm rfl rfl bf) rfl ⟨rfl, ?_⟩
      exact hw7.grown gf hz7 (fun k hk => by cases hk; exact Nat.le_refl _)
    | _ => exact h.elim
  | _ => exact h.elim

end Go.Proofs.Ytjjpifppdjpcnaa

