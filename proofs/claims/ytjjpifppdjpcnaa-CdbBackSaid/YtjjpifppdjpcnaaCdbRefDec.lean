/-
  The reference's Decode of commands (printed by wip/gen_crefdec.py).
-/
import Derived.Test.YtjjpifppdjpcnaaCdbDecF
import Derived.Test.YtjjpifppdjpcnaaRef08
namespace Go.Proofs.Ytjjpifppdjpcnaa
open Go.RowKit
set_option linter.unusedVariables false
set_option linter.unusedSimpArgs false
set_option maxRecDepth 100000

/-- A pointer to a block that holds these cells. -/
def RelZ (base : Nat) (T : TypeId) (cs : Array Value) : Value → World → Prop := fun v w => ∃ g, v = .pointer (some ⟨g, 0, none⟩) ∧ base ≤ g ∧ Blk w g T cs
theorem RelZ.later {base : Nat} {T : TypeId} {cs : Array Value} (v : Value) (w w' : World) (hb : Below w.heap.size w w') (h : RelZ base T cs v w) : RelZ base T cs v w' :=
  let ⟨g, e, hg, h⟩ := h
  ⟨g, e, hg, h.below hb h.lt⟩
theorem bigN_one {bs : List UInt8} {i : Nat} {x : UInt8} (h : bs[i]? = some x) : i64v (bigN ((bs.drop i).take 1)) = (x.toNat : Int) := by
  have hi : i < bs.length := (List.getElem?_eq_some_iff.1 h).1
  have e : (bs.drop i).take 1 = [x] := by
    rw [List.drop_eq_getElem_cons hi]
    rw [List.getElem?_eq_getElem hi, Option.some.injEq] at h
    simp [h]
  have hx := UInt8.toNat_lt x
  rw [e]
  show i64v (0 * 256 + x.toNat) = _
  rw [i64v, IntKind.wrap_i64]
  omega
theorem nm_pair {bs : List UInt8} {i : Nat} (h : i + 2 ≤ bs.length) : nm bs i 2 = nm bs i 1 * 256 + nm bs (i + 1) 1 := by
  obtain ⟨x, hx⟩ : ∃ x, bs[i]? = some x := ⟨bs[i]'(by omega), List.getElem?_eq_getElem _⟩
  obtain ⟨y, hy⟩ : ∃ y, bs[i + 1]? = some y := ⟨bs[i + 1]'(by omega), List.getElem?_eq_getElem _⟩
  have e1 : nm bs i 1 = (x.toNat : Int) := bigN_one hx
  have e2 : nm bs (i + 1) 1 = (y.toNat : Int) := bigN_one hy
  rw [e1, e2]
  have e : (bs.drop i).take 2 = [x, y] := by
    rw [List.drop_eq_getElem_cons (show i < bs.length by omega), List.drop_eq_getElem_cons (show i + 1 < bs.length by omega)]
    rw [List.getElem?_eq_getElem (show i < bs.length by omega), Option.some.injEq] at hx
    rw [List.getElem?_eq_getElem (show i + 1 < bs.length by omega), Option.some.injEq] at hy
    simp [hx, hy]
  have hx' := UInt8.toNat_lt x
  have hy' := UInt8.toNat_lt y
  rw [nm, e]
  show i64v ((0 * 256 + x.toNat) * 256 + y.toNat) = _
  rw [i64v, IntKind.wrap_i64]
  omega

theorem crefdec_short {w : World} {A : Option Addr} {n c : Nat} (hn : n < 6) :
    Calls Try.prog 37 #[.slice A n c] w fun e w' => e = .returned (.tuple #[.agg #[.int .i64 0, .int .i64 0, .int .i64 0, .int .i64 0, .slice none 0 0, .int .i64 0, .int .i64 0, .int .i64 0, .int .i64 0, .int .i64 0, .bool false], .bool false]) ∧ Below w.heap.size w w' := by
  have hi : (n : Int) < 6 := by omega
  have b2 := Blk.new w 56 #[.int .i64 0, .int .i64 0, .int .i64 0, .int .i64 0, .slice none 0 0, .int .i64 0, .int .i64 0, .int .i64 0, .int .i64 0, .int .i64 0, .bool false]
  go_enter Try.func37, Try.ntmps37
  go_wp2_with (first
    | ((with_reducible show wpList _ _ _ (Oper.mk (some 2) (Op.alloc _) _ _ _ _ :: _) _ _); refine wpList_alloc_agg rfl 56 rfl #[.int .i64 0, .int .i64 0, .int .i64 0, .int .i64 0, .slice none 0 0, .int .i64 0, .int .i64 0, .int .i64 0, .int .i64 0, .int .i64 0, .bool false] zeroCm ?_)
    | ((with_reducible show wpList _ _ _ (Oper.mk none (Op.store 56 _ _) _ _ _ _ :: _) _ _); refine wpList_store_whole rfl 56 (.tmp 2) (.tmp 14) rfl w.heap.size rfl [.int .i64 0, .int .i64 0, .int .i64 0, .int .i64 0, .slice none 0 0, .int .i64 0, .int .i64 0, .int .i64 0, .int .i64 0, .int .i64 0, .bool false] rfl aggCm rfl _ _ b2 rfl (by simp [Value.oneCell']) ?_; intro wf bf gf sf))
  refine bodyPost_ret (results_cell_tmp rfl _ w.heap.size _ #[.int .i64 0, .int .i64 0, .int .i64 0, .int .i64 0, .slice none 0 0, .int .i64 0, .int .i64 0, .int .i64 0, .int .i64 0, .int .i64 0, .bool false] aggCm rfl rfl bf) rfl ⟨rfl, ?_⟩
  exact (below_alloc _ _).grown gf (by simp) (fun k hk => by cases hk; exact Nat.le_refl _)

set_option maxHeartbeats 4000000 in
theorem crefdec_six_len {w : World} {B : Nat} {A : Option Addr} {n c : Nat} {bs : List UInt8} (hb : SlB w B A n c bs) (hB : B ≤ w.heap.size) (hn : n ≤ 1048576) (h1 : 6 ≤ n) (h6 : nm bs 0 1 = 6) (h25 : n ≠ 25) :
    Calls Try.prog 37 #[.slice A n c] w fun e w' => e = .returned (.tuple #[.agg #[.int .i64 0, .int .i64 0, .int .i64 0, .int .i64 0, .slice none 0 0, .int .i64 0, .int .i64 0, .int .i64 0, .int .i64 0, .int .i64 0, .bool false], .bool false]) ∧ Below w.heap.size w w' := by
  have hlen := hb.len
  have hcap := hb.le
  have hcm : c ≤ 9223372036854775807 := hb.cap
  obtain ⟨v, hv⟩ : ∃ v, v = w.alloc (.cells #[.int .i64 0, .int .i64 0, .int .i64 0, .int .i64 0, .slice none 0 0, .int .i64 0, .int .i64 0, .int .i64 0, .int .i64 0, .int .i64 0, .bool false] 56) := ⟨_, rfl⟩
  have b2 : Blk v w.heap.size 56 #[.int .i64 0, .int .i64 0, .int .i64 0, .int .i64 0, .slice none 0 0, .int .i64 0, .int .i64 0, .int .i64 0, .int .i64 0, .int .i64 0, .bool false] := by rw [hv]; exact Blk.new _ _ _
  have hwv : Below w.heap.size w v := by rw [hv]; exact below_alloc _ _
  have hz := hwv.size
  have hbv := hb.below (hwv.mono hB)
  have hBv := Nat.le_trans hB hz
  obtain ⟨bb, off, eA, hbb, hj⟩ := hbv.at_ (by omega)
  obtain ⟨x0, hx0⟩ : ∃ x, bs[0]? = some x := ⟨bs[0]'(by omega), List.getElem?_eq_getElem _⟩
  have c0 : v.cell? ⟨bb, off, none⟩ = some (.int .u8 (nm bs 0 1)) := by rw [show nm bs 0 1 = (x0.toNat : Int) from bigN_one (i := 0) hx0]; exact hj 0 x0 hx0
  obtain ⟨p0, q0⟩ := nm_one (bs := bs) (a := 0) (by omega)
  have hi0 : (0 : Int) < (n : Int) := by omega
  obtain ⟨x1, hx1⟩ : ∃ x, bs[1]? = some x := ⟨bs[1]'(by omega), List.getElem?_eq_getElem _⟩
  have c1 : v.cell? ⟨bb, off + 1, none⟩ = some (.int .u8 (nm bs 1 1)) := by rw [show nm bs 1 1 = (x1.toNat : Int) from bigN_one (i := 1) hx1]; exact hj 1 x1 hx1
  obtain ⟨p1, q1⟩ := nm_one (bs := bs) (a := 1) (by omega)
  have hi1 : (1 : Int) < (n : Int) := by omega
  obtain ⟨x2, hx2⟩ : ∃ x, bs[2]? = some x := ⟨bs[2]'(by omega), List.getElem?_eq_getElem _⟩
  have c2 : v.cell? ⟨bb, off + 2, none⟩ = some (.int .u8 (nm bs 2 1)) := by rw [show nm bs 2 1 = (x2.toNat : Int) from bigN_one (i := 2) hx2]; exact hj 2 x2 hx2
  obtain ⟨p2, q2⟩ := nm_one (bs := bs) (a := 2) (by omega)
  have hi2 : (2 : Int) < (n : Int) := by omega
  obtain ⟨x3, hx3⟩ : ∃ x, bs[3]? = some x := ⟨bs[3]'(by omega), List.getElem?_eq_getElem _⟩
  have c3 : v.cell? ⟨bb, off + 3, none⟩ = some (.int .u8 (nm bs 3 1)) := by rw [show nm bs 3 1 = (x3.toNat : Int) from bigN_one (i := 3) hx3]; exact hj 3 x3 hx3
  obtain ⟨p3, q3⟩ := nm_one (bs := bs) (a := 3) (by omega)
  have hi3 : (3 : Int) < (n : Int) := by omega
  obtain ⟨x4, hx4⟩ : ∃ x, bs[4]? = some x := ⟨bs[4]'(by omega), List.getElem?_eq_getElem _⟩
  have c4 : v.cell? ⟨bb, off + 4, none⟩ = some (.int .u8 (nm bs 4 1)) := by rw [show nm bs 4 1 = (x4.toNat : Int) from bigN_one (i := 4) hx4]; exact hj 4 x4 hx4
  obtain ⟨p4, q4⟩ := nm_one (bs := bs) (a := 4) (by omega)
  have hi4 : (4 : Int) < (n : Int) := by omega
  obtain ⟨x5, hx5⟩ : ∃ x, bs[5]? = some x := ⟨bs[5]'(by omega), List.getElem?_eq_getElem _⟩
  have c5 : v.cell? ⟨bb, off + 5, none⟩ = some (.int .u8 (nm bs 5 1)) := by rw [show nm bs 5 1 = (x5.toNat : Int) from bigN_one (i := 5) hx5]; exact hj 5 x5 hx5
  obtain ⟨p5, q5⟩ := nm_one (bs := bs) (a := 5) (by omega)
  have hi5 : (5 : Int) < (n : Int) := by omega
  have hi6' : (6 : Int) ≤ (n : Int) := by omega
  have e22 := nm_pair (bs := bs) (i := 2) (by omega)
  have e42 := nm_pair (bs := bs) (i := 4) (by omega)
  obtain ⟨p22, q22⟩ := nm_two (bs := bs) (a := 2) (by omega)
  obtain ⟨p42, q42⟩ := nm_two (bs := bs) (a := 4) (by omega)
  subst eA
  have HV := Lib.hid hv
  have HB := Lib.hid hbv
  have HC0 := Lib.hid c0
  have HC1 := Lib.hid c1
  have HC2 := Lib.hid c2
  have HC3 := Lib.hid c3
  have HC4 := Lib.hid c4
  have HC5 := Lib.hid c5
  have hbbv : bb < v.heap.size := Nat.lt_of_lt_of_le hbb hBv
  clear hv hb hbv hj c0 hx0 c1 hx1 c2 hx2 c3 hx3 c4 hx4 c5 hx5 
  go_enter Try.func37, Try.ntmps37
  go_wp2_with (first
    | ((with_reducible show wpList _ _ _ (Oper.mk (some 2) (Op.alloc _) _ _ _ _ :: _) _ _); refine wpList_alloc_agg rfl 56 rfl #[.int .i64 0, .int .i64 0, .int .i64 0, .int .i64 0, .slice none 0 0, .int .i64 0, .int .i64 0, .int .i64 0, .int .i64 0, .int .i64 0, .bool false] zeroCm ?_; rw [← HV.out]))
  refine Code.wp_mono (Q := Exit.then (fun a' w' => ∃ g4, (∃ y11 y12 y13 y14 y15 y16 y17 y18 y19 y20 y21 y22 y23 y24 y25 y26 y27 y28 y29 y30 y31 y32 y33 y34 y35 y36 y37 y38 y39 y40 y41 y42 y43 : Value, a' = { tmps := #[Value.slice (some ⟨bb, off, none⟩) n c, undef, Value.pointer (some ⟨w.heap.size, 0, none⟩), Value.bool false, Value.pointer (some ⟨g4, 0, none⟩), undef, undef, undef, undef, undef, undef, y11, y12, y13, y14, y15, y16, y17, y18, y19, y20, y21, y22, y23, y24, y25, y26, y27, y28, y29, y30, y31, y32, y33, y34, y35, y36, y37, y38, y39, y40, y41, y42, y43, undef, undef, undef, undef, undef, undef, undef, undef, undef, undef, undef, undef, undef, undef, undef, undef, undef, undef, undef, undef, undef, undef, undef, undef, undef, undef, undef, undef, undef, undef, undef, undef, undef, undef, undef, undef, undef, undef, undef, undef, undef, undef, undef, undef, undef, undef, undef, undef, undef, undef, undef, undef, undef, undef, undef, undef, undef, undef, undef], defers := [] }) ∧ Blk w' g4 56 #[.int .i64 (nm bs 0 1), .int .i64 (nm bs 1 1), .int .i64 (nm bs 2 2), .int .i64 (nm bs 4 2), .slice none 0 0, .int .i64 0, .int .i64 0, .int .i64 0, .int .i64 0, .int .i64 0, .bool false] ∧ v.heap.size ≤ g4 ∧ Below v.heap.size v w') (fun _ _ _ => False)) ?_ ?_
  rotate_left
  · refine (wpIn_wide (n := 4)).1 ?_
    refine wpIn_region_rel free_wide rfl 30 (fun W W' => Below W.heap.size W W') (fun W => Below v.heap.size v W)
      [Det (.slice (some ⟨bb, off, none⟩) n c), Det (.pointer (some ⟨bb, off, none⟩)), Det (.int .u8 (nm bs 0 1)), Det (.int .i64 (nm bs 0 1)), Det (.slice (some ⟨bb, off, none⟩) n c), Det (.pointer (some ⟨bb, off + 1, none⟩)), Det (.int .u8 (nm bs 1 1)), Det (.int .i64 (nm bs 1 1)), Det (.slice (some ⟨bb, off, none⟩) n c), Det (.pointer (some ⟨bb, off + 2, none⟩)), Det (.int .u8 (nm bs 2 1)), Det (.int .i64 (nm bs 2 1)), Det (.int .i64 (nm bs 2 1 * 256)), Det (.slice (some ⟨bb, off, none⟩) n c), Det (.pointer (some ⟨bb, off + 3, none⟩)), Det (.int .u8 (nm bs 3 1)), Det (.int .i64 (nm bs 3 1)), Det (.int .i64 (nm bs 2 2)), Det (.slice (some ⟨bb, off, none⟩) n c), Det (.pointer (some ⟨bb, off + 4, none⟩)), Det (.int .u8 (nm bs 4 1)), Det (.int .i64 (nm bs 4 1)), Det (.int .i64 (nm bs 4 1 * 256)), Det (.slice (some ⟨bb, off, none⟩) n c), Det (.pointer (some ⟨bb, off + 5, none⟩)), Det (.int .u8 (nm bs 5 1)), Det (.int .i64 (nm bs 5 1)), Det (.int .i64 (nm bs 4 2)), Det (.agg #[.int .i64 (nm bs 0 1), .int .i64 (nm bs 1 1), .int .i64 (nm bs 2 2), .int .i64 (nm bs 4 2), .slice none 0 0, .int .i64 0, .int .i64 0, .int .i64 0, .int .i64 0, .int .i64 0, .bool false]), RelZ v.heap.size 56 #[.int .i64 0, .int .i64 0, .int .i64 0, .int .i64 0, .slice none 0 0, .int .i64 0, .int .i64 0, .int .i64 0, .int .i64 0, .int .i64 0, .bool false], Any]
      [[], [(0, some 15)], [(1, some 16)], [(2, some 17)], [], [(4, some 19)], [(5, some 20)], [(6, some 21)], [], [(8, some 23)], [(9, some 24)], [(10, some 25)], [(11, some 26)], [], [(13, some 28)], [(14, some 29)], [(15, some 30)], [(12, some 27), (16, some 31)], [], [(18, some 33)], [(19, some 34)], [(20, some 35)], [(21, some 36)], [], [(23, some 38)], [(24, some 39)], [(25, some 40)], [(22, some 37), (26, some 41)], [(3, some 18), (7, some 22), (17, some 32), (27, some 42)], [], [(29, some 4), (28, some 43)]]
      [[], [0], [0, 1], [0, 1, 2], [], [4], [4, 5], [4, 5, 6], [], [8], [8, 9], [8, 9, 10], [8, 9, 10, 11], [], [13], [13, 14], [13, 14, 15], [8, 9, 10, 11, 12, 13, 14, 15, 16], [], [18], [18, 19], [18, 19, 20], [18, 19, 20, 21], [], [23], [23, 24], [23, 24, 25], [18, 19, 20, 21, 22, 23, 24, 25, 26], [0, 1, 2, 3, 4, 5, 6, 7, 8, 9, 10, 11, 12, 13, 14, 15, 16, 17, 18, 19, 20, 21, 22, 23, 24, 25, 26, 27], [], [0, 1, 2, 3, 4, 5, 6, 7, 8, 9, 10, 11, 12, 13, 14, 15, 16, 17, 18, 19, 20, 21, 22, 23, 24, 25, 26, 27, 28, 29]]
      [(0, some 15), (1, some 16), (2, some 17), (3, some 18), (4, some 19), (5, some 20), (6, some 21), (7, some 22), (8, some 23), (9, some 24), (10, some 25), (11, some 26), (12, some 27), (13, some 28), (14, some 29), (15, some 30), (16, some 31), (17, some 32), (18, some 33), (19, some 34), (20, some 35), (21, some 36), (22, some 37), (23, some 38), (24, some 39), (25, some 40), (26, some 41), (27, some 42), (28, some 43), (29, some 4), (30, none)] (by kernel_rfl) (by kernel_rfl) (by kernel_rfl) (fun W W' h1 h2 => h1.trans (h2.mono h1.size)) ((Below.refl _ _).drew) ?_ ?_ ?_
    · exact (AllMono.cons Det.later (AllMono.cons Det.later (AllMono.cons Det.later (AllMono.cons Det.later (AllMono.cons Det.later (AllMono.cons Det.later (AllMono.cons Det.later (AllMono.cons Det.later (AllMono.cons Det.later (AllMono.cons Det.later (AllMono.cons Det.later (AllMono.cons Det.later (AllMono.cons Det.later (AllMono.cons Det.later (AllMono.cons Det.later (AllMono.cons Det.later (AllMono.cons Det.later (AllMono.cons Det.later (AllMono.cons Det.later (AllMono.cons Det.later (AllMono.cons Det.later (AllMono.cons Det.later (AllMono.cons Det.later (AllMono.cons Det.later (AllMono.cons Det.later (AllMono.cons Det.later (AllMono.cons Det.later (AllMono.cons Det.later (AllMono.cons Det.later (AllMono.cons RelZ.later (AllMono.cons Any.later AllMono.nil)))))))))))))))))))))))))))))))
    · refine AllOb.cons ?_ (AllOb.cons ?_ (AllOb.cons ?_ (AllOb.cons ?_ (AllOb.cons ?_ (AllOb.cons ?_ (AllOb.cons ?_ (AllOb.cons ?_ (AllOb.cons ?_ (AllOb.cons ?_ (AllOb.cons ?_ (AllOb.cons ?_ (AllOb.cons ?_ (AllOb.cons ?_ (AllOb.cons ?_ (AllOb.cons ?_ (AllOb.cons ?_ (AllOb.cons ?_ (AllOb.cons ?_ (AllOb.cons ?_ (AllOb.cons ?_ (AllOb.cons ?_ (AllOb.cons ?_ (AllOb.cons ?_ (AllOb.cons ?_ (AllOb.cons ?_ (AllOb.cons ?_ (AllOb.cons ?_ (AllOb.cons ?_ (AllOb.cons ?_ (AllOb.nil))))))))))))))))))))))))))))))
      · intro uF W hC' hU aF hF
        have hC : Below v.heap.size v W := hC'
        clear hC'
        simp only [puts] at hF
        subst hF
        go_wp2_with (fail)
        exact ⟨rfl, rfl, (Below.refl _ _), rfl⟩
      · intro uF W hC' hU aF hF
        have hC : Below v.heap.size v W := hC'
        clear hC'
        have h15 : (Det (.slice (some ⟨bb, off, none⟩) n c)) (uF 0) W := hU.1
        clear hU
        simp only [puts, Act.put, List.setIfInBounds_toArray, List.set_cons_zero, List.set_cons_succ] at hF
        generalize uF 0 = x15 at h15 hF
        obtain rfl : x15 = (.slice (some ⟨bb, off, none⟩) n c) := h15
        subst hF
        go_wp2_with (fail)
        exact ⟨rfl, rfl, (Below.refl _ _), rfl⟩
      · intro uF W hC' hU aF hF
        have hC : Below v.heap.size v W := hC'
        clear hC'
        have h16 : (Det (.pointer (some ⟨bb, off, none⟩))) (uF 1) W := hU.1
        clear hU
        simp only [puts, Act.put, List.setIfInBounds_toArray, List.set_cons_zero, List.set_cons_succ] at hF
        generalize uF 1 = x16 at h16 hF
        obtain rfl : x16 = (.pointer (some ⟨bb, off, none⟩)) := h16
        subst hF
        have k0 := (hC.cell (show (⟨bb, off, none⟩ : Addr).block < v.heap.size from hbbv)).trans HC0.out
        go_wp2_with (fail)
        exact ⟨rfl, rfl, (Below.refl _ _), rfl⟩
      · intro uF W hC' hU aF hF
        have hC : Below v.heap.size v W := hC'
        clear hC'
        have h17 : (Det (.int .u8 (nm bs 0 1))) (uF 2) W := hU.1
        clear hU
        simp only [puts, Act.put, List.setIfInBounds_toArray, List.set_cons_zero, List.set_cons_succ] at hF
        generalize uF 2 = x17 at h17 hF
        obtain rfl : x17 = (.int .u8 (nm bs 0 1)) := h17
        subst hF
        go_wp2_with (fail)
        exact ⟨rfl, rfl, (Below.refl _ _), rfl⟩
      · intro uF W hC' hU aF hF
        have hC : Below v.heap.size v W := hC'
        clear hC'
        simp only [puts] at hF
        subst hF
        go_wp2_with (fail)
        exact ⟨rfl, rfl, (Below.refl _ _), rfl⟩
      · intro uF W hC' hU aF hF
        have hC : Below v.heap.size v W := hC'
        clear hC'
        have h19 : (Det (.slice (some ⟨bb, off, none⟩) n c)) (uF 4) W := hU.1
        clear hU
        simp only [puts, Act.put, List.setIfInBounds_toArray, List.set_cons_zero, List.set_cons_succ] at hF
        generalize uF 4 = x19 at h19 hF
        obtain rfl : x19 = (.slice (some ⟨bb, off, none⟩) n c) := h19
        subst hF
        go_wp2_with (fail)
        exact ⟨rfl, rfl, (Below.refl _ _), rfl⟩
      · intro uF W hC' hU aF hF
        have hC : Below v.heap.size v W := hC'
        clear hC'
        have h20 : (Det (.pointer (some ⟨bb, off + 1, none⟩))) (uF 5) W := hU.1
        clear hU
        simp only [puts, Act.put, List.setIfInBounds_toArray, List.set_cons_zero, List.set_cons_succ] at hF
        generalize uF 5 = x20 at h20 hF
        obtain rfl : x20 = (.pointer (some ⟨bb, off + 1, none⟩)) := h20
        subst hF
        have k0 := (hC.cell (show (⟨bb, off + 1, none⟩ : Addr).block < v.heap.size from hbbv)).trans HC1.out
        go_wp2_with (fail)
        exact ⟨rfl, rfl, (Below.refl _ _), rfl⟩
      · intro uF W hC' hU aF hF
        have hC : Below v.heap.size v W := hC'
        clear hC'
        have h21 : (Det (.int .u8 (nm bs 1 1))) (uF 6) W := hU.1
        clear hU
        simp only [puts, Act.put, List.setIfInBounds_toArray, List.set_cons_zero, List.set_cons_succ] at hF
        generalize uF 6 = x21 at h21 hF
        obtain rfl : x21 = (.int .u8 (nm bs 1 1)) := h21
        subst hF
        go_wp2_with (fail)
        exact ⟨rfl, rfl, (Below.refl _ _), rfl⟩
      · intro uF W hC' hU aF hF
        have hC : Below v.heap.size v W := hC'
        clear hC'
        simp only [puts] at hF
        subst hF
        go_wp2_with (fail)
        exact ⟨rfl, rfl, (Below.refl _ _), rfl⟩
      · intro uF W hC' hU aF hF
        have hC : Below v.heap.size v W := hC'
        clear hC'
        have h23 : (Det (.slice (some ⟨bb, off, none⟩) n c)) (uF 8) W := hU.1
        clear hU
        simp only [puts, Act.put, List.setIfInBounds_toArray, List.set_cons_zero, List.set_cons_succ] at hF
        generalize uF 8 = x23 at h23 hF
        obtain rfl : x23 = (.slice (some ⟨bb, off, none⟩) n c) := h23
        subst hF
        go_wp2_with (fail)
        exact ⟨rfl, rfl, (Below.refl _ _), rfl⟩
      · intro uF W hC' hU aF hF
        have hC : Below v.heap.size v W := hC'
        clear hC'
        have h24 : (Det (.pointer (some ⟨bb, off + 2, none⟩))) (uF 9) W := hU.1
        clear hU
        simp only [puts, Act.put, List.setIfInBounds_toArray, List.set_cons_zero, List.set_cons_succ] at hF
        generalize uF 9 = x24 at h24 hF
        obtain rfl : x24 = (.pointer (some ⟨bb, off + 2, none⟩)) := h24
        subst hF
        have k0 := (hC.cell (show (⟨bb, off + 2, none⟩ : Addr).block < v.heap.size from hbbv)).trans HC2.out
        go_wp2_with (fail)
        exact ⟨rfl, rfl, (Below.refl _ _), rfl⟩
      · intro uF W hC' hU aF hF
        have hC : Below v.heap.size v W := hC'
        clear hC'
        have h25 : (Det (.int .u8 (nm bs 2 1))) (uF 10) W := hU.1
        clear hU
        simp only [puts, Act.put, List.setIfInBounds_toArray, List.set_cons_zero, List.set_cons_succ] at hF
        generalize uF 10 = x25 at h25 hF
        obtain rfl : x25 = (.int .u8 (nm bs 2 1)) := h25
        subst hF
        go_wp2_with (fail)
        exact ⟨rfl, rfl, (Below.refl _ _), rfl⟩
      · intro uF W hC' hU aF hF
        have hC : Below v.heap.size v W := hC'
        clear hC'
        have h26 : (Det (.int .i64 (nm bs 2 1))) (uF 11) W := hU.1
        clear hU
        simp only [puts, Act.put, List.setIfInBounds_toArray, List.set_cons_zero, List.set_cons_succ] at hF
        generalize uF 11 = x26 at h26 hF
        obtain rfl : x26 = (.int .i64 (nm bs 2 1)) := h26
        subst hF
        go_wp2_with (fail)
        exact ⟨rfl, rfl, (Below.refl _ _), rfl⟩
      · intro uF W hC' hU aF hF
        have hC : Below v.heap.size v W := hC'
        clear hC'
        simp only [puts] at hF
        subst hF
        go_wp2_with (fail)
        exact ⟨rfl, rfl, (Below.refl _ _), rfl⟩
      · intro uF W hC' hU aF hF
        have hC : Below v.heap.size v W := hC'
        clear hC'
        have h28 : (Det (.slice (some ⟨bb, off, none⟩) n c)) (uF 13) W := hU.1
        clear hU
        simp only [puts, Act.put, List.setIfInBounds_toArray, List.set_cons_zero, List.set_cons_succ] at hF
        generalize uF 13 = x28 at h28 hF
        obtain rfl : x28 = (.slice (some ⟨bb, off, none⟩) n c) := h28
        subst hF
        go_wp2_with (fail)
        exact ⟨rfl, rfl, (Below.refl _ _), rfl⟩
      · intro uF W hC' hU aF hF
        have hC : Below v.heap.size v W := hC'
        clear hC'
        have h29 : (Det (.pointer (some ⟨bb, off + 3, none⟩))) (uF 14) W := hU.1
        clear hU
        simp only [puts, Act.put, List.setIfInBounds_toArray, List.set_cons_zero, List.set_cons_succ] at hF
        generalize uF 14 = x29 at h29 hF
        obtain rfl : x29 = (.pointer (some ⟨bb, off + 3, none⟩)) := h29
        subst hF
        have k0 := (hC.cell (show (⟨bb, off + 3, none⟩ : Addr).block < v.heap.size from hbbv)).trans HC3.out
        go_wp2_with (fail)
        exact ⟨rfl, rfl, (Below.refl _ _), rfl⟩
      · intro uF W hC' hU aF hF
        have hC : Below v.heap.size v W := hC'
        clear hC'
        have h30 : (Det (.int .u8 (nm bs 3 1))) (uF 15) W := hU.1
        clear hU
        simp only [puts, Act.put, List.setIfInBounds_toArray, List.set_cons_zero, List.set_cons_succ] at hF
        generalize uF 15 = x30 at h30 hF
        obtain rfl : x30 = (.int .u8 (nm bs 3 1)) := h30
        subst hF
        go_wp2_with (fail)
        exact ⟨rfl, rfl, (Below.refl _ _), rfl⟩
      · intro uF W hC' hU aF hF
        have hC : Below v.heap.size v W := hC'
        clear hC'
        have h27 : (Det (.int .i64 (nm bs 2 1 * 256))) (uF 12) W := hU.1
        have h31 : (Det (.int .i64 (nm bs 3 1))) (uF 16) W := hU.2.1
        clear hU
        simp only [puts, Act.put, List.setIfInBounds_toArray, List.set_cons_zero, List.set_cons_succ] at hF
        generalize uF 12 = x27 at h27 hF
        generalize uF 16 = x31 at h31 hF
        obtain rfl : x27 = (.int .i64 (nm bs 2 1 * 256)) := h27
        obtain rfl : x31 = (.int .i64 (nm bs 3 1)) := h31
        subst hF
        go_wp2_with (fail)
        exact ⟨rfl, rfl, (Below.refl _ _), rfl⟩
      · intro uF W hC' hU aF hF
        have hC : Below v.heap.size v W := hC'
        clear hC'
        simp only [puts] at hF
        subst hF
        go_wp2_with (fail)
        exact ⟨rfl, rfl, (Below.refl _ _), rfl⟩
      · intro uF W hC' hU aF hF
        have hC : Below v.heap.size v W := hC'
        clear hC'
        have h33 : (Det (.slice (some ⟨bb, off, none⟩) n c)) (uF 18) W := hU.1
        clear hU
        simp only [puts, Act.put, List.setIfInBounds_toArray, List.set_cons_zero, List.set_cons_succ] at hF
        generalize uF 18 = x33 at h33 hF
        obtain rfl : x33 = (.slice (some ⟨bb, off, none⟩) n c) := h33
        subst hF
        go_wp2_with (fail)
        exact ⟨rfl, rfl, (Below.refl _ _), rfl⟩
      · intro uF W hC' hU aF hF
        have hC : Below v.heap.size v W := hC'
        clear hC'
        have h34 : (Det (.pointer (some ⟨bb, off + 4, none⟩))) (uF 19) W := hU.1
        clear hU
        simp only [puts, Act.put, List.setIfInBounds_toArray, List.set_cons_zero, List.set_cons_succ] at hF
        generalize uF 19 = x34 at h34 hF
        obtain rfl : x34 = (.pointer (some ⟨bb, off + 4, none⟩)) := h34
        subst hF
        have k0 := (hC.cell (show (⟨bb, off + 4, none⟩ : Addr).block < v.heap.size from hbbv)).trans HC4.out
        go_wp2_with (fail)
        exact ⟨rfl, rfl, (Below.refl _ _), rfl⟩
      · intro uF W hC' hU aF hF
        have hC : Below v.heap.size v W := hC'
        clear hC'
        have h35 : (Det (.int .u8 (nm bs 4 1))) (uF 20) W := hU.1
        clear hU
        simp only [puts, Act.put, List.setIfInBounds_toArray, List.set_cons_zero, List.set_cons_succ] at hF
        generalize uF 20 = x35 at h35 hF
        obtain rfl : x35 = (.int .u8 (nm bs 4 1)) := h35
        subst hF
        go_wp2_with (fail)
        exact ⟨rfl, rfl, (Below.refl _ _), rfl⟩
      · intro uF W hC' hU aF hF
        have hC : Below v.heap.size v W := hC'
        clear hC'
        have h36 : (Det (.int .i64 (nm bs 4 1))) (uF 21) W := hU.1
        clear hU
        simp only [puts, Act.put, List.setIfInBounds_toArray, List.set_cons_zero, List.set_cons_succ] at hF
        generalize uF 21 = x36 at h36 hF
        obtain rfl : x36 = (.int .i64 (nm bs 4 1)) := h36
        subst hF
        go_wp2_with (fail)
        exact ⟨rfl, rfl, (Below.refl _ _), rfl⟩
      · intro uF W hC' hU aF hF
        have hC : Below v.heap.size v W := hC'
        clear hC'
        simp only [puts] at hF
        subst hF
        go_wp2_with (fail)
        exact ⟨rfl, rfl, (Below.refl _ _), rfl⟩
      · intro uF W hC' hU aF hF
        have hC : Below v.heap.size v W := hC'
        clear hC'
        have h38 : (Det (.slice (some ⟨bb, off, none⟩) n c)) (uF 23) W := hU.1
        clear hU
        simp only [puts, Act.put, List.setIfInBounds_toArray, List.set_cons_zero, List.set_cons_succ] at hF
        generalize uF 23 = x38 at h38 hF
        obtain rfl : x38 = (.slice (some ⟨bb, off, none⟩) n c) := h38
        subst hF
        go_wp2_with (fail)
        exact ⟨rfl, rfl, (Below.refl _ _), rfl⟩
      · intro uF W hC' hU aF hF
        have hC : Below v.heap.size v W := hC'
        clear hC'
        have h39 : (Det (.pointer (some ⟨bb, off + 5, none⟩))) (uF 24) W := hU.1
        clear hU
        simp only [puts, Act.put, List.setIfInBounds_toArray, List.set_cons_zero, List.set_cons_succ] at hF
        generalize uF 24 = x39 at h39 hF
        obtain rfl : x39 = (.pointer (some ⟨bb, off + 5, none⟩)) := h39
        subst hF
        have k0 := (hC.cell (show (⟨bb, off + 5, none⟩ : Addr).block < v.heap.size from hbbv)).trans HC5.out
        go_wp2_with (fail)
        exact ⟨rfl, rfl, (Below.refl _ _), rfl⟩
      · intro uF W hC' hU aF hF
        have hC : Below v.heap.size v W := hC'
        clear hC'
        have h40 : (Det (.int .u8 (nm bs 5 1))) (uF 25) W := hU.1
        clear hU
        simp only [puts, Act.put, List.setIfInBounds_toArray, List.set_cons_zero, List.set_cons_succ] at hF
        generalize uF 25 = x40 at h40 hF
        obtain rfl : x40 = (.int .u8 (nm bs 5 1)) := h40
        subst hF
        go_wp2_with (fail)
        exact ⟨rfl, rfl, (Below.refl _ _), rfl⟩
      · intro uF W hC' hU aF hF
        have hC : Below v.heap.size v W := hC'
        clear hC'
        have h37 : (Det (.int .i64 (nm bs 4 1 * 256))) (uF 22) W := hU.1
        have h41 : (Det (.int .i64 (nm bs 5 1))) (uF 26) W := hU.2.1
        clear hU
        simp only [puts, Act.put, List.setIfInBounds_toArray, List.set_cons_zero, List.set_cons_succ] at hF
        generalize uF 22 = x37 at h37 hF
        generalize uF 26 = x41 at h41 hF
        obtain rfl : x37 = (.int .i64 (nm bs 4 1 * 256)) := h37
        obtain rfl : x41 = (.int .i64 (nm bs 5 1)) := h41
        subst hF
        go_wp2_with (fail)
        exact ⟨rfl, rfl, (Below.refl _ _), rfl⟩
      · intro uF W hC' hU aF hF
        have hC : Below v.heap.size v W := hC'
        clear hC'
        have h18 : (Det (.int .i64 (nm bs 0 1))) (uF 3) W := hU.1
        have h22 : (Det (.int .i64 (nm bs 1 1))) (uF 7) W := hU.2.1
        have h32 : (Det (.int .i64 (nm bs 2 2))) (uF 17) W := hU.2.2.1
        have h42 : (Det (.int .i64 (nm bs 4 2))) (uF 27) W := hU.2.2.2.1
        clear hU
        simp only [puts, Act.put, List.setIfInBounds_toArray, List.set_cons_zero, List.set_cons_succ] at hF
        generalize uF 3 = x18 at h18 hF
        generalize uF 7 = x22 at h22 hF
        generalize uF 17 = x32 at h32 hF
        generalize uF 27 = x42 at h42 hF
        obtain rfl : x18 = (.int .i64 (nm bs 0 1)) := h18
        obtain rfl : x22 = (.int .i64 (nm bs 1 1)) := h22
        obtain rfl : x32 = (.int .i64 (nm bs 2 2)) := h32
        obtain rfl : x42 = (.int .i64 (nm bs 4 2)) := h42
        subst hF
        go_wp2_with (fail)
        exact ⟨rfl, rfl, (Below.refl _ _), rfl⟩
      · intro uF W hC' hU aF hF
        have hC : Below v.heap.size v W := hC'
        clear hC'
        simp only [puts] at hF
        subst hF
        go_wp2_with (((with_reducible show wpList _ _ _ (Oper.mk (some 4) (Op.alloc _) _ _ _ _ :: _) _ _); refine wpList_alloc_agg (by rfl) 56 rfl #[.int .i64 0, .int .i64 0, .int .i64 0, .int .i64 0, .slice none 0 0, .int .i64 0, .int .i64 0, .int .i64 0, .int .i64 0, .int .i64 0, .bool false] zeroCm ?_))
        exact ⟨rfl, rfl, (below_alloc _ _), ⟨_, rfl, hC.size, Blk.new _ _ _⟩⟩
    intro uF W5 hC' hU aF hF
    have hCW5 : Below v.heap.size v W5 := hC'
    clear hC'
    have h43 : (Det (.agg #[.int .i64 (nm bs 0 1), .int .i64 (nm bs 1 1), .int .i64 (nm bs 2 2), .int .i64 (nm bs 4 2), .slice none 0 0, .int .i64 0, .int .i64 0, .int .i64 0, .int .i64 0, .int .i64 0, .bool false])) (uF 28) W5 := hU.2.2.2.2.2.2.2.2.2.2.2.2.2.2.2.2.2.2.2.2.2.2.2.2.2.2.2.2.1
    have h4 : (RelZ v.heap.size 56 #[.int .i64 0, .int .i64 0, .int .i64 0, .int .i64 0, .slice none 0 0, .int .i64 0, .int .i64 0, .int .i64 0, .int .i64 0, .int .i64 0, .bool false]) (uF 29) W5 := hU.2.2.2.2.2.2.2.2.2.2.2.2.2.2.2.2.2.2.2.2.2.2.2.2.2.2.2.2.2.1
    clear hU
    simp only [List.take_succ_cons, List.take_zero, puts, Act.put, List.setIfInBounds_toArray, List.set_cons_zero, List.set_cons_succ] at hF
    generalize uF 0 = x15 at hF
    generalize uF 1 = x16 at hF
    generalize uF 2 = x17 at hF
    generalize uF 3 = x18 at hF
    generalize uF 4 = x19 at hF
    generalize uF 5 = x20 at hF
    generalize uF 6 = x21 at hF
    generalize uF 7 = x22 at hF
    generalize uF 8 = x23 at hF
    generalize uF 9 = x24 at hF
    generalize uF 10 = x25 at hF
    generalize uF 11 = x26 at hF
    generalize uF 12 = x27 at hF
    generalize uF 13 = x28 at hF
    generalize uF 14 = x29 at hF
    generalize uF 15 = x30 at hF
    generalize uF 16 = x31 at hF
    generalize uF 17 = x32 at hF
    generalize uF 18 = x33 at hF
    generalize uF 19 = x34 at hF
    generalize uF 20 = x35 at hF
    generalize uF 21 = x36 at hF
    generalize uF 22 = x37 at hF
    generalize uF 23 = x38 at hF
    generalize uF 24 = x39 at hF
    generalize uF 25 = x40 at hF
    generalize uF 26 = x41 at hF
    generalize uF 27 = x42 at hF
    generalize uF 28 = x43 at h43 hF
    generalize uF 29 = x4 at h4 hF
    obtain rfl : x43 = (.agg #[.int .i64 (nm bs 0 1), .int .i64 (nm bs 1 1), .int .i64 (nm bs 2 2), .int .i64 (nm bs 4 2), .slice none 0 0, .int .i64 0, .int .i64 0, .int .i64 0, .int .i64 0, .int .i64 0, .bool false]) := h43
    obtain ⟨g4, rfl, z4, b4⟩ := h4
    subst hF
    simp only [List.drop_succ_cons, List.drop_zero]
    refine wpListIn_of free_wide (fun ⟨_, _, h⟩ => h) rfl ?_
    refine wpList_store_whole rfl 56 (.tmp 4) (.tmp 43) rfl g4 rfl [.int .i64 (nm bs 0 1), .int .i64 (nm bs 1 1), .int .i64 (nm bs 2 2), .int .i64 (nm bs 4 2), .slice none 0 0, .int .i64 0, .int .i64 0, .int .i64 0, .int .i64 0, .int .i64 0, .bool false] rfl aggCm rfl _ _ b4 rfl (by simp [Value.oneCell']) ?_
    intro w4 hb4 hg4 hs4
    exact wpList_nil ⟨g4, ⟨_, _, _, _, _, _, _, _, _, _, _, _, _, _, _, _, _, _, _, _, _, _, _, _, _, _, _, _, _, _, _, _, _, rfl⟩, hb4, z4, hCW5.grown hg4 hCW5.size (fun k hk => by cases hk; exact z4)⟩
  rintro e a' w4 h
  clear e22 e42
  cases e with
  | normal =>
    obtain ⟨g4, ⟨y11, y12, y13, y14, y15, y16, y17, y18, y19, y20, y21, y22, y23, y24, y25, y26, y27, y28, y29, y30, y31, y32, y33, y34, y35, y36, y37, y38, y39, y40, y41, y42, y43, rfl⟩, hb4, hg4, hw4⟩ := h
    have hw4w := hwv.trans (hw4.mono hz)
    have hz4 := hw4.size
    have b24 := b2.below hw4 b2.lt
    have b2lt := b2.lt
    have k0 : w4.cell? ⟨g4, 0, none⟩ = some (.int .i64 (nm bs 0 1)) := by rw [hb4.cell]; rfl
    have k4 : w4.cell? ⟨g4, 4, none⟩ = some (.slice none 0 0) := by rw [hb4.cell]; rfl
    have f4 := hb4.frozen 4
    have hbl := hb4.lt
    have e0 : (nm bs 0 1 == 2) = false := by rw [h6]; rfl
    have hne : ((n : Int) != 25) = true := by simp; omega
    rw [h6] at k0
    go_wp2_with (first
      | ((with_reducible show wpList _ _ _ (Oper.mk none (Op.store 56 (.tmp 2) (.tmp 58)) _ _ _ _ :: _) _ _); refine wpList_store_whole rfl 56 (.tmp 2) (.tmp 58) rfl w.heap.size rfl [.int .i64 0, .int .i64 0, .int .i64 0, .int .i64 0, .slice none 0 0, .int .i64 0, .int .i64 0, .int .i64 0, .int .i64 0, .int .i64 0, .bool false] rfl aggCm rfl _ _ b24 rfl (by simp [Value.oneCell']) ?_; intro wf bf gf sf))
    refine bodyPost_ret (results_cell_tmp rfl _ w.heap.size _ #[.int .i64 0, .int .i64 0, .int .i64 0, .int .i64 0, .slice none 0 0, .int .i64 0, .int .i64 0, .int .i64 0, .int .i64 0, .int .i64 0, .bool false] aggCm rfl rfl bf) rfl ⟨rfl, ?_⟩
    exact hw4w.grown gf hw4w.size (fun k hk => by cases hk; exact Nat.le_refl _)
  | _ => exact h.elim
set_option maxHeartbeats 4000000 in
theorem crefdec_two_yes {w : World} {B : Nat} {A : Option Addr} {n c : Nat} {bs : List UInt8} (hb : SlB w B A n c bs) (hB : B ≤ w.heap.size) (hn : n ≤ 1048576) (h1 : 6 ≤ n) (h2 : nm bs 0 1 = 2) (hgood : goodC 2 (nm bs 1 1) (nm bs 2 2) (nm bs 4 2) (n - 6) 0 0 0 0 0 false) (heq : (cmB 2 (nm bs 1 1) (nm bs 2 2) (nm bs 4 2) 0 0 0 0 false (bs.drop 6) == bs) = true) :
    Calls Try.prog 37 #[.slice A n c] w fun e w' => ∃ A' m' c', e = .returned (.tuple #[.agg #[.int .i64 2, .int .i64 (nm bs 1 1), .int .i64 (nm bs 2 2), .int .i64 (nm bs 4 2), .slice A' m' c', .int .i64 0, .int .i64 0, .int .i64 0, .int .i64 0, .int .i64 0, .bool false], .bool true]) ∧ OwB w' w.heap.size A' m' c' (bs.drop 6) ∧ Below w.heap.size w w' := by
  have hlen := hb.len
  have hcap := hb.le
  have hcm : c ≤ 9223372036854775807 := hb.cap
  obtain ⟨v, hv⟩ : ∃ v, v = w.alloc (.cells #[.int .i64 0, .int .i64 0, .int .i64 0, .int .i64 0, .slice none 0 0, .int .i64 0, .int .i64 0, .int .i64 0, .int .i64 0, .int .i64 0, .bool false] 56) := ⟨_, rfl⟩
  have b2 : Blk v w.heap.size 56 #[.int .i64 0, .int .i64 0, .int .i64 0, .int .i64 0, .slice none 0 0, .int .i64 0, .int .i64 0, .int .i64 0, .int .i64 0, .int .i64 0, .bool false] := by rw [hv]; exact Blk.new _ _ _
  have hwv : Below w.heap.size w v := by rw [hv]; exact below_alloc _ _
  have hz := hwv.size
  have hbv := hb.below (hwv.mono hB)
  have hBv := Nat.le_trans hB hz
  obtain ⟨bb, off, eA, hbb, hj⟩ := hbv.at_ (by omega)
  obtain ⟨AT6, hAT6, hsl6⟩ := hbv.tailRun (lo := 6) (by omega)
  rw [show ((6 : Nat) : Int) = 6 from rfl] at hsl6
  obtain ⟨x0, hx0⟩ : ∃ x, bs[0]? = some x := ⟨bs[0]'(by omega), List.getElem?_eq_getElem _⟩
  have c0 : v.cell? ⟨bb, off, none⟩ = some (.int .u8 (nm bs 0 1)) := by rw [show nm bs 0 1 = (x0.toNat : Int) from bigN_one (i := 0) hx0]; exact hj 0 x0 hx0
  obtain ⟨p0, q0⟩ := nm_one (bs := bs) (a := 0) (by omega)
  have hi0 : (0 : Int) < (n : Int) := by omega
  obtain ⟨x1, hx1⟩ : ∃ x, bs[1]? = some x := ⟨bs[1]'(by omega), List.getElem?_eq_getElem _⟩
  have c1 : v.cell? ⟨bb, off + 1, none⟩ = some (.int .u8 (nm bs 1 1)) := by rw [show nm bs 1 1 = (x1.toNat : Int) from bigN_one (i := 1) hx1]; exact hj 1 x1 hx1
  obtain ⟨p1, q1⟩ := nm_one (bs := bs) (a := 1) (by omega)
  have hi1 : (1 : Int) < (n : Int) := by omega
  obtain ⟨x2, hx2⟩ : ∃ x, bs[2]? = some x := ⟨bs[2]'(by omega), List.getElem?_eq_getElem _⟩
  have c2 : v.cell? ⟨bb, off + 2, none⟩ = some (.int .u8 (nm bs 2 1)) := by rw [show nm bs 2 1 = (x2.toNat : Int) from bigN_one (i := 2) hx2]; exact hj 2 x2 hx2
  obtain ⟨p2, q2⟩ := nm_one (bs := bs) (a := 2) (by omega)
  have hi2 : (2 : Int) < (n : Int) := by omega
  obtain ⟨x3, hx3⟩ : ∃ x, bs[3]? = some x := ⟨bs[3]'(by omega), List.getElem?_eq_getElem _⟩
  have c3 : v.cell? ⟨bb, off + 3, none⟩ = some (.int .u8 (nm bs 3 1)) := by rw [show nm bs 3 1 = (x3.toNat : Int) from bigN_one (i := 3) hx3]; exact hj 3 x3 hx3
  obtain ⟨p3, q3⟩ := nm_one (bs := bs) (a := 3) (by omega)
  have hi3 : (3 : Int) < (n : Int) := by omega
  obtain ⟨x4, hx4⟩ : ∃ x, bs[4]? = some x := ⟨bs[4]'(by omega), List.getElem?_eq_getElem _⟩
  have c4 : v.cell? ⟨bb, off + 4, none⟩ = some (.int .u8 (nm bs 4 1)) := by rw [show nm bs 4 1 = (x4.toNat : Int) from bigN_one (i := 4) hx4]; exact hj 4 x4 hx4
  obtain ⟨p4, q4⟩ := nm_one (bs := bs) (a := 4) (by omega)
  have hi4 : (4 : Int) < (n : Int) := by omega
  obtain ⟨x5, hx5⟩ : ∃ x, bs[5]? = some x := ⟨bs[5]'(by omega), List.getElem?_eq_getElem _⟩
  have c5 : v.cell? ⟨bb, off + 5, none⟩ = some (.int .u8 (nm bs 5 1)) := by rw [show nm bs 5 1 = (x5.toNat : Int) from bigN_one (i := 5) hx5]; exact hj 5 x5 hx5
  obtain ⟨p5, q5⟩ := nm_one (bs := bs) (a := 5) (by omega)
  have hi5 : (5 : Int) < (n : Int) := by omega
  have hi6' : (6 : Int) ≤ (n : Int) := by omega
  have e22 := nm_pair (bs := bs) (i := 2) (by omega)
  have e42 := nm_pair (bs := bs) (i := 4) (by omega)
  obtain ⟨p22, q22⟩ := nm_two (bs := bs) (a := 2) (by omega)
  obtain ⟨p42, q42⟩ := nm_two (bs := bs) (a := 4) (by omega)
  subst eA
  have HV := Lib.hid hv
  have HB := Lib.hid hbv
  have HC0 := Lib.hid c0
  have HC1 := Lib.hid c1
  have HC2 := Lib.hid c2
  have HC3 := Lib.hid c3
  have HC4 := Lib.hid c4
  have HC5 := Lib.hid c5
  have H6 := Lib.hid hAT6
  have hbbv : bb < v.heap.size := Nat.lt_of_lt_of_le hbb hBv
  clear hv hb hbv hj c0 hx0 c1 hx1 c2 hx2 c3 hx3 c4 hx4 c5 hx5 hAT6
  go_enter Try.func37, Try.ntmps37
  go_wp2_with (first
    | ((with_reducible show wpList _ _ _ (Oper.mk (some 2) (Op.alloc _) _ _ _ _ :: _) _ _); refine wpList_alloc_agg rfl 56 rfl #[.int .i64 0, .int .i64 0, .int .i64 0, .int .i64 0, .slice none 0 0, .int .i64 0, .int .i64 0, .int .i64 0, .int .i64 0, .int .i64 0, .bool false] zeroCm ?_; rw [← HV.out]))
  refine Code.wp_mono (Q := Exit.then (fun a' w' => ∃ g4, (∃ y11 y12 y13 y14 y15 y16 y17 y18 y19 y20 y21 y22 y23 y24 y25 y26 y27 y28 y29 y30 y31 y32 y33 y34 y35 y36 y37 y38 y39 y40 y41 y42 y43 : Value, a' = { tmps := #[Value.slice (some ⟨bb, off, none⟩) n c, undef, Value.pointer (some ⟨w.heap.size, 0, none⟩), Value.bool false, Value.pointer (some ⟨g4, 0, none⟩), undef, undef, undef, undef, undef, undef, y11, y12, y13, y14, y15, y16, y17, y18, y19, y20, y21, y22, y23, y24, y25, y26, y27, y28, y29, y30, y31, y32, y33, y34, y35, y36, y37, y38, y39, y40, y41, y42, y43, undef, undef, undef, undef, undef, undef, undef, undef, undef, undef, undef, undef, undef, undef, undef, undef, undef, undef, undef, undef, undef, undef, undef, undef, undef, undef, undef, undef, undef, undef, undef, undef, undef, undef, undef, undef, undef, undef, undef, undef, undef, undef, undef, undef, undef, undef, undef, undef, undef, undef, undef, undef, undef, undef, undef, undef, undef, undef, undef], defers := [] }) ∧ Blk w' g4 56 #[.int .i64 (nm bs 0 1), .int .i64 (nm bs 1 1), .int .i64 (nm bs 2 2), .int .i64 (nm bs 4 2), .slice none 0 0, .int .i64 0, .int .i64 0, .int .i64 0, .int .i64 0, .int .i64 0, .bool false] ∧ v.heap.size ≤ g4 ∧ Below v.heap.size v w') (fun _ _ _ => False)) ?_ ?_
  rotate_left
  · refine (wpIn_wide (n := 4)).1 ?_
    refine wpIn_region_rel free_wide rfl 30 (fun W W' => Below W.heap.size W W') (fun W => Below v.heap.size v W)
      [Det (.slice (some ⟨bb, off, none⟩) n c), Det (.pointer (some ⟨bb, off, none⟩)), Det (.int .u8 (nm bs 0 1)), Det (.int .i64 (nm bs 0 1)), Det (.slice (some ⟨bb, off, none⟩) n c), Det (.pointer (some ⟨bb, off + 1, none⟩)), Det (.int .u8 (nm bs 1 1)), Det (.int .i64 (nm bs 1 1)), Det (.slice (some ⟨bb, off, none⟩) n c), Det (.pointer (some ⟨bb, off + 2, none⟩)), Det (.int .u8 (nm bs 2 1)), Det (.int .i64 (nm bs 2 1)), Det (.int .i64 (nm bs 2 1 * 256)), Det (.slice (some ⟨bb, off, none⟩) n c), Det (.pointer (some ⟨bb, off + 3, none⟩)), Det (.int .u8 (nm bs 3 1)), Det (.int .i64 (nm bs 3 1)), Det (.int .i64 (nm bs 2 2)), Det (.slice (some ⟨bb, off, none⟩) n c), Det (.pointer (some ⟨bb, off + 4, none⟩)), Det (.int .u8 (nm bs 4 1)), Det (.int .i64 (nm bs 4 1)), Det (.int .i64 (nm bs 4 1 * 256)), Det (.slice (some ⟨bb, off, none⟩) n c), Det (.pointer (some ⟨bb, off + 5, none⟩)), Det (.int .u8 (nm bs 5 1)), Det (.int .i64 (nm bs 5 1)), Det (.int .i64 (nm bs 4 2)), Det (.agg #[.int .i64 (nm bs 0 1), .int .i64 (nm bs 1 1), .int .i64 (nm bs 2 2), .int .i64 (nm bs 4 2), .slice none 0 0, .int .i64 0, .int .i64 0, .int .i64 0, .int .i64 0, .int .i64 0, .bool false]), RelZ v.heap.size 56 #[.int .i64 0, .int .i64 0, .int .i64 0, .int .i64 0, .slice none 0 0, .int .i64 0, .int .i64 0, .int .i64 0, .int .i64 0, .int .i64 0, .bool false], Any]
      [[], [(0, some 15)], [(1, some 16)], [(2, some 17)], [], [(4, some 19)], [(5, some 20)], [(6, some 21)], [], [(8, some 23)], [(9, some 24)], [(10, some 25)], [(11, some 26)], [], [(13, some 28)], [(14, some 29)], [(15, some 30)], [(12, some 27), (16, some 31)], [], [(18, some 33)], [(19, some 34)], [(20, some 35)], [(21, some 36)], [], [(23, some 38)], [(24, some 39)], [(25, some 40)], [(22, some 37), (26, some 41)], [(3, some 18), (7, some 22), (17, some 32), (27, some 42)], [], [(29, some 4), (28, some 43)]]
      [[], [0], [0, 1], [0, 1, 2], [], [4], [4, 5], [4, 5, 6], [], [8], [8, 9], [8, 9, 10], [8, 9, 10, 11], [], [13], [13, 14], [13, 14, 15], [8, 9, 10, 11, 12, 13, 14, 15, 16], [], [18], [18, 19], [18, 19, 20], [18, 19, 20, 21], [], [23], [23, 24], [23, 24, 25], [18, 19, 20, 21, 22, 23, 24, 25, 26], [0, 1, 2, 3, 4, 5, 6, 7, 8, 9, 10, 11, 12, 13, 14, 15, 16, 17, 18, 19, 20, 21, 22, 23, 24, 25, 26, 27], [], [0, 1, 2, 3, 4, 5, 6, 7, 8, 9, 10, 11, 12, 13, 14, 15, 16, 17, 18, 19, 20, 21, 22, 23, 24, 25, 26, 27, 28, 29]]
      [(0, some 15), (1, some 16), (2, some 17), (3, some 18), (4, some 19), (5, some 20), (6, some 21), (7, some 22), (8, some 23), (9, some 24), (10, some 25), (11, some 26), (12, some 27), (13, some 28), (14, some 29), (15, some 30), (16, some 31), (17, some 32), (18, some 33), (19, some 34), (20, some 35), (21, some 36), (22, some 37), (23, some 38), (24, some 39), (25, some 40), (26, some 41), (27, some 42), (28, some 43), (29, some 4), (30, none)] (by kernel_rfl) (by kernel_rfl) (by kernel_rfl) (fun W W' h1 h2 => h1.trans (h2.mono h1.size)) ((Below.refl _ _).drew) ?_ ?_ ?_
    · exact (AllMono.cons Det.later (AllMono.cons Det.later (AllMono.cons Det.later (AllMono.cons Det.later (AllMono.cons Det.later (AllMono.cons Det.later (AllMono.cons Det.later (AllMono.cons Det.later (AllMono.cons Det.later (AllMono.cons Det.later (AllMono.cons Det.later (AllMono.cons Det.later (AllMono.cons Det.later (AllMono.cons Det.later (AllMono.cons Det.later (AllMono.cons Det.later (AllMono.cons Det.later (AllMono.cons Det.later (AllMono.cons Det.later (AllMono.cons Det.later (AllMono.cons Det.later (AllMono.cons Det.later (AllMono.cons Det.later (AllMono.cons Det.later (AllMono.cons Det.later (AllMono.cons Det.later (AllMono.cons Det.later (AllMono.cons Det.later (AllMono.cons Det.later (AllMono.cons RelZ.later (AllMono.cons Any.later AllMono.nil)))))))))))))))))))))))))))))))
    · refine AllOb.cons ?_ (AllOb.cons ?_ (AllOb.cons ?_ (AllOb.cons ?_ (AllOb.cons ?_ (AllOb.cons ?_ (AllOb.cons ?_ (AllOb.cons ?_ (AllOb.cons ?_ (AllOb.cons ?_ (AllOb.cons ?_ (AllOb.cons ?_ (AllOb.cons ?_ (AllOb.cons ?_ (AllOb.cons ?_ (AllOb.cons ?_ (AllOb.cons ?_ (AllOb.cons ?_ (AllOb.cons ?_ (AllOb.cons ?_ (AllOb.cons ?_ (AllOb.cons ?_ (AllOb.cons ?_ (AllOb.cons ?_ (AllOb.cons ?_ (AllOb.cons ?_ (AllOb.cons ?_ (AllOb.cons ?_ (AllOb.cons ?_ (AllOb.cons ?_ (AllOb.nil))))))))))))))))))))))))))))))
      · intro uF W hC' hU aF hF
        have hC : Below v.heap.size v W := hC'
        clear hC'
        simp only [puts] at hF
        subst hF
        go_wp2_with (fail)
        exact ⟨rfl, rfl, (Below.refl _ _), rfl⟩
      · intro uF W hC' hU aF hF
        have hC : Below v.heap.size v W := hC'
        clear hC'
        have h15 : (Det (.slice (some ⟨bb, off, none⟩) n c)) (uF 0) W := hU.1
        clear hU
        simp only [puts, Act.put, List.setIfInBounds_toArray, List.set_cons_zero, List.set_cons_succ] at hF
        generalize uF 0 = x15 at h15 hF
        obtain rfl : x15 = (.slice (some ⟨bb, off, none⟩) n c) := h15
        subst hF
        go_wp2_with (fail)
        exact ⟨rfl, rfl, (Below.refl _ _), rfl⟩
      · intro uF W hC' hU aF hF
        have hC : Below v.heap.size v W := hC'
        clear hC'
        have h16 : (Det (.pointer (some ⟨bb, off, none⟩))) (uF 1) W := hU.1
        clear hU
        simp only [puts, Act.put, List.setIfInBounds_toArray, List.set_cons_zero, List.set_cons_succ] at hF
        generalize uF 1 = x16 at h16 hF
        obtain rfl : x16 = (.pointer (some ⟨bb, off, none⟩)) := h16
        subst hF
        have k0 := (hC.cell (show (⟨bb, off, none⟩ : Addr).block < v.heap.size from hbbv)).trans HC0.out
        go_wp2_with (fail)
        exact ⟨rfl, rfl, (Below.refl _ _), rfl⟩
      · intro uF W hC' hU aF hF
        have hC : Below v.heap.size v W := hC'
        clear hC'
        have h17 : (Det (.int .u8 (nm bs 0 1))) (uF 2) W := hU.1
        clear hU
        simp only [puts, Act.put, List.setIfInBounds_toArray, List.set_cons_zero, List.set_cons_succ] at hF
        generalize uF 2 = x17 at h17 hF
        obtain rfl : x17 = (.int .u8 (nm bs 0 1)) := h17
        subst hF
        go_wp2_with (fail)
        exact ⟨rfl, rfl, (Below.refl _ _), rfl⟩
      · intro uF W hC' hU aF hF
        have hC : Below v.heap.size v W := hC'
        clear hC'
        simp only [puts] at hF
        subst hF
        go_wp2_with (fail)
        exact ⟨rfl, rfl, (Below.refl _ _), rfl⟩
      · intro uF W hC' hU aF hF
        have hC : Below v.heap.size v W := hC'
        clear hC'
        have h19 : (Det (.slice (some ⟨bb, off, none⟩) n c)) (uF 4) W := hU.1
        clear hU
        simp only [puts, Act.put, List.setIfInBounds_toArray, List.set_cons_zero, List.set_cons_succ] at hF
        generalize uF 4 = x19 at h19 hF
        obtain rfl : x19 = (.slice (some ⟨bb, off, none⟩) n c) := h19
        subst hF
        go_wp2_with (fail)
        exact ⟨rfl, rfl, (Below.refl _ _), rfl⟩
      · intro uF W hC' hU aF hF
        have hC : Below v.heap.size v W := hC'
        clear hC'
        have h20 : (Det (.pointer (some ⟨bb, off + 1, none⟩))) (uF 5) W := hU.1
        clear hU
        simp only [puts, Act.put, List.setIfInBounds_toArray, List.set_cons_zero, List.set_cons_succ] at hF
        generalize uF 5 = x20 at h20 hF
        obtain rfl : x20 = (.pointer (some ⟨bb, off + 1, none⟩)) := h20
        subst hF
        have k0 := (hC.cell (show (⟨bb, off + 1, none⟩ : Addr).block < v.heap.size from hbbv)).trans HC1.out
        go_wp2_with (fail)
        exact ⟨rfl, rfl, (Below.refl _ _), rfl⟩
      · intro uF W hC' hU aF hF
        have hC : Below v.heap.size v W := hC'
        clear hC'
        have h21 : (Det (.int .u8 (nm bs 1 1))) (uF 6) W := hU.1
        clear hU
        simp only [puts, Act.put, List.setIfInBounds_toArray, List.set_cons_zero, List.set_cons_succ] at hF
        generalize uF 6 = x21 at h21 hF
        obtain rfl : x21 = (.int .u8 (nm bs 1 1)) := h21
        subst hF
        go_wp2_with (fail)
        exact ⟨rfl, rfl, (Below.refl _ _), rfl⟩
      · intro uF W hC' hU aF hF
        have hC : Below v.heap.size v W := hC'
        clear hC'
        simp only [puts] at hF
        subst hF
        go_wp2_with (fail)
        exact ⟨rfl, rfl, (Below.refl _ _), rfl⟩
      · intro uF W hC' hU aF hF
        have hC : Below v.heap.size v W := hC'
        clear hC'
        have h23 : (Det (.slice (some ⟨bb, off, none⟩) n c)) (uF 8) W := hU.1
        clear hU
        simp only [puts, Act.put, List.setIfInBounds_toArray, List.set_cons_zero, List.set_cons_succ] at hF
        generalize uF 8 = x23 at h23 hF
        obtain rfl : x23 = (.slice (some ⟨bb, off, none⟩) n c) := h23
        subst hF
        go_wp2_with (fail)
        exact ⟨rfl, rfl, (Below.refl _ _), rfl⟩
      · intro uF W hC' hU aF hF
        have hC : Below v.heap.size v W := hC'
        clear hC'
        have h24 : (Det (.pointer (some ⟨bb, off + 2, none⟩))) (uF 9) W := hU.1
        clear hU
        simp only [puts, Act.put, List.setIfInBounds_toArray, List.set_cons_zero, List.set_cons_succ] at hF
        generalize uF 9 = x24 at h24 hF
        obtain rfl : x24 = (.pointer (some ⟨bb, off + 2, none⟩)) := h24
        subst hF
        have k0 := (hC.cell (show (⟨bb, off + 2, none⟩ : Addr).block < v.heap.size from hbbv)).trans HC2.out
        go_wp2_with (fail)
        exact ⟨rfl, rfl, (Below.refl _ _), rfl⟩
      · intro uF W hC' hU aF hF
        have hC : Below v.heap.size v W := hC'
        clear hC'
        have h25 : (Det (.int .u8 (nm bs 2 1))) (uF 10) W := hU.1
        clear hU
        simp only [puts, Act.put, List.setIfInBounds_toArray, List.set_cons_zero, List.set_cons_succ] at hF
        generalize uF 10 = x25 at h25 hF
        obtain rfl : x25 = (.int .u8 (nm bs 2 1)) := h25
        subst hF
        go_wp2_with (fail)
        exact ⟨rfl, rfl, (Below.refl _ _), rfl⟩
      · intro uF W hC' hU aF hF
        have hC : Below v.heap.size v W := hC'
        clear hC'
        have h26 : (Det (.int .i64 (nm bs 2 1))) (uF 11) W := hU.1
        clear hU
        simp only [puts, Act.put, List.setIfInBounds_toArray, List.set_cons_zero, List.set_cons_succ] at hF
        generalize uF 11 = x26 at h26 hF
        obtain rfl : x26 = (.int .i64 (nm bs 2 1)) := h26
        subst hF
        go_wp2_with (fail)
        exact ⟨rfl, rfl, (Below.refl _ _), rfl⟩
      · intro uF W hC' hU aF hF
        have hC : Below v.heap.size v W := hC'
        clear hC'
        simp only [puts] at hF
        subst hF
        go_wp2_with (fail)
        exact ⟨rfl, rfl, (Below.refl _ _), rfl⟩
      · intro uF W hC' hU aF hF
        have hC : Below v.heap.size v W := hC'
        clear hC'
        have h28 : (Det (.slice (some ⟨bb, off, none⟩) n c)) (uF 13) W := hU.1
        clear hU
        simp only [puts, Act.put, List.setIfInBounds_toArray, List.set_cons_zero, List.set_cons_succ] at hF
        generalize uF 13 = x28 at h28 hF
        obtain rfl : x28 = (.slice (some ⟨bb, off, none⟩) n c) := h28
        subst hF
        go_wp2_with (fail)
        exact ⟨rfl, rfl, (Below.refl _ _), rfl⟩
      · intro uF W hC' hU aF hF
        have hC : Below v.heap.size v W := hC'
        clear hC'
        have h29 : (Det (.pointer (some ⟨bb, off + 3, none⟩))) (uF 14) W := hU.1
        clear hU
        simp only [puts, Act.put, List.setIfInBounds_toArray, List.set_cons_zero, List.set_cons_succ] at hF
        generalize uF 14 = x29 at h29 hF
        obtain rfl : x29 = (.pointer (some ⟨bb, off + 3, none⟩)) := h29
        subst hF
        have k0 := (hC.cell (show (⟨bb, off + 3, none⟩ : Addr).block < v.heap.size from hbbv)).trans HC3.out
        go_wp2_with (fail)
        exact ⟨rfl, rfl, (Below.refl _ _), rfl⟩
      · intro uF W hC' hU aF hF
        have hC : Below v.heap.size v W := hC'
        clear hC'
        have h30 : (Det (.int .u8 (nm bs 3 1))) (uF 15) W := hU.1
        clear hU
        simp only [puts, Act.put, List.setIfInBounds_toArray, List.set_cons_zero, List.set_cons_succ] at hF
        generalize uF 15 = x30 at h30 hF
        obtain rfl : x30 = (.int .u8 (nm bs 3 1)) := h30
        subst hF
        go_wp2_with (fail)
        exact ⟨rfl, rfl, (Below.refl _ _), rfl⟩
      · intro uF W hC' hU aF hF
        have hC : Below v.heap.size v W := hC'
        clear hC'
        have h27 : (Det (.int .i64 (nm bs 2 1 * 256))) (uF 12) W := hU.1
        have h31 : (Det (.int .i64 (nm bs 3 1))) (uF 16) W := hU.2.1
        clear hU
        simp only [puts, Act.put, List.setIfInBounds_toArray, List.set_cons_zero, List.set_cons_succ] at hF
        generalize uF 12 = x27 at h27 hF
        generalize uF 16 = x31 at h31 hF
        obtain rfl : x27 = (.int .i64 (nm bs 2 1 * 256)) := h27
        obtain rfl : x31 = (.int .i64 (nm bs 3 1)) := h31
        subst hF
        go_wp2_with (fail)
        exact ⟨rfl, rfl, (Below.refl _ _), rfl⟩
      · intro uF W hC' hU aF hF
        have hC : Below v.heap.size v W := hC'
        clear hC'
        simp only [puts] at hF
        subst hF
        go_wp2_with (fail)
        exact ⟨rfl, rfl, (Below.refl _ _), rfl⟩
      · intro uF W hC' hU aF hF
        have hC : Below v.heap.size v W := hC'
        clear hC'
        have h33 : (Det (.slice (some ⟨bb, off, none⟩) n c)) (uF 18) W := hU.1
        clear hU
        simp only [puts, Act.put, List.setIfInBounds_toArray, List.set_cons_zero, List.set_cons_succ] at hF
        generalize uF 18 = x33 at h33 hF
        obtain rfl : x33 = (.slice (some ⟨bb, off, none⟩) n c) := h33
        subst hF
        go_wp2_with (fail)
        exact ⟨rfl, rfl, (Below.refl _ _), rfl⟩
      · intro uF W hC' hU aF hF
        have hC : Below v.heap.size v W := hC'
        clear hC'
        have h34 : (Det (.pointer (some ⟨bb, off + 4, none⟩))) (uF 19) W := hU.1
        clear hU
        simp only [puts, Act.put, List.setIfInBounds_toArray, List.set_cons_zero, List.set_cons_succ] at hF
        generalize uF 19 = x34 at h34 hF
        obtain rfl : x34 = (.pointer (some ⟨bb, off + 4, none⟩)) := h34
        subst hF
        have k0 := (hC.cell (show (⟨bb, off + 4, none⟩ : Addr).block < v.heap.size from hbbv)).trans HC4.out
        go_wp2_with (fail)
        exact ⟨rfl, rfl, (Below.refl _ _), rfl⟩
      · intro uF W hC' hU aF hF
        have hC : Below v.heap.size v W := hC'
        clear hC'
        have h35 : (Det (.int .u8 (nm bs 4 1))) (uF 20) W := hU.1
        clear hU
        simp only [puts, Act.put, List.setIfInBounds_toArray, List.set_cons_zero, List.set_cons_succ] at hF
        generalize uF 20 = x35 at h35 hF
        obtain rfl : x35 = (.int .u8 (nm bs 4 1)) := h35
        subst hF
        go_wp2_with (fail)
        exact ⟨rfl, rfl, (Below.refl _ _), rfl⟩
      · intro uF W hC' hU aF hF
        have hC : Below v.heap.size v W := hC'
        clear hC'
        have h36 : (Det (.int .i64 (nm bs 4 1))) (uF 21) W := hU.1
        clear hU
        simp only [puts, Act.put, List.setIfInBounds_toArray, List.set_cons_zero, List.set_cons_succ] at hF
        generalize uF 21 = x36 at h36 hF
        obtain rfl : x36 = (.int .i64 (nm bs 4 1)) := h36
        subst hF
        go_wp2_with (fail)
        exact ⟨rfl, rfl, (Below.refl _ _), rfl⟩
      · intro uF W hC' hU aF hF
        have hC : Below v.heap.size v W := hC'
        clear hC'
        simp only [puts] at hF
        subst hF
        go_wp2_with (fail)
        exact ⟨rfl, rfl, (Below.refl _ _), rfl⟩
      · intro uF W hC' hU aF hF
        have hC : Below v.heap.size v W := hC'
        clear hC'
        have h38 : (Det (.slice (some ⟨bb, off, none⟩) n c)) (uF 23) W := hU.1
        clear hU
        simp only [puts, Act.put, List.setIfInBounds_toArray, List.set_cons_zero, List.set_cons_succ] at hF
        generalize uF 23 = x38 at h38 hF
        obtain rfl : x38 = (.slice (some ⟨bb, off, none⟩) n c) := h38
        subst hF
        go_wp2_with (fail)
        exact ⟨rfl, rfl, (Below.refl _ _), rfl⟩
      · intro uF W hC' hU aF hF
        have hC : Below v.heap.size v W := hC'
        clear hC'
        have h39 : (Det (.pointer (some ⟨bb, off + 5, none⟩))) (uF 24) W := hU.1
        clear hU
        simp only [puts, Act.put, List.setIfInBounds_toArray, List.set_cons_zero, List.set_cons_succ] at hF
        generalize uF 24 = x39 at h39 hF
        obtain rfl : x39 = (.pointer (some ⟨bb, off + 5, none⟩)) := h39
        subst hF
        have k0 := (hC.cell (show (⟨bb, off + 5, none⟩ : Addr).block < v.heap.size from hbbv)).trans HC5.out
        go_wp2_with (fail)
        exact ⟨rfl, rfl, (Below.refl _ _), rfl⟩
      · intro uF W hC' hU aF hF
        have hC : Below v.heap.size v W := hC'
        clear hC'
        have h40 : (Det (.int .u8 (nm bs 5 1))) (uF 25) W := hU.1
        clear hU
        simp only [puts, Act.put, List.setIfInBounds_toArray, List.set_cons_zero, List.set_cons_succ] at hF
        generalize uF 25 = x40 at h40 hF
        obtain rfl : x40 = (.int .u8 (nm bs 5 1)) := h40
        subst hF
        go_wp2_with (fail)
        exact ⟨rfl, rfl, (Below.refl _ _), rfl⟩
      · intro uF W hC' hU aF hF
        have hC : Below v.heap.size v W := hC'
        clear hC'
        have h37 : (Det (.int .i64 (nm bs 4 1 * 256))) (uF 22) W := hU.1
        have h41 : (Det (.int .i64 (nm bs 5 1))) (uF 26) W := hU.2.1
        clear hU
        simp only [puts, Act.put, List.setIfInBounds_toArray, List.set_cons_zero, List.set_cons_succ] at hF
        generalize uF 22 = x37 at h37 hF
        generalize uF 26 = x41 at h41 hF
        obtain rfl : x37 = (.int .i64 (nm bs 4 1 * 256)) := h37
        obtain rfl : x41 = (.int .i64 (nm bs 5 1)) := h41
        subst hF
        go_wp2_with (fail)
        exact ⟨rfl, rfl, (Below.refl _ _), rfl⟩
      · intro uF W hC' hU aF hF
        have hC : Below v.heap.size v W := hC'
        clear hC'
        have h18 : (Det (.int .i64 (nm bs 0 1))) (uF 3) W := hU.1
        have h22 : (Det (.int .i64 (nm bs 1 1))) (uF 7) W := hU.2.1
        have h32 : (Det (.int .i64 (nm bs 2 2))) (uF 17) W := hU.2.2.1
        have h42 : (Det (.int .i64 (nm bs 4 2))) (uF 27) W := hU.2.2.2.1
        clear hU
        simp only [puts, Act.put, List.setIfInBounds_toArray, List.set_cons_zero, List.set_cons_succ] at hF
        generalize uF 3 = x18 at h18 hF
        generalize uF 7 = x22 at h22 hF
        generalize uF 17 = x32 at h32 hF
        generalize uF 27 = x42 at h42 hF
        obtain rfl : x18 = (.int .i64 (nm bs 0 1)) := h18
        obtain rfl : x22 = (.int .i64 (nm bs 1 1)) := h22
        obtain rfl : x32 = (.int .i64 (nm bs 2 2)) := h32
        obtain rfl : x42 = (.int .i64 (nm bs 4 2)) := h42
        subst hF
        go_wp2_with (fail)
        exact ⟨rfl, rfl, (Below.refl _ _), rfl⟩
      · intro uF W hC' hU aF hF
        have hC : Below v.heap.size v W := hC'
        clear hC'
        simp only [puts] at hF
        subst hF
        go_wp2_with (((with_reducible show wpList _ _ _ (Oper.mk (some 4) (Op.alloc _) _ _ _ _ :: _) _ _); refine wpList_alloc_agg (by rfl) 56 rfl #[.int .i64 0, .int .i64 0, .int .i64 0, .int .i64 0, .slice none 0 0, .int .i64 0, .int .i64 0, .int .i64 0, .int .i64 0, .int .i64 0, .bool false] zeroCm ?_))
        exact ⟨rfl, rfl, (below_alloc _ _), ⟨_, rfl, hC.size, Blk.new _ _ _⟩⟩
    intro uF W5 hC' hU aF hF
    have hCW5 : Below v.heap.size v W5 := hC'
    clear hC'
    have h43 : (Det (.agg #[.int .i64 (nm bs 0 1), .int .i64 (nm bs 1 1), .int .i64 (nm bs 2 2), .int .i64 (nm bs 4 2), .slice none 0 0, .int .i64 0, .int .i64 0, .int .i64 0, .int .i64 0, .int .i64 0, .bool false])) (uF 28) W5 := hU.2.2.2.2.2.2.2.2.2.2.2.2.2.2.2.2.2.2.2.2.2.2.2.2.2.2.2.2.1
    have h4 : (RelZ v.heap.size 56 #[.int .i64 0, .int .i64 0, .int .i64 0, .int .i64 0, .slice none 0 0, .int .i64 0, .int .i64 0, .int .i64 0, .int .i64 0, .int .i64 0, .bool false]) (uF 29) W5 := hU.2.2.2.2.2.2.2.2.2.2.2.2.2.2.2.2.2.2.2.2.2.2.2.2.2.2.2.2.2.1
    clear hU
    simp only [List.take_succ_cons, List.take_zero, puts, Act.put, List.setIfInBounds_toArray, List.set_cons_zero, List.set_cons_succ] at hF
    generalize uF 0 = x15 at hF
    generalize uF 1 = x16 at hF
    generalize uF 2 = x17 at hF
    generalize uF 3 = x18 at hF
    generalize uF 4 = x19 at hF
    generalize uF 5 = x20 at hF
    generalize uF 6 = x21 at hF
    generalize uF 7 = x22 at hF
    generalize uF 8 = x23 at hF
    generalize uF 9 = x24 at hF
    generalize uF 10 = x25 at hF
    generalize uF 11 = x26 at hF
    generalize uF 12 = x27 at hF
    generalize uF 13 = x28 at hF
    generalize uF 14 = x29 at hF
    generalize uF 15 = x30 at hF
    generalize uF 16 = x31 at hF
    generalize uF 17 = x32 at hF
    generalize uF 18 = x33 at hF
    generalize uF 19 = x34 at hF
    generalize uF 20 = x35 at hF
    generalize uF 21 = x36 at hF
    generalize uF 22 = x37 at hF
    generalize uF 23 = x38 at hF
    generalize uF 24 = x39 at hF
    generalize uF 25 = x40 at hF
    generalize uF 26 = x41 at hF
    generalize uF 27 = x42 at hF
    generalize uF 28 = x43 at h43 hF
    generalize uF 29 = x4 at h4 hF
    obtain rfl : x43 = (.agg #[.int .i64 (nm bs 0 1), .int .i64 (nm bs 1 1), .int .i64 (nm bs 2 2), .int .i64 (nm bs 4 2), .slice none 0 0, .int .i64 0, .int .i64 0, .int .i64 0, .int .i64 0, .int .i64 0, .bool false]) := h43
    obtain ⟨g4, rfl, z4, b4⟩ := h4
    subst hF
    simp only [List.drop_succ_cons, List.drop_zero]
    refine wpListIn_of free_wide (fun ⟨_, _, h⟩ => h) rfl ?_
    refine wpList_store_whole rfl 56 (.tmp 4) (.tmp 43) rfl g4 rfl [.int .i64 (nm bs 0 1), .int .i64 (nm bs 1 1), .int .i64 (nm bs 2 2), .int .i64 (nm bs 4 2), .slice none 0 0, .int .i64 0, .int .i64 0, .int .i64 0, .int .i64 0, .int .i64 0, .bool false] rfl aggCm rfl _ _ b4 rfl (by simp [Value.oneCell']) ?_
    intro w4 hb4 hg4 hs4
    exact wpList_nil ⟨g4, ⟨_, _, _, _, _, _, _, _, _, _, _, _, _, _, _, _, _, _, _, _, _, _, _, _, _, _, _, _, _, _, _, _, _, rfl⟩, hb4, z4, hCW5.grown hg4 hCW5.size (fun k hk => by cases hk; exact z4)⟩
  rintro e a' w4 h
  clear e22 e42
  cases e with
  | normal =>
    obtain ⟨g4, ⟨y11, y12, y13, y14, y15, y16, y17, y18, y19, y20, y21, y22, y23, y24, y25, y26, y27, y28, y29, y30, y31, y32, y33, y34, y35, y36, y37, y38, y39, y40, y41, y42, y43, rfl⟩, hb4, hg4, hw4⟩ := h
    have hw4w := hwv.trans (hw4.mono hz)
    have hz4 := hw4.size
    have b24 := b2.below hw4 b2.lt
    have b2lt := b2.lt
    have k0 : w4.cell? ⟨g4, 0, none⟩ = some (.int .i64 (nm bs 0 1)) := by rw [hb4.cell]; rfl
    have k4 : w4.cell? ⟨g4, 4, none⟩ = some (.slice none 0 0) := by rw [hb4.cell]; rfl
    have f4 := hb4.frozen 4
    have hbl := hb4.lt
    rw [h2] at k0 hb4
    have heq' : (⟨(cmB 2 (nm bs 1 1) (nm bs 2 2) (nm bs 4 2) 0 0 0 0 false (bs.drop 6)).toArray⟩ : ByteArray) = ⟨bs.toArray⟩ := by rw [eq_of_beq heq]
    obtain ⟨S2, hS2⟩ : ∃ S : ByteArray, S = ⟨bs.toArray⟩ := ⟨_, rfl⟩
    have HS2 := Lib.hid hS2
    have HEQ := Lib.hid heq'
    clear hS2 heq'
    go_wp2_with (first
      | ((with_reducible show wpList _ _ _ (Oper.mk (some 88) (Op.load 56 _) _ _ _ _ :: _) _ _); refine wpList_load_whole (by rfl) 56 (.tmp 4) rfl g4 rfl #[.int .i64 2, .int .i64 (nm bs 1 1), .int .i64 (nm bs 2 2), .int .i64 (nm bs 4 2), .slice A5 (n - 6) c5, .int .i64 0, .int .i64 0, .int .i64 0, .int .i64 0, .int .i64 0, .bool false] aggCm rfl _ b6 ?_)
      | (go_at_call 30; refine (crefenc_yes 2 (nm bs 1 1) (nm bs 2 2) (nm bs 4 2) 0 0 0 0 0 false (OwB.sl o6) (Nat.le_refl _) (by omega) ⟨by decide, nm_wf _ _ _, nm_wf _ _ _, nm_wf _ _ _⟩ ⟨by decide, by decide, by decide, by decide⟩ hgood).mono ?_; rintro e w7 ⟨A7, N7, c7, rfl, o7, hb7⟩; have hw7 := hv6.trans (hb7.mono hz6); have hz7 := hw7.size; have b27 := b26.below hb7 b26.lt; have b67 := b6.below hb7 b6.lt; have o67 := OwB.below o6 hb7; have e7 := o7.sl.str; have e8 := SlB.str ((HB.out.below (hv6v.mono hBv)).below (hb7.mono (Nat.le_trans hBv hv6v.size))); rw [HEQ.out, ← HS2.out] at e7; rw [← HS2.out] at e8)
      | (at_builtin; refine wpList_append8 rfl (.tmp 47) (.tmp 49) rfl rfl (OwB.nil _ w4.heap.size _) rfl (H6.out.below ((hw4.trans ((below_alloc _ _).mono hz4)).mono hBv)) (by omega) (by simp) (n - 6) (by omega) ?_; intro A5 c5 w5 h5' q5; have hb5 := q5.below (OwB.nil _ w4.heap.size _) (below_alloc w4 _) (Nat.le_refl _) (by simp); have h5 : OwB w5 w4.heap.size A5 (n - 6) c5 (bs.drop 6) := h5'; have b45 := hb4.below hb5 hb4.lt; have b25 := b24.below hb5 b24.lt; have hw5 := hw4w.trans (hb5.mono hw4w.size); have hw5v := hw4.trans (hb5.mono hz4); have hz5 := hb5.size; have k05 : w5.cell? ⟨g4, 4, none⟩ = some (.slice none 0 0) := (by rw [b45.cell]; rfl); have f45 := b45.frozen 4; clear h5' q5)
      | ((with_reducible show wpList _ _ _ (Oper.mk (some 53) (Op.load _ _) _ _ _ _ :: _) _ _); (fail_if_success have hx := b6); obtain ⟨V6, hV6⟩ : ∃ V6, V6 = w5.setCell ⟨g4, 4, none⟩ (.slice A5 (n - 6) c5) := ⟨_, rfl⟩; have b6 : Blk V6 g4 56 #[.int .i64 2, .int .i64 (nm bs 1 1), .int .i64 (nm bs 2 2), .int .i64 (nm bs 4 2), .slice A5 (n - 6) c5, .int .i64 0, .int .i64 0, .int .i64 0, .int .i64 0, .int .i64 0, .bool false] := (by rw [hV6]; simpa using b45.set_ 4 (.slice A5 (n - 6) c5)); have b26 : Blk V6 w.heap.size 56 #[.int .i64 0, .int .i64 0, .int .i64 0, .int .i64 0, .slice none 0 0, .int .i64 0, .int .i64 0, .int .i64 0, .int .i64 0, .int .i64 0, .bool false] := (by rw [hV6]; exact b25.far (by show w.heap.size ≠ g4; omega) _); have hv6 : Below w.heap.size w V6 := (by rw [hV6]; exact hw5.setCell (p := ⟨g4, 4, none⟩) (by show w.heap.size ≤ g4; omega) _); have hv6v : Below v.heap.size v V6 := (by rw [hV6]; exact hw5v.setCell (p := ⟨g4, 4, none⟩) hg4 _); have hz6 := hv6.size; have o6 : OwB V6 w4.heap.size A5 (n - 6) c5 (bs.drop 6) := (by rw [hV6]; exact own_set h5 hbl 4 _); have k06 : V6.cell? ⟨g4, 0, none⟩ = some (.int .i64 2) := (by rw [b6.cell]; rfl); rw [← hV6]; clear hV6)
      | ((with_reducible show wpList _ _ _ (Oper.mk (some 102) (Op.load 56 _) _ _ _ _ :: _) _ _); refine wpList_load_whole rfl 56 (.tmp 4) rfl g4 rfl #[.int .i64 2, .int .i64 (nm bs 1 1), .int .i64 (nm bs 2 2), .int .i64 (nm bs 4 2), .slice A5 (n - 6) c5, .int .i64 0, .int .i64 0, .int .i64 0, .int .i64 0, .int .i64 0, .bool false] aggCm rfl _ b67 ?_)
      | ((with_reducible show wpList _ _ _ (Oper.mk none (Op.store 56 (.tmp 2) (.tmp 102)) _ _ _ _ :: _) _ _); refine wpList_store_whole rfl 56 (.tmp 2) (.tmp 102) rfl w.heap.size rfl [.int .i64 2, .int .i64 (nm bs 1 1), .int .i64 (nm bs 2 2), .int .i64 (nm bs 4 2), .slice A5 (n - 6) c5, .int .i64 0, .int .i64 0, .int .i64 0, .int .i64 0, .int .i64 0, .bool false] rfl aggCm rfl _ _ b27 rfl (by simp [Value.oneCell']) ?_; intro wf bf gf sf))
    refine bodyPost_ret (results_cell_tmp rfl _ w.heap.size _ #[.int .i64 2, .int .i64 (nm bs 1 1), .int .i64 (nm bs 2 2), .int .i64 (nm bs 4 2), .slice A5 (n - 6) c5, .int .i64 0, .int .i64 0, .int .i64 0, .int .i64 0, .int .i64 0, .bool false] aggCm rfl rfl bf) rfl ⟨_, _, _, rfl, own_base (own_grown o67 (by omega) gf) (by omega), ?_⟩
    exact hw7.grown gf hz7 (fun k hk => by cases hk; exact Nat.le_refl _)
  | _ => exact h.elim

set_option maxHeartbeats 4000000 in
theorem crefdec_two_bad {w : World} {B : Nat} {A : Option Addr} {n c : Nat} {bs : List UInt8} (hb : SlB w B A n c bs) (hB : B ≤ w.heap.size) (hn : n ≤ 1048576) (h1 : 6 ≤ n) (h2 : nm bs 0 1 = 2) (hgood : ¬ goodC 2 (nm bs 1 1) (nm bs 2 2) (nm bs 4 2) (n - 6) 0 0 0 0 0 false) :
    Calls Try.prog 37 #[.slice A n c] w fun e w' => e = .returned (.tuple #[.agg #[.int .i64 0, .int .i64 0, .int .i64 0, .int .i64 0, .slice none 0 0, .int .i64 0, .int .i64 0, .int .i64 0, .int .i64 0, .int .i64 0, .bool false], .bool false]) ∧ Below w.heap.size w w' := by
  have hlen := hb.len
  have hcap := hb.le
  have hcm : c ≤ 9223372036854775807 := hb.cap
  obtain ⟨v, hv⟩ : ∃ v, v = w.alloc (.cells #[.int .i64 0, .int .i64 0, .int .i64 0, .int .i64 0, .slice none 0 0, .int .i64 0, .int .i64 0, .int .i64 0, .int .i64 0, .int .i64 0, .bool false] 56) := ⟨_, rfl⟩
  have b2 : Blk v w.heap.size 56 #[.int .i64 0, .int .i64 0, .int .i64 0, .int .i64 0, .slice none 0 0, .int .i64 0, .int .i64 0, .int .i64 0, .int .i64 0, .int .i64 0, .bool false] := by rw [hv]; exact Blk.new _ _ _
  have hwv : Below w.heap.size w v := by rw [hv]; exact below_alloc _ _
  have hz := hwv.size
  have hbv := hb.below (hwv.mono hB)
  have hBv := Nat.le_trans hB hz
  obtain ⟨bb, off, eA, hbb, hj⟩ := hbv.at_ (by omega)
  obtain ⟨AT6, hAT6, hsl6⟩ := hbv.tailRun (lo := 6) (by omega)
  rw [show ((6 : Nat) : Int) = 6 from rfl] at hsl6
  obtain ⟨x0, hx0⟩ : ∃ x, bs[0]? = some x := ⟨bs[0]'(by omega), List.getElem?_eq_getElem _⟩
  have c0 : v.cell? ⟨bb, off, none⟩ = some (.int .u8 (nm bs 0 1)) := by rw [show nm bs 0 1 = (x0.toNat : Int) from bigN_one (i := 0) hx0]; exact hj 0 x0 hx0
  obtain ⟨p0, q0⟩ := nm_one (bs := bs) (a := 0) (by omega)
  have hi0 : (0 : Int) < (n : Int) := by omega
  obtain ⟨x1, hx1⟩ : ∃ x, bs[1]? = some x := ⟨bs[1]'(by omega), List.getElem?_eq_getElem _⟩
  have c1 : v.cell? ⟨bb, off + 1, none⟩ = some (.int .u8 (nm bs 1 1)) := by rw [show nm bs 1 1 = (x1.toNat : Int) from bigN_one (i := 1) hx1]; exact hj 1 x1 hx1
  obtain ⟨p1, q1⟩ := nm_one (bs := bs) (a := 1) (by omega)
  have hi1 : (1 : Int) < (n : Int) := by omega
  obtain ⟨x2, hx2⟩ : ∃ x, bs[2]? = some x := ⟨bs[2]'(by omega), List.getElem?_eq_getElem _⟩
  have c2 : v.cell? ⟨bb, off + 2, none⟩ = some (.int .u8 (nm bs 2 1)) := by rw [show nm bs 2 1 = (x2.toNat : Int) from bigN_one (i := 2) hx2]; exact hj 2 x2 hx2
  obtain ⟨p2, q2⟩ := nm_one (bs := bs) (a := 2) (by omega)
  have hi2 : (2 : Int) < (n : Int) := by omega
  obtain ⟨x3, hx3⟩ : ∃ x, bs[3]? = some x := ⟨bs[3]'(by omega), List.getElem?_eq_getElem _⟩
  have c3 : v.cell? ⟨bb, off + 3, none⟩ = some (.int .u8 (nm bs 3 1)) := by rw [show nm bs 3 1 = (x3.toNat : Int) from bigN_one (i := 3) hx3]; exact hj 3 x3 hx3
  obtain ⟨p3, q3⟩ := nm_one (bs := bs) (a := 3) (by omega)
  have hi3 : (3 : Int) < (n : Int) := by omega
  obtain ⟨x4, hx4⟩ : ∃ x, bs[4]? = some x := ⟨bs[4]'(by omega), List.getElem?_eq_getElem _⟩
  have c4 : v.cell? ⟨bb, off + 4, none⟩ = some (.int .u8 (nm bs 4 1)) := by rw [show nm bs 4 1 = (x4.toNat : Int) from bigN_one (i := 4) hx4]; exact hj 4 x4 hx4
  obtain ⟨p4, q4⟩ := nm_one (bs := bs) (a := 4) (by omega)
  have hi4 : (4 : Int) < (n : Int) := by omega
  obtain ⟨x5, hx5⟩ : ∃ x, bs[5]? = some x := ⟨bs[5]'(by omega), List.getElem?_eq_getElem _⟩
  have c5 : v.cell? ⟨bb, off + 5, none⟩ = some (.int .u8 (nm bs 5 1)) := by rw [show nm bs 5 1 = (x5.toNat : Int) from bigN_one (i := 5) hx5]; exact hj 5 x5 hx5
  obtain ⟨p5, q5⟩ := nm_one (bs := bs) (a := 5) (by omega)
  have hi5 : (5 : Int) < (n : Int) := by omega
  have hi6' : (6 : Int) ≤ (n : Int) := by omega
  have e22 := nm_pair (bs := bs) (i := 2) (by omega)
  have e42 := nm_pair (bs := bs) (i := 4) (by omega)
  obtain ⟨p22, q22⟩ := nm_two (bs := bs) (a := 2) (by omega)
  obtain ⟨p42, q42⟩ := nm_two (bs := bs) (a := 4) (by omega)
  subst eA
  have HV := Lib.hid hv
  have HB := Lib.hid hbv
  have HC0 := Lib.hid c0
  have HC1 := Lib.hid c1
  have HC2 := Lib.hid c2
  have HC3 := Lib.hid c3
  have HC4 := Lib.hid c4
  have HC5 := Lib.hid c5
  have H6 := Lib.hid hAT6
  have hbbv : bb < v.heap.size := Nat.lt_of_lt_of_le hbb hBv
  clear hv hb hbv hj c0 hx0 c1 hx1 c2 hx2 c3 hx3 c4 hx4 c5 hx5 hAT6
  go_enter Try.func37, Try.ntmps37
  go_wp2_with (first
    | ((with_reducible show wpList _ _ _ (Oper.mk (some 2) (Op.alloc _) _ _ _ _ :: _) _ _); refine wpList_alloc_agg rfl 56 rfl #[.int .i64 0, .int .i64 0, .int .i64 0, .int .i64 0, .slice none 0 0, .int .i64 0, .int .i64 0, .int .i64 0, .int .i64 0, .int .i64 0, .bool false] zeroCm ?_; rw [← HV.out]))
  refine Code.wp_mono (Q := Exit.then (fun a' w' => ∃ g4, (∃ y11 y12 y13 y14 y15 y16 y17 y18 y19 y20 y21 y22 y23 y24 y25 y26 y27 y28 y29 y30 y31 y32 y33 y34 y35 y36 y37 y38 y39 y40 y41 y42 y43 : Value, a' = { tmps := #[Value.slice (some ⟨bb, off, none⟩) n c, undef, Value.pointer (some ⟨w.heap.size, 0, none⟩), Value.bool false, Value.pointer (some ⟨g4, 0, none⟩), undef, undef, undef, undef, undef, undef, y11, y12, y13, y14, y15, y16, y17, y18, y19, y20, y21, y22, y23, y24, y25, y26, y27, y28, y29, y30, y31, y32, y33, y34, y35, y36, y37, y38, y39, y40, y41, y42, y43, undef, undef, undef, undef, undef, undef, undef, undef, undef, undef, undef, undef, undef, undef, undef, undef, undef, undef, undef, undef, undef, undef, undef, undef, undef, undef, undef, undef, undef, undef, undef, undef, undef, undef, undef, undef, undef, undef, undef, undef, undef, undef, undef, undef, undef, undef, undef, undef, undef, undef, undef, undef, undef, undef, undef, undef, undef, undef, undef], defers := [] }) ∧ Blk w' g4 56 #[.int .i64 (nm bs 0 1), .int .i64 (nm bs 1 1), .int .i64 (nm bs 2 2), .int .i64 (nm bs 4 2), .slice none 0 0, .int .i64 0, .int .i64 0, .int .i64 0, .int .i64 0, .int .i64 0, .bool false] ∧ v.heap.size ≤ g4 ∧ Below v.heap.size v w') (fun _ _ _ => False)) ?_ ?_
  rotate_left
  · refine (wpIn_wide (n := 4)).1 ?_
    refine wpIn_region_rel free_wide rfl 30 (fun W W' => Below W.heap.size W W') (fun W => Below v.heap.size v W)
      [Det (.slice (some ⟨bb, off, none⟩) n c), Det (.pointer (some ⟨bb, off, none⟩)), Det (.int .u8 (nm bs 0 1)), Det (.int .i64 (nm bs 0 1)), Det (.slice (some ⟨bb, off, none⟩) n c), Det (.pointer (some ⟨bb, off + 1, none⟩)), Det (.int .u8 (nm bs 1 1)), Det (.int .i64 (nm bs 1 1)), Det (.slice (some ⟨bb, off, none⟩) n c), Det (.pointer (some ⟨bb, off + 2, none⟩)), Det (.int .u8 (nm bs 2 1)), Det (.int .i64 (nm bs 2 1)), Det (.int .i64 (nm bs 2 1 * 256)), Det (.slice (some ⟨bb, off, none⟩) n c), Det (.pointer (some ⟨bb, off + 3, none⟩)), Det (.int .u8 (nm bs 3 1)), Det (.int .i64 (nm bs 3 1)), Det (.int .i64 (nm bs 2 2)), Det (.slice (some ⟨bb, off, none⟩) n c), Det (.pointer (some ⟨bb, off + 4, none⟩)), Det (.int .u8 (nm bs 4 1)), Det (.int .i64 (nm bs 4 1)), Det (.int .i64 (nm bs 4 1 * 256)), Det (.slice (some ⟨bb, off, none⟩) n c), Det (.pointer (some ⟨bb, off + 5, none⟩)), Det (.int .u8 (nm bs 5 1)), Det (.int .i64 (nm bs 5 1)), Det (.int .i64 (nm bs 4 2)), Det (.agg #[.int .i64 (nm bs 0 1), .int .i64 (nm bs 1 1), .int .i64 (nm bs 2 2), .int .i64 (nm bs 4 2), .slice none 0 0, .int .i64 0, .int .i64 0, .int .i64 0, .int .i64 0, .int .i64 0, .bool false]), RelZ v.heap.size 56 #[.int .i64 0, .int .i64 0, .int .i64 0, .int .i64 0, .slice none 0 0, .int .i64 0, .int .i64 0, .int .i64 0, .int .i64 0, .int .i64 0, .bool false], Any]
      [[], [(0, some 15)], [(1, some 16)], [(2, some 17)], [], [(4, some 19)], [(5, some 20)], [(6, some 21)], [], [(8, some 23)], [(9, some 24)], [(10, some 25)], [(11, some 26)], [], [(13, some 28)], [(14, some 29)], [(15, some 30)], [(12, some 27), (16, some 31)], [], [(18, some 33)], [(19, some 34)], [(20, some 35)], [(21, some 36)], [], [(23, some 38)], [(24, some 39)], [(25, some 40)], [(22, some 37), (26, some 41)], [(3, some 18), (7, some 22), (17, some 32), (27, some 42)], [], [(29, some 4), (28, some 43)]]
      [[], [0], [0, 1], [0, 1, 2], [], [4], [4, 5], [4, 5, 6], [], [8], [8, 9], [8, 9, 10], [8, 9, 10, 11], [], [13], [13, 14], [13, 14, 15], [8, 9, 10, 11, 12, 13, 14, 15, 16], [], [18], [18, 19], [18, 19, 20], [18, 19, 20, 21], [], [23], [23, 24], [23, 24, 25], [18, 19, 20, 21, 22, 23, 24, 25, 26], [0, 1, 2, 3, 4, 5, 6, 7, 8, 9, 10, 11, 12, 13, 14, 15, 16, 17, 18, 19, 20, 21, 22, 23, 24, 25, 26, 27], [], [0, 1, 2, 3, 4, 5, 6, 7, 8, 9, 10, 11, 12, 13, 14, 15, 16, 17, 18, 19, 20, 21, 22, 23, 24, 25, 26, 27, 28, 29]]
      [(0, some 15), (1, some 16), (2, some 17), (3, some 18), (4, some 19), (5, some 20), (6, some 21), (7, some 22), (8, some 23), (9, some 24), (10, some 25), (11, some 26), (12, some 27), (13, some 28), (14, some 29), (15, some 30), (16, some 31), (17, some 32), (18, some 33), (19, some 34), (20, some 35), (21, some 36), (22, some 37), (23, some 38), (24, some 39), (25, some 40), (26, some 41), (27, some 42), (28, some 43), (29, some 4), (30, none)] (by kernel_rfl) (by kernel_rfl) (by kernel_rfl) (fun W W' h1 h2 => h1.trans (h2.mono h1.size)) ((Below.refl _ _).drew) ?_ ?_ ?_
    · exact (AllMono.cons Det.later (AllMono.cons Det.later (AllMono.cons Det.later (AllMono.cons Det.later (AllMono.cons Det.later (AllMono.cons Det.later (AllMono.cons Det.later (AllMono.cons Det.later (AllMono.cons Det.later (AllMono.cons Det.later (AllMono.cons Det.later (AllMono.cons Det.later (AllMono.cons Det.later (AllMono.cons Det.later (AllMono.cons Det.later (AllMono.cons Det.later (AllMono.cons Det.later (AllMono.cons Det.later (AllMono.cons Det.later (AllMono.cons Det.later (AllMono.cons Det.later (AllMono.cons Det.later (AllMono.cons Det.later (AllMono.cons Det.later (AllMono.cons Det.later (AllMono.cons Det.later (AllMono.cons Det.later (AllMono.cons Det.later (AllMono.cons Det.later (AllMono.cons RelZ.later (AllMono.cons Any.later AllMono.nil)))))))))))))))))))))))))))))))
    · refine AllOb.cons ?_ (AllOb.cons ?_ (AllOb.cons ?_ (AllOb.cons ?_ (AllOb.cons ?_ (AllOb.cons ?_ (AllOb.cons ?_ (AllOb.cons ?_ (AllOb.cons ?_ (AllOb.cons ?_ (AllOb.cons ?_ (AllOb.cons ?_ (AllOb.cons ?_ (AllOb.cons ?_ (AllOb.cons ?_ (AllOb.cons ?_ (AllOb.cons ?_ (AllOb.cons ?_ (AllOb.cons ?_ (AllOb.cons ?_ (AllOb.cons ?_ (AllOb.cons ?_ (AllOb.cons ?_ (AllOb.cons ?_ (AllOb.cons ?_ (AllOb.cons ?_ (AllOb.cons ?_ (AllOb.cons ?_ (AllOb.cons ?_ (AllOb.cons ?_ (AllOb.nil))))))))))))))))))))))))))))))
      · intro uF W hC' hU aF hF
        have hC : Below v.heap.size v W := hC'
        clear hC'
        simp only [puts] at hF
        subst hF
        go_wp2_with (fail)
        exact ⟨rfl, rfl, (Below.refl _ _), rfl⟩
      · intro uF W hC' hU aF hF
        have hC : Below v.heap.size v W := hC'
        clear hC'
        have h15 : (Det (.slice (some ⟨bb, off, none⟩) n c)) (uF 0) W := hU.1
        clear hU
        simp only [puts, Act.put, List.setIfInBounds_toArray, List.set_cons_zero, List.set_cons_succ] at hF
        generalize uF 0 = x15 at h15 hF
        obtain rfl : x15 = (.slice (some ⟨bb, off, none⟩) n c) := h15
        subst hF
        go_wp2_with (fail)
        exact ⟨rfl, rfl, (Below.refl _ _), rfl⟩
      · intro uF W hC' hU aF hF
        have hC : Below v.heap.size v W := hC'
        clear hC'
        have h16 : (Det (.pointer (some ⟨bb, off, none⟩))) (uF 1) W := hU.1
        clear hU
        simp only [puts, Act.put, List.setIfInBounds_toArray, List.set_cons_zero, List.set_cons_succ] at hF
        generalize uF 1 = x16 at h16 hF
        obtain rfl : x16 = (.pointer (some ⟨bb, off, none⟩)) := h16
        subst hF
        have k0 := (hC.cell (show (⟨bb, off, none⟩ : Addr).block < v.heap.size from hbbv)).trans HC0.out
        go_wp2_with (fail)
        exact ⟨rfl, rfl, (Below.refl _ _), rfl⟩
      · intro uF W hC' hU aF hF
        have hC : Below v.heap.size v W := hC'
        clear hC'
        have h17 : (Det (.int .u8 (nm bs 0 1))) (uF 2) W := hU.1
        clear hU
        simp only [puts, Act.put, List.setIfInBounds_toArray, List.set_cons_zero, List.set_cons_succ] at hF
        generalize uF 2 = x17 at h17 hF
        obtain rfl : x17 = (.int .u8 (nm bs 0 1)) := h17
        subst hF
        go_wp2_with (fail)
        exact ⟨rfl, rfl, (Below.refl _ _), rfl⟩
      · intro uF W hC' hU aF hF
        have hC : Below v.heap.size v W := hC'
        clear hC'
        simp only [puts] at hF
        subst hF
        go_wp2_with (fail)
        exact ⟨rfl, rfl, (Below.refl _ _), rfl⟩
      · intro uF W hC' hU aF hF
        have hC : Below v.heap.size v W := hC'
        clear hC'
        have h19 : (Det (.slice (some ⟨bb, off, none⟩) n c)) (uF 4) W := hU.1
        clear hU
        simp only [puts, Act.put, List.setIfInBounds_toArray, List.set_cons_zero, List.set_cons_succ] at hF
        generalize uF 4 = x19 at h19 hF
        obtain rfl : x19 = (.slice (some ⟨bb, off, none⟩) n c) := h19
        subst hF
        go_wp2_with (fail)
        exact ⟨rfl, rfl, (Below.refl _ _), rfl⟩
      · intro uF W hC' hU aF hF
        have hC : Below v.heap.size v W := hC'
        clear hC'
        have h20 : (Det (.pointer (some ⟨bb, off + 1, none⟩))) (uF 5) W := hU.1
        clear hU
        simp only [puts, Act.put, List.setIfInBounds_toArray, List.set_cons_zero, List.set_cons_succ] at hF
        generalize uF 5 = x20 at h20 hF
        obtain rfl : x20 = (.pointer (some ⟨bb, off + 1, none⟩)) := h20
        subst hF
        have k0 := (hC.cell (show (⟨bb, off + 1, none⟩ : Addr).block < v.heap.size from hbbv)).trans HC1.out
        go_wp2_with (fail)
        exact ⟨rfl, rfl, (Below.refl _ _), rfl⟩
      · intro uF W hC' hU aF hF
        have hC : Below v.heap.size v W := hC'
        clear hC'
        have h21 : (Det (.int .u8 (nm bs 1 1))) (uF 6) W := hU.1
        clear hU
        simp only [puts, Act.put, List.setIfInBounds_toArray, List.set_cons_zero, List.set_cons_succ] at hF
        generalize uF 6 = x21 at h21 hF
        obtain rfl : x21 = (.int .u8 (nm bs 1 1)) := h21
        subst hF
        go_wp2_with (fail)
        exact ⟨rfl, rfl, (Below.refl _ _), rfl⟩
      · intro uF W hC' hU aF hF
        have hC : Below v.heap.size v W := hC'
        clear hC'
        simp only [puts] at hF
        subst hF
        go_wp2_with (fail)
        exact ⟨rfl, rfl, (Below.refl _ _), rfl⟩
      · intro uF W hC' hU aF hF
        have hC : Below v.heap.size v W := hC'
        clear hC'
        have h23 : (Det (.slice (some ⟨bb, off, none⟩) n c)) (uF 8) W := hU.1
        clear hU
        simp only [puts, Act.put, List.setIfInBounds_toArray, List.set_cons_zero, List.set_cons_succ] at hF
        generalize uF 8 = x23 at h23 hF
        obtain rfl : x23 = (.slice (some ⟨bb, off, none⟩) n c) := h23
        subst hF
        go_wp2_with (fail)
        exact ⟨rfl, rfl, (Below.refl _ _), rfl⟩
      · intro uF W hC' hU aF hF
        have hC : Below v.heap.size v W := hC'
        clear hC'
        have h24 : (Det (.pointer (some ⟨bb, off + 2, none⟩))) (uF 9) W := hU.1
        clear hU
        simp only [puts, Act.put, List.setIfInBounds_toArray, List.set_cons_zero, List.set_cons_succ] at hF
        generalize uF 9 = x24 at h24 hF
        obtain rfl : x24 = (.pointer (some ⟨bb, off + 2, none⟩)) := h24
        subst hF
        have k0 := (hC.cell (show (⟨bb, off + 2, none⟩ : Addr).block < v.heap.size from hbbv)).trans HC2.out
        go_wp2_with (fail)
        exact ⟨rfl, rfl, (Below.refl _ _), rfl⟩
      · intro uF W hC' hU aF hF
        have hC : Below v.heap.size v W := hC'
        clear hC'
        have h25 : (Det (.int .u8 (nm bs 2 1))) (uF 10) W := hU.1
        clear hU
        simp only [puts, Act.put, List.setIfInBounds_toArray, List.set_cons_zero, List.set_cons_succ] at hF
        generalize uF 10 = x25 at h25 hF
        obtain rfl : x25 = (.int .u8 (nm bs 2 1)) := h25
        subst hF
        go_wp2_with (fail)
        exact ⟨rfl, rfl, (Below.refl _ _), rfl⟩
      · intro uF W hC' hU aF hF
        have hC : Below v.heap.size v W := hC'
        clear hC'
        have h26 : (Det (.int .i64 (nm bs 2 1))) (uF 11) W := hU.1
        clear hU
        simp only [puts, Act.put, List.setIfInBounds_toArray, List.set_cons_zero, List.set_cons_succ] at hF
        generalize uF 11 = x26 at h26 hF
        obtain rfl : x26 = (.int .i64 (nm bs 2 1)) := h26
        subst hF
        go_wp2_with (fail)
        exact ⟨rfl, rfl, (Below.refl _ _), rfl⟩
      · intro uF W hC' hU aF hF
        have hC : Below v.heap.size v W := hC'
        clear hC'
        simp only [puts] at hF
        subst hF
        go_wp2_with (fail)
        exact ⟨rfl, rfl, (Below.refl _ _), rfl⟩
      · intro uF W hC' hU aF hF
        have hC : Below v.heap.size v W := hC'
        clear hC'
        have h28 : (Det (.slice (some ⟨bb, off, none⟩) n c)) (uF 13) W := hU.1
        clear hU
        simp only [puts, Act.put, List.setIfInBounds_toArray, List.set_cons_zero, List.set_cons_succ] at hF
        generalize uF 13 = x28 at h28 hF
        obtain rfl : x28 = (.slice (some ⟨bb, off, none⟩) n c) := h28
        subst hF
        go_wp2_with (fail)
        exact ⟨rfl, rfl, (Below.refl _ _), rfl⟩
      · intro uF W hC' hU aF hF
        have hC : Below v.heap.size v W := hC'
        clear hC'
        have h29 : (Det (.pointer (some ⟨bb, off + 3, none⟩))) (uF 14) W := hU.1
        clear hU
        simp only [puts, Act.put, List.setIfInBounds_toArray, List.set_cons_zero, List.set_cons_succ] at hF
        generalize uF 14 = x29 at h29 hF
        obtain rfl : x29 = (.pointer (some ⟨bb, off + 3, none⟩)) := h29
        subst hF
        have k0 := (hC.cell (show (⟨bb, off + 3, none⟩ : Addr).block < v.heap.size from hbbv)).trans HC3.out
        go_wp2_with (fail)
        exact ⟨rfl, rfl, (Below.refl _ _), rfl⟩
      · intro uF W hC' hU aF hF
        have hC : Below v.heap.size v W := hC'
        clear hC'
        have h30 : (Det (.int .u8 (nm bs 3 1))) (uF 15) W := hU.1
        clear hU
        simp only [puts, Act.put, List.setIfInBounds_toArray, List.set_cons_zero, List.set_cons_succ] at hF
        generalize uF 15 = x30 at h30 hF
        obtain rfl : x30 = (.int .u8 (nm bs 3 1)) := h30
        subst hF
        go_wp2_with (fail)
        exact ⟨rfl, rfl, (Below.refl _ _), rfl⟩
      · intro uF W hC' hU aF hF
        have hC : Below v.heap.size v W := hC'
        clear hC'
        have h27 : (Det (.int .i64 (nm bs 2 1 * 256))) (uF 12) W := hU.1
        have h31 : (Det (.int .i64 (nm bs 3 1))) (uF 16) W := hU.2.1
        clear hU
        simp only [puts, Act.put, List.setIfInBounds_toArray, List.set_cons_zero, List.set_cons_succ] at hF
        generalize uF 12 = x27 at h27 hF
        generalize uF 16 = x31 at h31 hF
        obtain rfl : x27 = (.int .i64 (nm bs 2 1 * 256)) := h27
        obtain rfl : x31 = (.int .i64 (nm bs 3 1)) := h31
        subst hF
        go_wp2_with (fail)
        exact ⟨rfl, rfl, (Below.refl _ _), rfl⟩
      · intro uF W hC' hU aF hF
        have hC : Below v.heap.size v W := hC'
        clear hC'
        simp only [puts] at hF
        subst hF
        go_wp2_with (fail)
        exact ⟨rfl, rfl, (Below.refl _ _), rfl⟩
      · intro uF W hC' hU aF hF
        have hC : Below v.heap.size v W := hC'
        clear hC'
        have h33 : (Det (.slice (some ⟨bb, off, none⟩) n c)) (uF 18) W := hU.1
        clear hU
        simp only [puts, Act.put, List.setIfInBounds_toArray, List.set_cons_zero, List.set_cons_succ] at hF
        generalize uF 18 = x33 at h33 hF
        obtain rfl : x33 = (.slice (some ⟨bb, off, none⟩) n c) := h33
        subst hF
        go_wp2_with (fail)
        exact ⟨rfl, rfl, (Below.refl _ _), rfl⟩
      · intro uF W hC' hU aF hF
        have hC : Below v.heap.size v W := hC'
        clear hC'
        have h34 : (Det (.pointer (some ⟨bb, off + 4, none⟩))) (uF 19) W := hU.1
        clear hU
        simp only [puts, Act.put, List.setIfInBounds_toArray, List.set_cons_zero, List.set_cons_succ] at hF
        generalize uF 19 = x34 at h34 hF
        obtain rfl : x34 = (.pointer (some ⟨bb, off + 4, none⟩)) := h34
        subst hF
        have k0 := (hC.cell (show (⟨bb, off + 4, none⟩ : Addr).block < v.heap.size from hbbv)).trans HC4.out
        go_wp2_with (fail)
        exact ⟨rfl, rfl, (Below.refl _ _), rfl⟩
      · intro uF W hC' hU aF hF
        have hC : Below v.heap.size v W := hC'
        clear hC'
        have h35 : (Det (.int .u8 (nm bs 4 1))) (uF 20) W := hU.1
        clear hU
        simp only [puts, Act.put, List.setIfInBounds_toArray, List.set_cons_zero, List.set_cons_succ] at hF
        generalize uF 20 = x35 at h35 hF
        obtain rfl : x35 = (.int .u8 (nm bs 4 1)) := h35
        subst hF
        go_wp2_with (fail)
        exact ⟨rfl, rfl, (Below.refl _ _), rfl⟩
      · intro uF W hC' hU aF hF
        have hC : Below v.heap.size v W := hC'
        clear hC'
        have h36 : (Det (.int .i64 (nm bs 4 1))) (uF 21) W := hU.1
        clear hU
        simp only [puts, Act.put, List.setIfInBounds_toArray, List.set_cons_zero, List.set_cons_succ] at hF
        generalize uF 21 = x36 at h36 hF
        obtain rfl : x36 = (.int .i64 (nm bs 4 1)) := h36
        subst hF
        go_wp2_with (fail)
        exact ⟨rfl, rfl, (Below.refl _ _), rfl⟩
      · intro uF W hC' hU aF hF
        have hC : Below v.heap.size v W := hC'
        clear hC'
        simp only [puts] at hF
        subst hF
        go_wp2_with (fail)
        exact ⟨rfl, rfl, (Below.refl _ _), rfl⟩
      · intro uF W hC' hU aF hF
        have hC : Below v.heap.size v W := hC'
        clear hC'
        have h38 : (Det (.slice (some ⟨bb, off, none⟩) n c)) (uF 23) W := hU.1
        clear hU
        simp only [puts, Act.put, List.setIfInBounds_toArray, List.set_cons_zero, List.set_cons_succ] at hF
        generalize uF 23 = x38 at h38 hF
        obtain rfl : x38 = (.slice (some ⟨bb, off, none⟩) n c) := h38
        subst hF
        go_wp2_with (fail)
        exact ⟨rfl, rfl, (Below.refl _ _), rfl⟩
      · intro uF W hC' hU aF hF
        have hC : Below v.heap.size v W := hC'
        clear hC'
        have h39 : (Det (.pointer (some ⟨bb, off + 5, none⟩))) (uF 24) W := hU.1
        clear hU
        simp only [puts, Act.put, List.setIfInBounds_toArray, List.set_cons_zero, List.set_cons_succ] at hF
        generalize uF 24 = x39 at h39 hF
        obtain rfl : x39 = (.pointer (some ⟨bb, off + 5, none⟩)) := h39
        subst hF
        have k0 := (hC.cell (show (⟨bb, off + 5, none⟩ : Addr).block < v.heap.size from hbbv)).trans HC5.out
        go_wp2_with (fail)
        exact ⟨rfl, rfl, (Below.refl _ _), rfl⟩
      · intro uF W hC' hU aF hF
        have hC : Below v.heap.size v W := hC'
        clear hC'
        have h40 : (Det (.int .u8 (nm bs 5 1))) (uF 25) W := hU.1
        clear hU
        simp only [puts, Act.put, List.setIfInBounds_toArray, List.set_cons_zero, List.set_cons_succ] at hF
        generalize uF 25 = x40 at h40 hF
        obtain rfl : x40 = (.int .u8 (nm bs 5 1)) := h40
        subst hF
        go_wp2_with (fail)
        exact ⟨rfl, rfl, (Below.refl _ _), rfl⟩
      · intro uF W hC' hU aF hF
        have hC : Below v.heap.size v W := hC'
        clear hC'
        have h37 : (Det (.int .i64 (nm bs 4 1 * 256))) (uF 22) W := hU.1
        have h41 : (Det (.int .i64 (nm bs 5 1))) (uF 26) W := hU.2.1
        clear hU
        simp only [puts, Act.put, List.setIfInBounds_toArray, List.set_cons_zero, List.set_cons_succ] at hF
        generalize uF 22 = x37 at h37 hF
        generalize uF 26 = x41 at h41 hF
        obtain rfl : x37 = (.int .i64 (nm bs 4 1 * 256)) := h37
        obtain rfl : x41 = (.int .i64 (nm bs 5 1)) := h41
        subst hF
        go_wp2_with (fail)
        exact ⟨rfl, rfl, (Below.refl _ _), rfl⟩
      · intro uF W hC' hU aF hF
        have hC : Below v.heap.size v W := hC'
        clear hC'
        have h18 : (Det (.int .i64 (nm bs 0 1))) (uF 3) W := hU.1
        have h22 : (Det (.int .i64 (nm bs 1 1))) (uF 7) W := hU.2.1
        have h32 : (Det (.int .i64 (nm bs 2 2))) (uF 17) W := hU.2.2.1
        have h42 : (Det (.int .i64 (nm bs 4 2))) (uF 27) W := hU.2.2.2.1
        clear hU
        simp only [puts, Act.put, List.setIfInBounds_toArray, List.set_cons_zero, List.set_cons_succ] at hF
        generalize uF 3 = x18 at h18 hF
        generalize uF 7 = x22 at h22 hF
        generalize uF 17 = x32 at h32 hF
        generalize uF 27 = x42 at h42 hF
        obtain rfl : x18 = (.int .i64 (nm bs 0 1)) := h18
        obtain rfl : x22 = (.int .i64 (nm bs 1 1)) := h22
        obtain rfl : x32 = (.int .i64 (nm bs 2 2)) := h32
        obtain rfl : x42 = (.int .i64 (nm bs 4 2)) := h42
        subst hF
        go_wp2_with (fail)
        exact ⟨rfl, rfl, (Below.refl _ _), rfl⟩
      · intro uF W hC' hU aF hF
        have hC : Below v.heap.size v W := hC'
        clear hC'
        simp only [puts] at hF
        subst hF
        go_wp2_with (((with_reducible show wpList _ _ _ (Oper.mk (some 4) (Op.alloc _) _ _ _ _ :: _) _ _); refine wpList_alloc_agg (by rfl) 56 rfl #[.int .i64 0, .int .i64 0, .int .i64 0, .int .i64 0, .slice none 0 0, .int .i64 0, .int .i64 0, .int .i64 0, .int .i64 0, .int .i64 0, .bool false] zeroCm ?_))
        exact ⟨rfl, rfl, (below_alloc _ _), ⟨_, rfl, hC.size, Blk.new _ _ _⟩⟩
    intro uF W5 hC' hU aF hF
    have hCW5 : Below v.heap.size v W5 := hC'
    clear hC'
    have h43 : (Det (.agg #[.int .i64 (nm bs 0 1), .int .i64 (nm bs 1 1), .int .i64 (nm bs 2 2), .int .i64 (nm bs 4 2), .slice none 0 0, .int .i64 0, .int .i64 0, .int .i64 0, .int .i64 0, .int .i64 0, .bool false])) (uF 28) W5 := hU.2.2.2.2.2.2.2.2.2.2.2.2.2.2.2.2.2.2.2.2.2.2.2.2.2.2.2.2.1
    have h4 : (RelZ v.heap.size 56 #[.int .i64 0, .int .i64 0, .int .i64 0, .int .i64 0, .slice none 0 0, .int .i64 0, .int .i64 0, .int .i64 0, .int .i64 0, .int .i64 0, .bool false]) (uF 29) W5 := hU.2.2.2.2.2.2.2.2.2.2.2.2.2.2.2.2.2.2.2.2.2.2.2.2.2.2.2.2.2.1
    clear hU
    simp only [List.take_succ_cons, List.take_zero, puts, Act.put, List.setIfInBounds_toArray, List.set_cons_zero, List.set_cons_succ] at hF
    generalize uF 0 = x15 at hF
    generalize uF 1 = x16 at hF
    generalize uF 2 = x17 at hF
    generalize uF 3 = x18 at hF
    generalize uF 4 = x19 at hF
    generalize uF 5 = x20 at hF
    generalize uF 6 = x21 at hF
    generalize uF 7 = x22 at hF
    generalize uF 8 = x23 at hF
    generalize uF 9 = x24 at hF
    generalize uF 10 = x25 at hF
    generalize uF 11 = x26 at hF
    generalize uF 12 = x27 at hF
    generalize uF 13 = x28 at hF
    generalize uF 14 = x29 at hF
    generalize uF 15 = x30 at hF
    generalize uF 16 = x31 at hF
    generalize uF 17 = x32 at hF
    generalize uF 18 = x33 at hF
    generalize uF 19 = x34 at hF
    generalize uF 20 = x35 at hF
    generalize uF 21 = x36 at hF
    generalize uF 22 = x37 at hF
    generalize uF 23 = x38 at hF
    generalize uF 24 = x39 at hF
    generalize uF 25 = x40 at hF
    generalize uF 26 = x41 at hF
    generalize uF 27 = x42 at hF
    generalize uF 28 = x43 at h43 hF
    generalize uF 29 = x4 at h4 hF
    obtain rfl : x43 = (.agg #[.int .i64 (nm bs 0 1), .int .i64 (nm bs 1 1), .int .i64 (nm bs 2 2), .int .i64 (nm bs 4 2), .slice none 0 0, .int .i64 0, .int .i64 0, .int .i64 0, .int .i64 0, .int .i64 0, .bool false]) := h43
    obtain ⟨g4, rfl, z4, b4⟩ := h4
    subst hF
    simp only [List.drop_succ_cons, List.drop_zero]
    refine wpListIn_of free_wide (fun ⟨_, _, h⟩ => h) rfl ?_
    refine wpList_store_whole rfl 56 (.tmp 4) (.tmp 43) rfl g4 rfl [.int .i64 (nm bs 0 1), .int .i64 (nm bs 1 1), .int .i64 (nm bs 2 2), .int .i64 (nm bs 4 2), .slice none 0 0, .int .i64 0, .int .i64 0, .int .i64 0, .int .i64 0, .int .i64 0, .bool false] rfl aggCm rfl _ _ b4 rfl (by simp [Value.oneCell']) ?_
    intro w4 hb4 hg4 hs4
    exact wpList_nil ⟨g4, ⟨_, _, _, _, _, _, _, _, _, _, _, _, _, _, _, _, _, _, _, _, _, _, _, _, _, _, _, _, _, _, _, _, _, rfl⟩, hb4, z4, hCW5.grown hg4 hCW5.size (fun k hk => by cases hk; exact z4)⟩
  rintro e a' w4 h
  clear e22 e42
  cases e with
  | normal =>
    obtain ⟨g4, ⟨y11, y12, y13, y14, y15, y16, y17, y18, y19, y20, y21, y22, y23, y24, y25, y26, y27, y28, y29, y30, y31, y32, y33, y34, y35, y36, y37, y38, y39, y40, y41, y42, y43, rfl⟩, hb4, hg4, hw4⟩ := h
    have hw4w := hwv.trans (hw4.mono hz)
    have hz4 := hw4.size
    have b24 := b2.below hw4 b2.lt
    have b2lt := b2.lt
    have k0 : w4.cell? ⟨g4, 0, none⟩ = some (.int .i64 (nm bs 0 1)) := by rw [hb4.cell]; rfl
    have k4 : w4.cell? ⟨g4, 4, none⟩ = some (.slice none 0 0) := by rw [hb4.cell]; rfl
    have f4 := hb4.frozen 4
    have hbl := hb4.lt
    rw [h2] at k0 hb4
    go_wp2_with (first
      | ((with_reducible show wpList _ _ _ (Oper.mk (some 88) (Op.load 56 _) _ _ _ _ :: _) _ _); refine wpList_load_whole (by rfl) 56 (.tmp 4) rfl g4 rfl #[.int .i64 2, .int .i64 (nm bs 1 1), .int .i64 (nm bs 2 2), .int .i64 (nm bs 4 2), .slice A5 (n - 6) c5, .int .i64 0, .int .i64 0, .int .i64 0, .int .i64 0, .int .i64 0, .bool false] aggCm rfl _ b6 ?_)
      | (go_at_call 30; refine (crefenc_bad 2 (nm bs 1 1) (nm bs 2 2) (nm bs 4 2) 0 0 0 0 0 false (OwB.sl o6) (Nat.le_refl _) (by omega) ⟨by decide, nm_wf _ _ _, nm_wf _ _ _, nm_wf _ _ _⟩ ⟨by decide, by decide, by decide, by decide⟩ hgood).mono ?_; rintro e w7 ⟨rfl, hb7⟩; have hw7 := hv6.trans (hb7.mono hz6); have hz7 := hw7.size; have b27 := b26.below hb7 b26.lt; have b67 := b6.below hb7 b6.lt; have o67 := OwB.below o6 hb7)
      | (at_builtin; refine wpList_append8 rfl (.tmp 47) (.tmp 49) rfl rfl (OwB.nil _ w4.heap.size _) rfl (H6.out.below ((hw4.trans ((below_alloc _ _).mono hz4)).mono hBv)) (by omega) (by simp) (n - 6) (by omega) ?_; intro A5 c5 w5 h5' q5; have hb5 := q5.below (OwB.nil _ w4.heap.size _) (below_alloc w4 _) (Nat.le_refl _) (by simp); have h5 : OwB w5 w4.heap.size A5 (n - 6) c5 (bs.drop 6) := h5'; have b45 := hb4.below hb5 hb4.lt; have b25 := b24.below hb5 b24.lt; have hw5 := hw4w.trans (hb5.mono hw4w.size); have hw5v := hw4.trans (hb5.mono hz4); have hz5 := hb5.size; have k05 : w5.cell? ⟨g4, 4, none⟩ = some (.slice none 0 0) := (by rw [b45.cell]; rfl); have f45 := b45.frozen 4; clear h5' q5)
      | ((with_reducible show wpList _ _ _ (Oper.mk (some 53) (Op.load _ _) _ _ _ _ :: _) _ _); (fail_if_success have hx := b6); obtain ⟨V6, hV6⟩ : ∃ V6, V6 = w5.setCell ⟨g4, 4, none⟩ (.slice A5 (n - 6) c5) := ⟨_, rfl⟩; have b6 : Blk V6 g4 56 #[.int .i64 2, .int .i64 (nm bs 1 1), .int .i64 (nm bs 2 2), .int .i64 (nm bs 4 2), .slice A5 (n - 6) c5, .int .i64 0, .int .i64 0, .int .i64 0, .int .i64 0, .int .i64 0, .bool false] := (by rw [hV6]; simpa using b45.set_ 4 (.slice A5 (n - 6) c5)); have b26 : Blk V6 w.heap.size 56 #[.int .i64 0, .int .i64 0, .int .i64 0, .int .i64 0, .slice none 0 0, .int .i64 0, .int .i64 0, .int .i64 0, .int .i64 0, .int .i64 0, .bool false] := (by rw [hV6]; exact b25.far (by show w.heap.size ≠ g4; omega) _); have hv6 : Below w.heap.size w V6 := (by rw [hV6]; exact hw5.setCell (p := ⟨g4, 4, none⟩) (by show w.heap.size ≤ g4; omega) _); have hv6v : Below v.heap.size v V6 := (by rw [hV6]; exact hw5v.setCell (p := ⟨g4, 4, none⟩) hg4 _); have hz6 := hv6.size; have o6 : OwB V6 w4.heap.size A5 (n - 6) c5 (bs.drop 6) := (by rw [hV6]; exact own_set h5 hbl 4 _); have k06 : V6.cell? ⟨g4, 0, none⟩ = some (.int .i64 2) := (by rw [b6.cell]; rfl); rw [← hV6]; clear hV6)
      | ((with_reducible show wpList _ _ _ (Oper.mk none (Op.store 56 (.tmp 2) (.tmp 101)) _ _ _ _ :: _) _ _); refine wpList_store_whole rfl 56 (.tmp 2) (.tmp 101) rfl w.heap.size rfl [.int .i64 0, .int .i64 0, .int .i64 0, .int .i64 0, .slice none 0 0, .int .i64 0, .int .i64 0, .int .i64 0, .int .i64 0, .int .i64 0, .bool false] rfl aggCm rfl _ _ b27 rfl (by simp [Value.oneCell']) ?_; intro wf bf gf sf))
    refine bodyPost_ret (results_cell_tmp rfl _ w.heap.size _ #[.int .i64 0, .int .i64 0, .int .i64 0, .int .i64 0, .slice none 0 0, .int .i64 0, .int .i64 0, .int .i64 0, .int .i64 0, .int .i64 0, .bool false] aggCm rfl rfl bf) rfl ⟨rfl, ?_⟩
    exact hw7.grown gf hz7 (fun k hk => by cases hk; exact Nat.le_refl _)
  | _ => exact h.elim

set_option maxHeartbeats 4000000 in
theorem crefdec_other_yes {w : World} {B : Nat} {A : Option Addr} {n c : Nat} {bs : List UInt8} (hb : SlB w B A n c bs) (hB : B ≤ w.heap.size) (hn : n ≤ 1048576) (h1 : 6 ≤ n) (hn2 : nm bs 0 1 ≠ 2) (hn6 : nm bs 0 1 ≠ 6) (hgood : goodC (nm bs 0 1) (nm bs 1 1) (nm bs 2 2) (nm bs 4 2) 0 0 0 0 0 0 false) (heq : (cmB (nm bs 0 1) (nm bs 1 1) (nm bs 2 2) (nm bs 4 2) 0 0 0 0 false [] == bs) = true) (hdz : bs.drop 6 = []) :
    Calls Try.prog 37 #[.slice A n c] w fun e w' => ∃ A' m' c', e = .returned (.tuple #[.agg #[.int .i64 (nm bs 0 1), .int .i64 (nm bs 1 1), .int .i64 (nm bs 2 2), .int .i64 (nm bs 4 2), .slice A' m' c', .int .i64 0, .int .i64 0, .int .i64 0, .int .i64 0, .int .i64 0, .bool false], .bool true]) ∧ OwB w' w.heap.size A' m' c' (bs.drop 6) ∧ Below w.heap.size w w' := by
  have hlen := hb.len
  have hcap := hb.le
  have hcm : c ≤ 9223372036854775807 := hb.cap
  obtain ⟨v, hv⟩ : ∃ v, v = w.alloc (.cells #[.int .i64 0, .int .i64 0, .int .i64 0, .int .i64 0, .slice none 0 0, .int .i64 0, .int .i64 0, .int .i64 0, .int .i64 0, .int .i64 0, .bool false] 56) := ⟨_, rfl⟩
  have b2 : Blk v w.heap.size 56 #[.int .i64 0, .int .i64 0, .int .i64 0, .int .i64 0, .slice none 0 0, .int .i64 0, .int .i64 0, .int .i64 0, .int .i64 0, .int .i64 0, .bool false] := by rw [hv]; exact Blk.new _ _ _
  have hwv : Below w.heap.size w v := by rw [hv]; exact below_alloc _ _
  have hz := hwv.size
  have hbv := hb.below (hwv.mono hB)
  have hBv := Nat.le_trans hB hz
  obtain ⟨bb, off, eA, hbb, hj⟩ := hbv.at_ (by omega)
  obtain ⟨x0, hx0⟩ : ∃ x, bs[0]? = some x := ⟨bs[0]'(by omega), List.getElem?_eq_getElem _⟩
  have c0 : v.cell? ⟨bb, off, none⟩ = some (.int .u8 (nm bs 0 1)) := by rw [show nm bs 0 1 = (x0.toNat : Int) from bigN_one (i := 0) hx0]; exact hj 0 x0 hx0
  obtain ⟨p0, q0⟩ := nm_one (bs := bs) (a := 0) (by omega)
  have hi0 : (0 : Int) < (n : Int) := by omega
  obtain ⟨x1, hx1⟩ : ∃ x, bs[1]? = some x := ⟨bs[1]'(by omega), List.getElem?_eq_getElem _⟩
  have c1 : v.cell? ⟨bb, off + 1, none⟩ = some (.int .u8 (nm bs 1 1)) := by rw [show nm bs 1 1 = (x1.toNat : Int) from bigN_one (i := 1) hx1]; exact hj 1 x1 hx1
  obtain ⟨p1, q1⟩ := nm_one (bs := bs) (a := 1) (by omega)
  have hi1 : (1 : Int) < (n : Int) := by omega
  obtain ⟨x2, hx2⟩ : ∃ x, bs[2]? = some x := ⟨bs[2]'(by omega), List.getElem?_eq_getElem _⟩
  have c2 : v.cell? ⟨bb, off + 2, none⟩ = some (.int .u8 (nm bs 2 1)) := by rw [show nm bs 2 1 = (x2.toNat : Int) from bigN_one (i := 2) hx2]; exact hj 2 x2 hx2
  obtain ⟨p2, q2⟩ := nm_one (bs := bs) (a := 2) (by omega)
  have hi2 : (2 : Int) < (n : Int) := by omega
  obtain ⟨x3, hx3⟩ : ∃ x, bs[3]? = some x := ⟨bs[3]'(by omega), List.getElem?_eq_getElem _⟩
  have c3 : v.cell? ⟨bb, off + 3, none⟩ = some (.int .u8 (nm bs 3 1)) := by rw [show nm bs 3 1 = (x3.toNat : Int) from bigN_one (i := 3) hx3]; exact hj 3 x3 hx3
  obtain ⟨p3, q3⟩ := nm_one (bs := bs) (a := 3) (by omega)
  have hi3 : (3 : Int) < (n : Int) := by omega
  obtain ⟨x4, hx4⟩ : ∃ x, bs[4]? = some x := ⟨bs[4]'(by omega), List.getElem?_eq_getElem _⟩
  have c4 : v.cell? ⟨bb, off + 4, none⟩ = some (.int .u8 (nm bs 4 1)) := by rw [show nm bs 4 1 = (x4.toNat : Int) from bigN_one (i := 4) hx4]; exact hj 4 x4 hx4
  obtain ⟨p4, q4⟩ := nm_one (bs := bs) (a := 4) (by omega)
  have hi4 : (4 : Int) < (n : Int) := by omega
  obtain ⟨x5, hx5⟩ : ∃ x, bs[5]? = some x := ⟨bs[5]'(by omega), List.getElem?_eq_getElem _⟩
  have c5 : v.cell? ⟨bb, off + 5, none⟩ = some (.int .u8 (nm bs 5 1)) := by rw [show nm bs 5 1 = (x5.toNat : Int) from bigN_one (i := 5) hx5]; exact hj 5 x5 hx5
  obtain ⟨p5, q5⟩ := nm_one (bs := bs) (a := 5) (by omega)
  have hi5 : (5 : Int) < (n : Int) := by omega
  have hi6' : (6 : Int) ≤ (n : Int) := by omega
  have e22 := nm_pair (bs := bs) (i := 2) (by omega)
  have e42 := nm_pair (bs := bs) (i := 4) (by omega)
  obtain ⟨p22, q22⟩ := nm_two (bs := bs) (a := 2) (by omega)
  obtain ⟨p42, q42⟩ := nm_two (bs := bs) (a := 4) (by omega)
  subst eA
  have HV := Lib.hid hv
  have HB := Lib.hid hbv
  have HC0 := Lib.hid c0
  have HC1 := Lib.hid c1
  have HC2 := Lib.hid c2
  have HC3 := Lib.hid c3
  have HC4 := Lib.hid c4
  have HC5 := Lib.hid c5
  have hbbv : bb < v.heap.size := Nat.lt_of_lt_of_le hbb hBv
  clear hv hb hbv hj c0 hx0 c1 hx1 c2 hx2 c3 hx3 c4 hx4 c5 hx5 
  go_enter Try.func37, Try.ntmps37
  go_wp2_with (first
    | ((with_reducible show wpList _ _ _ (Oper.mk (some 2) (Op.alloc _) _ _ _ _ :: _) _ _); refine wpList_alloc_agg rfl 56 rfl #[.int .i64 0, .int .i64 0, .int .i64 0, .int .i64 0, .slice none 0 0, .int .i64 0, .int .i64 0, .int .i64 0, .int .i64 0, .int .i64 0, .bool false] zeroCm ?_; rw [← HV.out]))
  refine Code.wp_mono (Q := Exit.then (fun a' w' => ∃ g4, (∃ y11 y12 y13 y14 y15 y16 y17 y18 y19 y20 y21 y22 y23 y24 y25 y26 y27 y28 y29 y30 y31 y32 y33 y34 y35 y36 y37 y38 y39 y40 y41 y42 y43 : Value, a' = { tmps := #[Value.slice (some ⟨bb, off, none⟩) n c, undef, Value.pointer (some ⟨w.heap.size, 0, none⟩), Value.bool false, Value.pointer (some ⟨g4, 0, none⟩), undef, undef, undef, undef, undef, undef, y11, y12, y13, y14, y15, y16, y17, y18, y19, y20, y21, y22, y23, y24, y25, y26, y27, y28, y29, y30, y31, y32, y33, y34, y35, y36, y37, y38, y39, y40, y41, y42, y43, undef, undef, undef, undef, undef, undef, undef, undef, undef, undef, undef, undef, undef, undef, undef, undef, undef, undef, undef, undef, undef, undef, undef, undef, undef, undef, undef, undef, undef, undef, undef, undef, undef, undef, undef, undef, undef, undef, undef, undef, undef, undef, undef, undef, undef, undef, undef, undef, undef, undef, undef, undef, undef, undef, undef, undef, undef, undef, undef], defers := [] }) ∧ Blk w' g4 56 #[.int .i64 (nm bs 0 1), .int .i64 (nm bs 1 1), .int .i64 (nm bs 2 2), .int .i64 (nm bs 4 2), .slice none 0 0, .int .i64 0, .int .i64 0, .int .i64 0, .int .i64 0, .int .i64 0, .bool false] ∧ v.heap.size ≤ g4 ∧ Below v.heap.size v w') (fun _ _ _ => False)) ?_ ?_
  rotate_left
  · refine (wpIn_wide (n := 4)).1 ?_
    refine wpIn_region_rel free_wide rfl 30 (fun W W' => Below W.heap.size W W') (fun W => Below v.heap.size v W)
      [Det (.slice (some ⟨bb, off, none⟩) n c), Det (.pointer (some ⟨bb, off, none⟩)), Det (.int .u8 (nm bs 0 1)), Det (.int .i64 (nm bs 0 1)), Det (.slice (some ⟨bb, off, none⟩) n c), Det (.pointer (some ⟨bb, off + 1, none⟩)), Det (.int .u8 (nm bs 1 1)), Det (.int .i64 (nm bs 1 1)), Det (.slice (some ⟨bb, off, none⟩) n c), Det (.pointer (some ⟨bb, off + 2, none⟩)), Det (.int .u8 (nm bs 2 1)), Det (.int .i64 (nm bs 2 1)), Det (.int .i64 (nm bs 2 1 * 256)), Det (.slice (some ⟨bb, off, none⟩) n c), Det (.pointer (some ⟨bb, off + 3, none⟩)), Det (.int .u8 (nm bs 3 1)), Det (.int .i64 (nm bs 3 1)), Det (.int .i64 (nm bs 2 2)), Det (.slice (some ⟨bb, off, none⟩) n c), Det (.pointer (some ⟨bb, off + 4, none⟩)), Det (.int .u8 (nm bs 4 1)), Det (.int .i64 (nm bs 4 1)), Det (.int .i64 (nm bs 4 1 * 256)), Det (.slice (some ⟨bb, off, none⟩) n c), Det (.pointer (some ⟨bb, off + 5, none⟩)), Det (.int .u8 (nm bs 5 1)), Det (.int .i64 (nm bs 5 1)), Det (.int .i64 (nm bs 4 2)), Det (.agg #[.int .i64 (nm bs 0 1), .int .i64 (nm bs 1 1), .int .i64 (nm bs 2 2), .int .i64 (nm bs 4 2), .slice none 0 0, .int .i64 0, .int .i64 0, .int .i64 0, .int .i64 0, .int .i64 0, .bool false]), RelZ v.heap.size 56 #[.int .i64 0, .int .i64 0, .int .i64 0, .int .i64 0, .slice none 0 0, .int .i64 0, .int .i64 0, .int .i64 0, .int .i64 0, .int .i64 0, .bool false], Any]
      [[], [(0, some 15)], [(1, some 16)], [(2, some 17)], [], [(4, some 19)], [(5, some 20)], [(6, some 21)], [], [(8, some 23)], [(9, some 24)], [(10, some 25)], [(11, some 26)], [], [(13, some 28)], [(14, some 29)], [(15, some 30)], [(12, some 27), (16, some 31)], [], [(18, some 33)], [(19, some 34)], [(20, some 35)], [(21, some 36)], [], [(23, some 38)], [(24, some 39)], [(25, some 40)], [(22, some 37), (26, some 41)], [(3, some 18), (7, some 22), (17, some 32), (27, some 42)], [], [(29, some 4), (28, some 43)]]
      [[], [0], [0, 1], [0, 1, 2], [], [4], [4, 5], [4, 5, 6], [], [8], [8, 9], [8, 9, 10], [8, 9, 10, 11], [], [13], [13, 14], [13, 14, 15], [8, 9, 10, 11, 12, 13, 14, 15, 16], [], [18], [18, 19], [18, 19, 20], [18, 19, 20, 21], [], [23], [23, 24], [23, 24, 25], [18, 19, 20, 21, 22, 23, 24, 25, 26], [0, 1, 2, 3, 4, 5, 6, 7, 8, 9, 10, 11, 12, 13, 14, 15, 16, 17, 18, 19, 20, 21, 22, 23, 24, 25, 26, 27], [], [0, 1, 2, 3, 4, 5, 6, 7, 8, 9, 10, 11, 12, 13, 14, 15, 16, 17, 18, 19, 20, 21, 22, 23, 24, 25, 26, 27, 28, 29]]
      [(0, some 15), (1, some 16), (2, some 17), (3, some 18), (4, some 19), (5, some 20), (6, some 21), (7, some 22), (8, some 23), (9, some 24), (10, some 25), (11, some 26), (12, some 27), (13, some 28), (14, some 29), (15, some 30), (16, some 31), (17, some 32), (18, some 33), (19, some 34), (20, some 35), (21, some 36), (22, some 37), (23, some 38), (24, some 39), (25, some 40), (26, some 41), (27, some 42), (28, some 43), (29, some 4), (30, none)] (by kernel_rfl) (by kernel_rfl) (by kernel_rfl) (fun W W' h1 h2 => h1.trans (h2.mono h1.size)) ((Below.refl _ _).drew) ?_ ?_ ?_
    · exact (AllMono.cons Det.later (AllMono.cons Det.later (AllMono.cons Det.later (AllMono.cons Det.later (AllMono.cons Det.later (AllMono.cons Det.later (AllMono.cons Det.later (AllMono.cons Det.later (AllMono.cons Det.later (AllMono.cons Det.later (AllMono.cons Det.later (AllMono.cons Det.later (AllMono.cons Det.later (AllMono.cons Det.later (AllMono.cons Det.later (AllMono.cons Det.later (AllMono.cons Det.later (AllMono.cons Det.later (AllMono.cons Det.later (AllMono.cons Det.later (AllMono.cons Det.later (AllMono.cons Det.later (AllMono.cons Det.later (AllMono.cons Det.later (AllMono.cons Det.later (AllMono.cons Det.later (AllMono.cons Det.later (AllMono.cons Det.later (AllMono.cons Det.later (AllMono.cons RelZ.later (AllMono.cons Any.later AllMono.nil)))))))))))))))))))))))))))))))
    · refine AllOb.cons ?_ (AllOb.cons ?_ (AllOb.cons ?_ (AllOb.cons ?_ (AllOb.cons ?_ (AllOb.cons ?_ (AllOb.cons ?_ (AllOb.cons ?_ (AllOb.cons ?_ (AllOb.cons ?_ (AllOb.cons ?_ (AllOb.cons ?_ (AllOb.cons ?_ (AllOb.cons ?_ (AllOb.cons ?_ (AllOb.cons ?_ (AllOb.cons ?_ (AllOb.cons ?_ (AllOb.cons ?_ (AllOb.cons ?_ (AllOb.cons ?_ (AllOb.cons ?_ (AllOb.cons ?_ (AllOb.cons ?_ (AllOb.cons ?_ (AllOb.cons ?_ (AllOb.cons ?_ (AllOb.cons ?_ (AllOb.cons ?_ (AllOb.cons ?_ (AllOb.nil))))))))))))))))))))))))))))))
      · intro uF W hC' hU aF hF
        have hC : Below v.heap.size v W := hC'
        clear hC'
        simp only [puts] at hF
        subst hF
        go_wp2_with (fail)
        exact ⟨rfl, rfl, (Below.refl _ _), rfl⟩
      · intro uF W hC' hU aF hF
        have hC : Below v.heap.size v W := hC'
        clear hC'
        have h15 : (Det (.slice (some ⟨bb, off, none⟩) n c)) (uF 0) W := hU.1
        clear hU
        simp only [puts, Act.put, List.setIfInBounds_toArray, List.set_cons_zero, List.set_cons_succ] at hF
        generalize uF 0 = x15 at h15 hF
        obtain rfl : x15 = (.slice (some ⟨bb, off, none⟩) n c) := h15
        subst hF
        go_wp2_with (fail)
        exact ⟨rfl, rfl, (Below.refl _ _), rfl⟩
      · intro uF W hC' hU aF hF
        have hC : Below v.heap.size v W := hC'
        clear hC'
        have h16 : (Det (.pointer (some ⟨bb, off, none⟩))) (uF 1) W := hU.1
        clear hU
        simp only [puts, Act.put, List.setIfInBounds_toArray, List.set_cons_zero, List.set_cons_succ] at hF
        generalize uF 1 = x16 at h16 hF
        obtain rfl : x16 = (.pointer (some ⟨bb, off, none⟩)) := h16
        subst hF
        have k0 := (hC.cell (show (⟨bb, off, none⟩ : Addr).block < v.heap.size from hbbv)).trans HC0.out
        go_wp2_with (fail)
        exact ⟨rfl, rfl, (Below.refl _ _), rfl⟩
      · intro uF W hC' hU aF hF
        have hC : Below v.heap.size v W := hC'
        clear hC'
        have h17 : (Det (.int .u8 (nm bs 0 1))) (uF 2) W := hU.1
        clear hU
        simp only [puts, Act.put, List.setIfInBounds_toArray, List.set_cons_zero, List.set_cons_succ] at hF
        generalize uF 2 = x17 at h17 hF
        obtain rfl : x17 = (.int .u8 (nm bs 0 1)) := h17
        subst hF
        go_wp2_with (fail)
        exact ⟨rfl, rfl, (Below.refl _ _), rfl⟩
      · intro uF W hC' hU aF hF
        have hC : Below v.heap.size v W := hC'
        clear hC'
        simp only [puts] at hF
        subst hF
        go_wp2_with (fail)
        exact ⟨rfl, rfl, (Below.refl _ _), rfl⟩
      · intro uF W hC' hU aF hF
        have hC : Below v.heap.size v W := hC'
        clear hC'
        have h19 : (Det (.slice (some ⟨bb, off, none⟩) n c)) (uF 4) W := hU.1
        clear hU
        simp only [puts, Act.put, List.setIfInBounds_toArray, List.set_cons_zero, List.set_cons_succ] at hF
        generalize uF 4 = x19 at h19 hF
        obtain rfl : x19 = (.slice (some ⟨bb, off, none⟩) n c) := h19
        subst hF
        go_wp2_with (fail)
        exact ⟨rfl, rfl, (Below.refl _ _), rfl⟩
      · intro uF W hC' hU aF hF
        have hC : Below v.heap.size v W := hC'
        clear hC'
        have h20 : (Det (.pointer (some ⟨bb, off + 1, none⟩))) (uF 5) W := hU.1
        clear hU
        simp only [puts, Act.put, List.setIfInBounds_toArray, List.set_cons_zero, List.set_cons_succ] at hF
        generalize uF 5 = x20 at h20 hF
        obtain rfl : x20 = (.pointer (some ⟨bb, off + 1, none⟩)) := h20
        subst hF
        have k0 := (hC.cell (show (⟨bb, off + 1, none⟩ : Addr).block < v.heap.size from hbbv)).trans HC1.out
        go_wp2_with (fail)
        exact ⟨rfl, rfl, (Below.refl _ _), rfl⟩
      · intro uF W hC' hU aF hF
        have hC : Below v.heap.size v W := hC'
        clear hC'
        have h21 : (Det (.int .u8 (nm bs 1 1))) (uF 6) W := hU.1
        clear hU
        simp only [puts, Act.put, List.setIfInBounds_toArray, List.set_cons_zero, List.set_cons_succ] at hF
        generalize uF 6 = x21 at h21 hF
        obtain rfl : x21 = (.int .u8 (nm bs 1 1)) := h21
        subst hF
        go_wp2_with (fail)
        exact ⟨rfl, rfl, (Below.refl _ _), rfl⟩
      · intro uF W hC' hU aF hF
        have hC : Below v.heap.size v W := hC'
        clear hC'
        simp only [puts] at hF
        subst hF
        go_wp2_with (fail)
        exact ⟨rfl, rfl, (Below.refl _ _), rfl⟩
      · intro uF W hC' hU aF hF
        have hC : Below v.heap.size v W := hC'
        clear hC'
        have h23 : (Det (.slice (some ⟨bb, off, none⟩) n c)) (uF 8) W := hU.1
        clear hU
        simp only [puts, Act.put, List.setIfInBounds_toArray, List.set_cons_zero, List.set_cons_succ] at hF
        generalize uF 8 = x23 at h23 hF
        obtain rfl : x23 = (.slice (some ⟨bb, off, none⟩) n c) := h23
        subst hF
        go_wp2_with (fail)
        exact ⟨rfl, rfl, (Below.refl _ _), rfl⟩
      · intro uF W hC' hU aF hF
        have hC : Below v.heap.size v W := hC'
        clear hC'
        have h24 : (Det (.pointer (some ⟨bb, off + 2, none⟩))) (uF 9) W := hU.1
        clear hU
        simp only [puts, Act.put, List.setIfInBounds_toArray, List.set_cons_zero, List.set_cons_succ] at hF
        generalize uF 9 = x24 at h24 hF
        obtain rfl : x24 = (.pointer (some ⟨bb, off + 2, none⟩)) := h24
        subst hF
        have k0 := (hC.cell (show (⟨bb, off + 2, none⟩ : Addr).block < v.heap.size from hbbv)).trans HC2.out
        go_wp2_with (fail)
        exact ⟨rfl, rfl, (Below.refl _ _), rfl⟩
      · intro uF W hC' hU aF hF
        have hC : Below v.heap.size v W := hC'
        clear hC'
        have h25 : (Det (.int .u8 (nm bs 2 1))) (uF 10) W := hU.1
        clear hU
        simp only [puts, Act.put, List.setIfInBounds_toArray, List.set_cons_zero, List.set_cons_succ] at hF
        generalize uF 10 = x25 at h25 hF
        obtain rfl : x25 = (.int .u8 (nm bs 2 1)) := h25
        subst hF
        go_wp2_with (fail)
        exact ⟨rfl, rfl, (Below.refl _ _), rfl⟩
      · intro uF W hC' hU aF hF
        have hC : Below v.heap.size v W := hC'
        clear hC'
        have h26 : (Det (.int .i64 (nm bs 2 1))) (uF 11) W := hU.1
        clear hU
        simp only [puts, Act.put, List.setIfInBounds_toArray, List.set_cons_zero, List.set_cons_succ] at hF
        generalize uF 11 = x26 at h26 hF
        obtain rfl : x26 = (.int .i64 (nm bs 2 1)) := h26
        subst hF
        go_wp2_with (fail)
        exact ⟨rfl, rfl, (Below.refl _ _), rfl⟩
      · intro uF W hC' hU aF hF
        have hC : Below v.heap.size v W := hC'
        clear hC'
        simp only [puts] at hF
        subst hF
        go_wp2_with (fail)
        exact ⟨rfl, rfl, (Below.refl _ _), rfl⟩
      · intro uF W hC' hU aF hF
        have hC : Below v.heap.size v W := hC'
        clear hC'
        have h28 : (Det (.slice (some ⟨bb, off, none⟩) n c)) (uF 13) W := hU.1
        clear hU
        simp only [puts, Act.put, List.setIfInBounds_toArray, List.set_cons_zero, List.set_cons_succ] at hF
        generalize uF 13 = x28 at h28 hF
        obtain rfl : x28 = (.slice (some ⟨bb, off, none⟩) n c) := h28
        subst hF
        go_wp2_with (fail)
        exact ⟨rfl, rfl, (Below.refl _ _), rfl⟩
      · intro uF W hC' hU aF hF
        have hC : Below v.heap.size v W := hC'
        clear hC'
        have h29 : (Det (.pointer (some ⟨bb, off + 3, none⟩))) (uF 14) W := hU.1
        clear hU
        simp only [puts, Act.put, List.setIfInBounds_toArray, List.set_cons_zero, List.set_cons_succ] at hF
        generalize uF 14 = x29 at h29 hF
        obtain rfl : x29 = (.pointer (some ⟨bb, off + 3, none⟩)) := h29
        subst hF
        have k0 := (hC.cell (show (⟨bb, off + 3, none⟩ : Addr).block < v.heap.size from hbbv)).trans HC3.out
        go_wp2_with (fail)
        exact ⟨rfl, rfl, (Below.refl _ _), rfl⟩
      · intro uF W hC' hU aF hF
        have hC : Below v.heap.size v W := hC'
        clear hC'
        have h30 : (Det (.int .u8 (nm bs 3 1))) (uF 15) W := hU.1
        clear hU
        simp only [puts, Act.put, List.setIfInBounds_toArray, List.set_cons_zero, List.set_cons_succ] at hF
        generalize uF 15 = x30 at h30 hF
        obtain rfl : x30 = (.int .u8 (nm bs 3 1)) := h30
        subst hF
        go_wp2_with (fail)
        exact ⟨rfl, rfl, (Below.refl _ _), rfl⟩
      · intro uF W hC' hU aF hF
        have hC : Below v.heap.size v W := hC'
        clear hC'
        have h27 : (Det (.int .i64 (nm bs 2 1 * 256))) (uF 12) W := hU.1
        have h31 : (Det (.int .i64 (nm bs 3 1))) (uF 16) W := hU.2.1
        clear hU
        simp only [puts, Act.put, List.setIfInBounds_toArray, List.set_cons_zero, List.set_cons_succ] at hF
        generalize uF 12 = x27 at h27 hF
        generalize uF 16 = x31 at h31 hF
        obtain rfl : x27 = (.int .i64 (nm bs 2 1 * 256)) := h27
        obtain rfl : x31 = (.int .i64 (nm bs 3 1)) := h31
        subst hF
        go_wp2_with (fail)
        exact ⟨rfl, rfl, (Below.refl _ _), rfl⟩
      · intro uF W hC' hU aF hF
        have hC : Below v.heap.size v W := hC'
        clear hC'
        simp only [puts] at hF
        subst hF
        go_wp2_with (fail)
        exact ⟨rfl, rfl, (Below.refl _ _), rfl⟩
      · intro uF W hC' hU aF hF
        have hC : Below v.heap.size v W := hC'
        clear hC'
        have h33 : (Det (.slice (some ⟨bb, off, none⟩) n c)) (uF 18) W := hU.1
        clear hU
        simp only [puts, Act.put, List.setIfInBounds_toArray, List.set_cons_zero, List.set_cons_succ] at hF
        generalize uF 18 = x33 at h33 hF
        obtain rfl : x33 = (.slice (some ⟨bb, off, none⟩) n c) := h33
        subst hF
        go_wp2_with (fail)
        exact ⟨rfl, rfl, (Below.refl _ _), rfl⟩
      · intro uF W hC' hU aF hF
        have hC : Below v.heap.size v W := hC'
        clear hC'
        have h34 : (Det (.pointer (some ⟨bb, off + 4, none⟩))) (uF 19) W := hU.1
        clear hU
        simp only [puts, Act.put, List.setIfInBounds_toArray, List.set_cons_zero, List.set_cons_succ] at hF
        generalize uF 19 = x34 at h34 hF
        obtain rfl : x34 = (.pointer (some ⟨bb, off + 4, none⟩)) := h34
        subst hF
        have k0 := (hC.cell (show (⟨bb, off + 4, none⟩ : Addr).block < v.heap.size from hbbv)).trans HC4.out
        go_wp2_with (fail)
        exact ⟨rfl, rfl, (Below.refl _ _), rfl⟩
      · intro uF W hC' hU aF hF
        have hC : Below v.heap.size v W := hC'
        clear hC'
        have h35 : (Det (.int .u8 (nm bs 4 1))) (uF 20) W := hU.1
        clear hU
        simp only [puts, Act.put, List.setIfInBounds_toArray, List.set_cons_zero, List.set_cons_succ] at hF
        generalize uF 20 = x35 at h35 hF
        obtain rfl : x35 = (.int .u8 (nm bs 4 1)) := h35
        subst hF
        go_wp2_with (fail)
        exact ⟨rfl, rfl, (Below.refl _ _), rfl⟩
      · intro uF W hC' hU aF hF
        have hC : Below v.heap.size v W := hC'
        clear hC'
        have h36 : (Det (.int .i64 (nm bs 4 1))) (uF 21) W := hU.1
        clear hU
        simp only [puts, Act.put, List.setIfInBounds_toArray, List.set_cons_zero, List.set_cons_succ] at hF
        generalize uF 21 = x36 at h36 hF
        obtain rfl : x36 = (.int .i64 (nm bs 4 1)) := h36
        subst hF
        go_wp2_with (fail)
        exact ⟨rfl, rfl, (Below.refl _ _), rfl⟩
      · intro uF W hC' hU aF hF
        have hC : Below v.heap.size v W := hC'
        clear hC'
        simp only [puts] at hF
        subst hF
        go_wp2_with (fail)
        exact ⟨rfl, rfl, (Below.refl _ _), rfl⟩
      · intro uF W hC' hU aF hF
        have hC : Below v.heap.size v W := hC'
        clear hC'
        have h38 : (Det (.slice (some ⟨bb, off, none⟩) n c)) (uF 23) W := hU.1
        clear hU
        simp only [puts, Act.put, List.setIfInBounds_toArray, List.set_cons_zero, List.set_cons_succ] at hF
        generalize uF 23 = x38 at h38 hF
        obtain rfl : x38 = (.slice (some ⟨bb, off, none⟩) n c) := h38
        subst hF
        go_wp2_with (fail)
        exact ⟨rfl, rfl, (Below.refl _ _), rfl⟩
      · intro uF W hC' hU aF hF
        have hC : Below v.heap.size v W := hC'
        clear hC'
        have h39 : (Det (.pointer (some ⟨bb, off + 5, none⟩))) (uF 24) W := hU.1
        clear hU
        simp only [puts, Act.put, List.setIfInBounds_toArray, List.set_cons_zero, List.set_cons_succ] at hF
        generalize uF 24 = x39 at h39 hF
        obtain rfl : x39 = (.pointer (some ⟨bb, off + 5, none⟩)) := h39
        subst hF
        have k0 := (hC.cell (show (⟨bb, off + 5, none⟩ : Addr).block < v.heap.size from hbbv)).trans HC5.out
        go_wp2_with (fail)
        exact ⟨rfl, rfl, (Below.refl _ _), rfl⟩
      · intro uF W hC' hU aF hF
        have hC : Below v.heap.size v W := hC'
        clear hC'
        have h40 : (Det (.int .u8 (nm bs 5 1))) (uF 25) W := hU.1
        clear hU
        simp only [puts, Act.put, List.setIfInBounds_toArray, List.set_cons_zero, List.set_cons_succ] at hF
        generalize uF 25 = x40 at h40 hF
        obtain rfl : x40 = (.int .u8 (nm bs 5 1)) := h40
        subst hF
        go_wp2_with (fail)
        exact ⟨rfl, rfl, (Below.refl _ _), rfl⟩
      · intro uF W hC' hU aF hF
        have hC : Below v.heap.size v W := hC'
        clear hC'
        have h37 : (Det (.int .i64 (nm bs 4 1 * 256))) (uF 22) W := hU.1
        have h41 : (Det (.int .i64 (nm bs 5 1))) (uF 26) W := hU.2.1
        clear hU
        simp only [puts, Act.put, List.setIfInBounds_toArray, List.set_cons_zero, List.set_cons_succ] at hF
        generalize uF 22 = x37 at h37 hF
        generalize uF 26 = x41 at h41 hF
        obtain rfl : x37 = (.int .i64 (nm bs 4 1 * 256)) := h37
        obtain rfl : x41 = (.int .i64 (nm bs 5 1)) := h41
        subst hF
        go_wp2_with (fail)
        exact ⟨rfl, rfl, (Below.refl _ _), rfl⟩
      · intro uF W hC' hU aF hF
        have hC : Below v.heap.size v W := hC'
        clear hC'
        have h18 : (Det (.int .i64 (nm bs 0 1))) (uF 3) W := hU.1
        have h22 : (Det (.int .i64 (nm bs 1 1))) (uF 7) W := hU.2.1
        have h32 : (Det (.int .i64 (nm bs 2 2))) (uF 17) W := hU.2.2.1
        have h42 : (Det (.int .i64 (nm bs 4 2))) (uF 27) W := hU.2.2.2.1
        clear hU
        simp only [puts, Act.put, List.setIfInBounds_toArray, List.set_cons_zero, List.set_cons_succ] at hF
        generalize uF 3 = x18 at h18 hF
        generalize uF 7 = x22 at h22 hF
        generalize uF 17 = x32 at h32 hF
        generalize uF 27 = x42 at h42 hF
        obtain rfl : x18 = (.int .i64 (nm bs 0 1)) := h18
        obtain rfl : x22 = (.int .i64 (nm bs 1 1)) := h22
        obtain rfl : x32 = (.int .i64 (nm bs 2 2)) := h32
        obtain rfl : x42 = (.int .i64 (nm bs 4 2)) := h42
        subst hF
        go_wp2_with (fail)
        exact ⟨rfl, rfl, (Below.refl _ _), rfl⟩
      · intro uF W hC' hU aF hF
        have hC : Below v.heap.size v W := hC'
        clear hC'
        simp only [puts] at hF
        subst hF
        go_wp2_with (((with_reducible show wpList _ _ _ (Oper.mk (some 4) (Op.alloc _) _ _ _ _ :: _) _ _); refine wpList_alloc_agg (by rfl) 56 rfl #[.int .i64 0, .int .i64 0, .int .i64 0, .int .i64 0, .slice none 0 0, .int .i64 0, .int .i64 0, .int .i64 0, .int .i64 0, .int .i64 0, .bool false] zeroCm ?_))
        exact ⟨rfl, rfl, (below_alloc _ _), ⟨_, rfl, hC.size, Blk.new _ _ _⟩⟩
    intro uF W5 hC' hU aF hF
    have hCW5 : Below v.heap.size v W5 := hC'
    clear hC'
    have h43 : (Det (.agg #[.int .i64 (nm bs 0 1), .int .i64 (nm bs 1 1), .int .i64 (nm bs 2 2), .int .i64 (nm bs 4 2), .slice none 0 0, .int .i64 0, .int .i64 0, .int .i64 0, .int .i64 0, .int .i64 0, .bool false])) (uF 28) W5 := hU.2.2.2.2.2.2.2.2.2.2.2.2.2.2.2.2.2.2.2.2.2.2.2.2.2.2.2.2.1
    have h4 : (RelZ v.heap.size 56 #[.int .i64 0, .int .i64 0, .int .i64 0, .int .i64 0, .slice none 0 0, .int .i64 0, .int .i64 0, .int .i64 0, .int .i64 0, .int .i64 0, .bool false]) (uF 29) W5 := hU.2.2.2.2.2.2.2.2.2.2.2.2.2.2.2.2.2.2.2.2.2.2.2.2.2.2.2.2.2.1
    clear hU
    simp only [List.take_succ_cons, List.take_zero, puts, Act.put, List.setIfInBounds_toArray, List.set_cons_zero, List.set_cons_succ] at hF
    generalize uF 0 = x15 at hF
    generalize uF 1 = x16 at hF
    generalize uF 2 = x17 at hF
    generalize uF 3 = x18 at hF
    generalize uF 4 = x19 at hF
    generalize uF 5 = x20 at hF
    generalize uF 6 = x21 at hF
    generalize uF 7 = x22 at hF
    generalize uF 8 = x23 at hF
    generalize uF 9 = x24 at hF
    generalize uF 10 = x25 at hF
    generalize uF 11 = x26 at hF
    generalize uF 12 = x27 at hF
    generalize uF 13 = x28 at hF
    generalize uF 14 = x29 at hF
    generalize uF 15 = x30 at hF
    generalize uF 16 = x31 at hF
    generalize uF 17 = x32 at hF
    generalize uF 18 = x33 at hF
    generalize uF 19 = x34 at hF
    generalize uF 20 = x35 at hF
    generalize uF 21 = x36 at hF
    generalize uF 22 = x37 at hF
    generalize uF 23 = x38 at hF
    generalize uF 24 = x39 at hF
    generalize uF 25 = x40 at hF
    generalize uF 26 = x41 at hF
    generalize uF 27 = x42 at hF
    generalize uF 28 = x43 at h43 hF
    generalize uF 29 = x4 at h4 hF
    obtain rfl : x43 = (.agg #[.int .i64 (nm bs 0 1), .int .i64 (nm bs 1 1), .int .i64 (nm bs 2 2), .int .i64 (nm bs 4 2), .slice none 0 0, .int .i64 0, .int .i64 0, .int .i64 0, .int .i64 0, .int .i64 0, .bool false]) := h43
    obtain ⟨g4, rfl, z4, b4⟩ := h4
    subst hF
    simp only [List.drop_succ_cons, List.drop_zero]
    refine wpListIn_of free_wide (fun ⟨_, _, h⟩ => h) rfl ?_
    refine wpList_store_whole rfl 56 (.tmp 4) (.tmp 43) rfl g4 rfl [.int .i64 (nm bs 0 1), .int .i64 (nm bs 1 1), .int .i64 (nm bs 2 2), .int .i64 (nm bs 4 2), .slice none 0 0, .int .i64 0, .int .i64 0, .int .i64 0, .int .i64 0, .int .i64 0, .bool false] rfl aggCm rfl _ _ b4 rfl (by simp [Value.oneCell']) ?_
    intro w4 hb4 hg4 hs4
    exact wpList_nil ⟨g4, ⟨_, _, _, _, _, _, _, _, _, _, _, _, _, _, _, _, _, _, _, _, _, _, _, _, _, _, _, _, _, _, _, _, _, rfl⟩, hb4, z4, hCW5.grown hg4 hCW5.size (fun k hk => by cases hk; exact z4)⟩
  rintro e a' w4 h
  clear e22 e42
  cases e with
  | normal =>
    obtain ⟨g4, ⟨y11, y12, y13, y14, y15, y16, y17, y18, y19, y20, y21, y22, y23, y24, y25, y26, y27, y28, y29, y30, y31, y32, y33, y34, y35, y36, y37, y38, y39, y40, y41, y42, y43, rfl⟩, hb4, hg4, hw4⟩ := h
    have hw4w := hwv.trans (hw4.mono hz)
    have hz4 := hw4.size
    have b24 := b2.below hw4 b2.lt
    have b2lt := b2.lt
    have k0 : w4.cell? ⟨g4, 0, none⟩ = some (.int .i64 (nm bs 0 1)) := by rw [hb4.cell]; rfl
    have k4 : w4.cell? ⟨g4, 4, none⟩ = some (.slice none 0 0) := by rw [hb4.cell]; rfl
    have f4 := hb4.frozen 4
    have hbl := hb4.lt
    have e2 : (nm bs 0 1 == 2) = false := by simpa using hn2
    have e6 : (nm bs 0 1 == 6) = false := by simpa using hn6
    have b6 := hb4
    have b26 := b24
    have hv6 := hw4w
    have hv6v := hw4
    have hz6 := hv6.size
    have o6 : OwB w4 w4.heap.size none 0 0 [] := OwB.nil _ _ _
    have heq' : (⟨(cmB (nm bs 0 1) (nm bs 1 1) (nm bs 2 2) (nm bs 4 2) 0 0 0 0 false []).toArray⟩ : ByteArray) = ⟨bs.toArray⟩ := by rw [eq_of_beq heq]
    obtain ⟨S2, hS2⟩ : ∃ S : ByteArray, S = ⟨bs.toArray⟩ := ⟨_, rfl⟩
    have HS2 := Lib.hid hS2
    have HEQ := Lib.hid heq'
    clear hS2 heq'
    go_wp2_with (first
      | ((with_reducible show wpList _ _ _ (Oper.mk (some 88) (Op.load 56 _) _ _ _ _ :: _) _ _); refine wpList_load_whole (by rfl) 56 (.tmp 4) rfl g4 rfl #[.int .i64 (nm bs 0 1), .int .i64 (nm bs 1 1), .int .i64 (nm bs 2 2), .int .i64 (nm bs 4 2), .slice none 0 0, .int .i64 0, .int .i64 0, .int .i64 0, .int .i64 0, .int .i64 0, .bool false] aggCm rfl _ b6 ?_)
      | (go_at_call 30; refine (crefenc_yes (nm bs 0 1) (nm bs 1 1) (nm bs 2 2) (nm bs 4 2) 0 0 0 0 0 false (OwB.sl o6) (Nat.le_refl _) (by omega) ⟨nm_wf _ _ _, nm_wf _ _ _, nm_wf _ _ _, nm_wf _ _ _⟩ ⟨by decide, by decide, by decide, by decide⟩ hgood).mono ?_; rintro e w7 ⟨A7, N7, c7, rfl, o7, hb7⟩; have hw7 := hv6.trans (hb7.mono hz6); have hz7 := hw7.size; have b27 := b26.below hb7 b26.lt; have b67 := b6.below hb7 b6.lt; have o67 := OwB.below o6 hb7; have e7 := o7.sl.str; have e8 := SlB.str ((HB.out.below (hv6v.mono hBv)).below (hb7.mono (Nat.le_trans hBv hv6v.size))); rw [HEQ.out, ← HS2.out] at e7; rw [← HS2.out] at e8)
      | ((with_reducible show wpList _ _ _ (Oper.mk (some 102) (Op.load 56 _) _ _ _ _ :: _) _ _); refine wpList_load_whole rfl 56 (.tmp 4) rfl g4 rfl #[.int .i64 (nm bs 0 1), .int .i64 (nm bs 1 1), .int .i64 (nm bs 2 2), .int .i64 (nm bs 4 2), .slice none 0 0, .int .i64 0, .int .i64 0, .int .i64 0, .int .i64 0, .int .i64 0, .bool false] aggCm rfl _ b67 ?_)
      | ((with_reducible show wpList _ _ _ (Oper.mk none (Op.store 56 (.tmp 2) (.tmp 102)) _ _ _ _ :: _) _ _); refine wpList_store_whole rfl 56 (.tmp 2) (.tmp 102) rfl w.heap.size rfl [.int .i64 (nm bs 0 1), .int .i64 (nm bs 1 1), .int .i64 (nm bs 2 2), .int .i64 (nm bs 4 2), .slice none 0 0, .int .i64 0, .int .i64 0, .int .i64 0, .int .i64 0, .int .i64 0, .bool false] rfl aggCm rfl _ _ b27 rfl (by simp [Value.oneCell']) ?_; intro wf bf gf sf))
    refine bodyPost_ret (results_cell_tmp rfl _ w.heap.size _ #[.int .i64 (nm bs 0 1), .int .i64 (nm bs 1 1), .int .i64 (nm bs 2 2), .int .i64 (nm bs 4 2), .slice none 0 0, .int .i64 0, .int .i64 0, .int .i64 0, .int .i64 0, .int .i64 0, .bool false] aggCm rfl rfl bf) rfl ⟨_, _, _, rfl, (by rw [hdz]; exact OwB.nil _ _ _), ?_⟩
    exact hw7.grown gf hz7 (fun k hk => by cases hk; exact Nat.le_refl _)
  | _ => exact h.elim

set_option maxHeartbeats 4000000 in
theorem crefdec_other_off {w : World} {B : Nat} {A : Option Addr} {n c : Nat} {bs : List UInt8} (hb : SlB w B A n c bs) (hB : B ≤ w.heap.size) (hn : n ≤ 1048576) (h1 : 6 ≤ n) (hn2 : nm bs 0 1 ≠ 2) (hn6 : nm bs 0 1 ≠ 6) (hgood : goodC (nm bs 0 1) (nm bs 1 1) (nm bs 2 2) (nm bs 4 2) 0 0 0 0 0 0 false) (heq : (cmB (nm bs 0 1) (nm bs 1 1) (nm bs 2 2) (nm bs 4 2) 0 0 0 0 false [] == bs) = false) :
    Calls Try.prog 37 #[.slice A n c] w fun e w' => e = .returned (.tuple #[.agg #[.int .i64 0, .int .i64 0, .int .i64 0, .int .i64 0, .slice none 0 0, .int .i64 0, .int .i64 0, .int .i64 0, .int .i64 0, .int .i64 0, .bool false], .bool false]) ∧ Below w.heap.size w w' := by
  have hlen := hb.len
  have hcap := hb.le
  have hcm : c ≤ 9223372036854775807 := hb.cap
  obtain ⟨v, hv⟩ : ∃ v, v = w.alloc (.cells #[.int .i64 0, .int .i64 0, .int .i64 0, .int .i64 0, .slice none 0 0, .int .i64 0, .int .i64 0, .int .i64 0, .int .i64 0, .int .i64 0, .bool false] 56) := ⟨_, rfl⟩
  have b2 : Blk v w.heap.size 56 #[.int .i64 0, .int .i64 0, .int .i64 0, .int .i64 0, .slice none 0 0, .int .i64 0, .int .i64 0, .int .i64 0, .int .i64 0, .int .i64 0, .bool false] := by rw [hv]; exact Blk.new _ _ _
  have hwv : Below w.heap.size w v := by rw [hv]; exact below_alloc _ _
  have hz := hwv.size
  have hbv := hb.below (hwv.mono hB)
  have hBv := Nat.le_trans hB hz
  obtain ⟨bb, off, eA, hbb, hj⟩ := hbv.at_ (by omega)
  obtain ⟨x0, hx0⟩ : ∃ x, bs[0]? = some x := ⟨bs[0]'(by omega), List.getElem?_eq_getElem _⟩
  have c0 : v.cell? ⟨bb, off, none⟩ = some (.int .u8 (nm bs 0 1)) := by rw [show nm bs 0 1 = (x0.toNat : Int) from bigN_one (i := 0) hx0]; exact hj 0 x0 hx0
  obtain ⟨p0, q0⟩ := nm_one (bs := bs) (a := 0) (by omega)
  have hi0 : (0 : Int) < (n : Int) := by omega
  obtain ⟨x1, hx1⟩ : ∃ x, bs[1]? = some x := ⟨bs[1]'(by omega), List.getElem?_eq_getElem _⟩
  have c1 : v.cell? ⟨bb, off + 1, none⟩ = some (.int .u8 (nm bs 1 1)) := by rw [show nm bs 1 1 = (x1.toNat : Int) from bigN_one (i := 1) hx1]; exact hj 1 x1 hx1
  obtain ⟨p1, q1⟩ := nm_one (bs := bs) (a := 1) (by omega)
  have hi1 : (1 : Int) < (n : Int) := by omega
  obtain ⟨x2, hx2⟩ : ∃ x, bs[2]? = some x := ⟨bs[2]'(by omega), List.getElem?_eq_getElem _⟩
  have c2 : v.cell? ⟨bb, off + 2, none⟩ = some (.int .u8 (nm bs 2 1)) := by rw [show nm bs 2 1 = (x2.toNat : Int) from bigN_one (i := 2) hx2]; exact hj 2 x2 hx2
  obtain ⟨p2, q2⟩ := nm_one (bs := bs) (a := 2) (by omega)
  have hi2 : (2 : Int) < (n : Int) := by omega
  obtain ⟨x3, hx3⟩ : ∃ x, bs[3]? = some x := ⟨bs[3]'(by omega), List.getElem?_eq_getElem _⟩
  have c3 : v.cell? ⟨bb, off + 3, none⟩ = some (.int .u8 (nm bs 3 1)) := by rw [show nm bs 3 1 = (x3.toNat : Int) from bigN_one (i := 3) hx3]; exact hj 3 x3 hx3
  obtain ⟨p3, q3⟩ := nm_one (bs := bs) (a := 3) (by omega)
  have hi3 : (3 : Int) < (n : Int) := by omega
  obtain ⟨x4, hx4⟩ : ∃ x, bs[4]? = some x := ⟨bs[4]'(by omega), List.getElem?_eq_getElem _⟩
  have c4 : v.cell? ⟨bb, off + 4, none⟩ = some (.int .u8 (nm bs 4 1)) := by rw [show nm bs 4 1 = (x4.toNat : Int) from bigN_one (i := 4) hx4]; exact hj 4 x4 hx4
  obtain ⟨p4, q4⟩ := nm_one (bs := bs) (a := 4) (by omega)
  have hi4 : (4 : Int) < (n : Int) := by omega
  obtain ⟨x5, hx5⟩ : ∃ x, bs[5]? = some x := ⟨bs[5]'(by omega), List.getElem?_eq_getElem _⟩
  have c5 : v.cell? ⟨bb, off + 5, none⟩ = some (.int .u8 (nm bs 5 1)) := by rw [show nm bs 5 1 = (x5.toNat : Int) from bigN_one (i := 5) hx5]; exact hj 5 x5 hx5
  obtain ⟨p5, q5⟩ := nm_one (bs := bs) (a := 5) (by omega)
  have hi5 : (5 : Int) < (n : Int) := by omega
  have hi6' : (6 : Int) ≤ (n : Int) := by omega
  have e22 := nm_pair (bs := bs) (i := 2) (by omega)
  have e42 := nm_pair (bs := bs) (i := 4) (by omega)
  obtain ⟨p22, q22⟩ := nm_two (bs := bs) (a := 2) (by omega)
  obtain ⟨p42, q42⟩ := nm_two (bs := bs) (a := 4) (by omega)
  subst eA
  have HV := Lib.hid hv
  have HB := Lib.hid hbv
  have HC0 := Lib.hid c0
  have HC1 := Lib.hid c1
  have HC2 := Lib.hid c2
  have HC3 := Lib.hid c3
  have HC4 := Lib.hid c4
  have HC5 := Lib.hid c5
  have hbbv : bb < v.heap.size := Nat.lt_of_lt_of_le hbb hBv
  clear hv hb hbv hj c0 hx0 c1 hx1 c2 hx2 c3 hx3 c4 hx4 c5 hx5 
  go_enter Try.func37, Try.ntmps37
  go_wp2_with (first
    | ((with_reducible show wpList _ _ _ (Oper.mk (some 2) (Op.alloc _) _ _ _ _ :: _) _ _); refine wpList_alloc_agg rfl 56 rfl #[.int .i64 0, .int .i64 0, .int .i64 0, .int .i64 0, .slice none 0 0, .int .i64 0, .int .i64 0, .int .i64 0, .int .i64 0, .int .i64 0, .bool false] zeroCm ?_; rw [← HV.out]))
  refine Code.wp_mono (Q := Exit.then (fun a' w' => ∃ g4, (∃ y11 y12 y13 y14 y15 y16 y17 y18 y19 y20 y21 y22 y23 y24 y25 y26 y27 y28 y29 y30 y31 y32 y33 y34 y35 y36 y37 y38 y39 y40 y41 y42 y43 : Value, a' = { tmps := #[Value.slice (some ⟨bb, off, none⟩) n c, undef, Value.pointer (some ⟨w.heap.size, 0, none⟩), Value.bool false, Value.pointer (some ⟨g4, 0, none⟩), undef, undef, undef, undef, undef, undef, y11, y12, y13, y14, y15, y16, y17, y18, y19, y20, y21, y22, y23, y24, y25, y26, y27, y28, y29, y30, y31, y32, y33, y34, y35, y36, y37, y38, y39, y40, y41, y42, y43, undef, undef, undef, undef, undef, undef, undef, undef, undef, undef, undef, undef, undef, undef, undef, undef, undef, undef, undef, undef, undef, undef, undef, undef, undef, undef, undef, undef, undef, undef, undef, undef, undef, undef, undef, undef, undef, undef, undef, undef, undef, undef, undef, undef, undef, undef, undef, undef, undef, undef, undef, undef, undef, undef, undef, undef, undef, undef, undef], defers := [] }) ∧ Blk w' g4 56 #[.int .i64 (nm bs 0 1), .int .i64 (nm bs 1 1), .int .i64 (nm bs 2 2), .int .i64 (nm bs 4 2), .slice none 0 0, .int .i64 0, .int .i64 0, .int .i64 0, .int .i64 0, .int .i64 0, .bool false] ∧ v.heap.size ≤ g4 ∧ Below v.heap.size v w') (fun _ _ _ => False)) ?_ ?_
  rotate_left
  · refine (wpIn_wide (n := 4)).1 ?_
    refine wpIn_region_rel free_wide rfl 30 (fun W W' => Below W.heap.size W W') (fun W => Below v.heap.size v W)
      [Det (.slice (some ⟨bb, off, none⟩) n c), Det (.pointer (some ⟨bb, off, none⟩)), Det (.int .u8 (nm bs 0 1)), Det (.int .i64 (nm bs 0 1)), Det (.slice (some ⟨bb, off, none⟩) n c), Det (.pointer (some ⟨bb, off + 1, none⟩)), Det (.int .u8 (nm bs 1 1)), Det (.int .i64 (nm bs 1 1)), Det (.slice (some ⟨bb, off, none⟩) n c), Det (.pointer (some ⟨bb, off + 2, none⟩)), Det (.int .u8 (nm bs 2 1)), Det (.int .i64 (nm bs 2 1)), Det (.int .i64 (nm bs 2 1 * 256)), Det (.slice (some ⟨bb, off, none⟩) n c), Det (.pointer (some ⟨bb, off + 3, none⟩)), Det (.int .u8 (nm bs 3 1)), Det (.int .i64 (nm bs 3 1)), Det (.int .i64 (nm bs 2 2)), Det (.slice (some ⟨bb, off, none⟩) n c), Det (.pointer (some ⟨bb, off + 4, none⟩)), Det (.int .u8 (nm bs 4 1)), Det (.int .i64 (nm bs 4 1)), Det (.int .i64 (nm bs 4 1 * 256)), Det (.slice (some ⟨bb, off, none⟩) n c), Det (.pointer (some ⟨bb, off + 5, none⟩)), Det (.int .u8 (nm bs 5 1)), Det (.int .i64 (nm bs 5 1)), Det (.int .i64 (nm bs 4 2)), Det (.agg #[.int .i64 (nm bs 0 1), .int .i64 (nm bs 1 1), .int .i64 (nm bs 2 2), .int .i64 (nm bs 4 2), .slice none 0 0, .int .i64 0, .int .i64 0, .int .i64 0, .int .i64 0, .int .i64 0, .bool false]), RelZ v.heap.size 56 #[.int .i64 0, .int .i64 0, .int .i64 0, .int .i64 0, .slice none 0 0, .int .i64 0, .int .i64 0, .int .i64 0, .int .i64 0, .int .i64 0, .bool false], Any]
      [[], [(0, some 15)], [(1, some 16)], [(2, some 17)], [], [(4, some 19)], [(5, some 20)], [(6, some 21)], [], [(8, some 23)], [(9, some 24)], [(10, some 25)], [(11, some 26)], [], [(13, some 28)], [(14, some 29)], [(15, some 30)], [(12, some 27), (16, some 31)], [], [(18, some 33)], [(19, some 34)], [(20, some 35)], [(21, some 36)], [], [(23, some 38)], [(24, some 39)], [(25, some 40)], [(22, some 37), (26, some 41)], [(3, some 18), (7, some 22), (17, some 32), (27, some 42)], [], [(29, some 4), (28, some 43)]]
      [[], [0], [0, 1], [0, 1, 2], [], [4], [4, 5], [4, 5, 6], [], [8], [8, 9], [8, 9, 10], [8, 9, 10, 11], [], [13], [13, 14], [13, 14, 15], [8, 9, 10, 11, 12, 13, 14, 15, 16], [], [18], [18, 19], [18, 19, 20], [18, 19, 20, 21], [], [23], [23, 24], [23, 24, 25], [18, 19, 20, 21, 22, 23, 24, 25, 26], [0, 1, 2, 3, 4, 5, 6, 7, 8, 9, 10, 11, 12, 13, 14, 15, 16, 17, 18, 19, 20, 21, 22, 23, 24, 25, 26, 27], [], [0, 1, 2, 3, 4, 5, 6, 7, 8, 9, 10, 11, 12, 13, 14, 15, 16, 17, 18, 19, 20, 21, 22, 23, 24, 25, 26, 27, 28, 29]]
      [(0, some 15), (1, some 16), (2, some 17), (3, some 18), (4, some 19), (5, some 20), (6, some 21), (7, some 22), (8, some 23), (9, some 24), (10, some 25), (11, some 26), (12, some 27), (13, some 28), (14, some 29), (15, some 30), (16, some 31), (17, some 32), (18, some 33), (19, some 34), (20, some 35), (21, some 36), (22, some 37), (23, some 38), (24, some 39), (25, some 40), (26, some 41), (27, some 42), (28, some 43), (29, some 4), (30, none)] (by kernel_rfl) (by kernel_rfl) (by kernel_rfl) (fun W W' h1 h2 => h1.trans (h2.mono h1.size)) ((Below.refl _ _).drew) ?_ ?_ ?_
    · exact (AllMono.cons Det.later (AllMono.cons Det.later (AllMono.cons Det.later (AllMono.cons Det.later (AllMono.cons Det.later (AllMono.cons Det.later (AllMono.cons Det.later (AllMono.cons Det.later (AllMono.cons Det.later (AllMono.cons Det.later (AllMono.cons Det.later (AllMono.cons Det.later (AllMono.cons Det.later (AllMono.cons Det.later (AllMono.cons Det.later (AllMono.cons Det.later (AllMono.cons Det.later (AllMono.cons Det.later (AllMono.cons Det.later (AllMono.cons Det.later (AllMono.cons Det.later (AllMono.cons Det.later (AllMono.cons Det.later (AllMono.cons Det.later (AllMono.cons Det.later (AllMono.cons Det.later (AllMono.cons Det.later (AllMono.cons Det.later (AllMono.cons Det.later (AllMono.cons RelZ.later (AllMono.cons Any.later AllMono.nil)))))))))))))))))))))))))))))))
    · refine AllOb.cons ?_ (AllOb.cons ?_ (AllOb.cons ?_ (AllOb.cons ?_ (AllOb.cons ?_ (AllOb.cons ?_ (AllOb.cons ?_ (AllOb.cons ?_ (AllOb.cons ?_ (AllOb.cons ?_ (AllOb.cons ?_ (AllOb.cons ?_ (AllOb.cons ?_ (AllOb.cons ?_ (AllOb.cons ?_ (AllOb.cons ?_ (AllOb.cons ?_ (AllOb.cons ?_ (AllOb.cons ?_ (AllOb.cons ?_ (AllOb.cons ?_ (AllOb.cons ?_ (AllOb.cons ?_ (AllOb.cons ?_ (AllOb.cons ?_ (AllOb.cons ?_ (AllOb.cons ?_ (AllOb.cons ?_ (AllOb.cons ?_ (AllOb.cons ?_ (AllOb.nil))))))))))))))))))))))))))))))
      · intro uF W hC' hU aF hF
        have hC : Below v.heap.size v W := hC'
        clear hC'
        simp only [puts] at hF
        subst hF
        go_wp2_with (fail)
        exact ⟨rfl, rfl, (Below.refl _ _), rfl⟩
      · intro uF W hC' hU aF hF
        have hC : Below v.heap.size v W := hC'
        clear hC'
        have h15 : (Det (.slice (some ⟨bb, off, none⟩) n c)) (uF 0) W := hU.1
        clear hU
        simp only [puts, Act.put, List.setIfInBounds_toArray, List.set_cons_zero, List.set_cons_succ] at hF
        generalize uF 0 = x15 at h15 hF
        obtain rfl : x15 = (.slice (some ⟨bb, off, none⟩) n c) := h15
        subst hF
        go_wp2_with (fail)
        exact ⟨rfl, rfl, (Below.refl _ _), rfl⟩
      · intro uF W hC' hU aF hF
        have hC : Below v.heap.size v W := hC'
        clear hC'
        have h16 : (Det (.pointer (some ⟨bb, off, none⟩))) (uF 1) W := hU.1
        clear hU
        simp only [puts, Act.put, List.setIfInBounds_toArray, List.set_cons_zero, List.set_cons_succ] at hF
        generalize uF 1 = x16 at h16 hF
        obtain rfl : x16 = (.pointer (some ⟨bb, off, none⟩)) := h16
        subst hF
        have k0 := (hC.cell (show (⟨bb, off, none⟩ : Addr).block < v.heap.size from hbbv)).trans HC0.out
        go_wp2_with (fail)
        exact ⟨rfl, rfl, (Below.refl _ _), rfl⟩
      · intro uF W hC' hU aF hF
        have hC : Below v.heap.size v W := hC'
        clear hC'
        have h17 : (Det (.int .u8 (nm bs 0 1))) (uF 2) W := hU.1
        clear hU
        simp only [puts, Act.put, List.setIfInBounds_toArray, List.set_cons_zero, List.set_cons_succ] at hF
        generalize uF 2 = x17 at h17 hF
        obtain rfl : x17 = (.int .u8 (nm bs 0 1)) := h17
        subst hF
        go_wp2_with (fail)
        exact ⟨rfl, rfl, (Below.refl _ _), rfl⟩
      · intro uF W hC' hU aF hF
        have hC : Below v.heap.size v W := hC'
        clear hC'
        simp only [puts] at hF
        subst hF
        go_wp2_with (fail)
        exact ⟨rfl, rfl, (Below.refl _ _), rfl⟩
      · intro uF W hC' hU aF hF
        have hC : Below v.heap.size v W := hC'
        clear hC'
        have h19 : (Det (.slice (some ⟨bb, off, none⟩) n c)) (uF 4) W := hU.1
        clear hU
        simp only [puts, Act.put, List.setIfInBounds_toArray, List.set_cons_zero, List.set_cons_succ] at hF
        generalize uF 4 = x19 at h19 hF
        obtain rfl : x19 = (.slice (some ⟨bb, off, none⟩) n c) := h19
        subst hF
        go_wp2_with (fail)
        exact ⟨rfl, rfl, (Below.refl _ _), rfl⟩
      · intro uF W hC' hU aF hF
        have hC : Below v.heap.size v W := hC'
        clear hC'
        have h20 : (Det (.pointer (some ⟨bb, off + 1, none⟩))) (uF 5) W := hU.1
        clear hU
        simp only [puts, Act.put, List.setIfInBounds_toArray, List.set_cons_zero, List.set_cons_succ] at hF
        generalize uF 5 = x20 at h20 hF
        obtain rfl : x20 = (.pointer (some ⟨bb, off + 1, none⟩)) := h20
        subst hF
        have k0 := (hC.cell (show (⟨bb, off + 1, none⟩ : Addr).block < v.heap.size from hbbv)).trans HC1.out
        go_wp2_with (fail)
        exact ⟨rfl, rfl, (Below.refl _ _), rfl⟩
      · intro uF W hC' hU aF hF
        have hC : Below v.heap.size v W := hC'
        clear hC'
        have h21 : (Det (.int .u8 (nm bs 1 1))) (uF 6) W := hU.1
        clear hU
        simp only [puts, Act.put, List.setIfInBounds_toArray, List.set_cons_zero, List.set_cons_succ] at hF
        generalize uF 6 = x21 at h21 hF
        obtain rfl : x21 = (.int .u8 (nm bs 1 1)) := h21
        subst hF
        go_wp2_with (fail)
        exact ⟨rfl, rfl, (Below.refl _ _), rfl⟩
      · intro uF W hC' hU aF hF
        have hC : Below v.heap.size v W := hC'
        clear hC'
        simp only [puts] at hF
        subst hF
        go_wp2_with (fail)
        exact ⟨rfl, rfl, (Below.refl _ _), rfl⟩
      · intro uF W hC' hU aF hF
        have hC : Below v.heap.size v W := hC'
        clear hC'
        have h23 : (Det (.slice (some ⟨bb, off, none⟩) n c)) (uF 8) W := hU.1
        clear hU
        simp only [puts, Act.put, List.setIfInBounds_toArray, List.set_cons_zero, List.set_cons_succ] at hF
        generalize uF 8 = x23 at h23 hF
        obtain rfl : x23 = (.slice (some ⟨bb, off, none⟩) n c) := h23
        subst hF
        go_wp2_with (fail)
        exact ⟨rfl, rfl, (Below.refl _ _), rfl⟩
      · intro uF W hC' hU aF hF
        have hC : Below v.heap.size v W := hC'
        clear hC'
        have h24 : (Det (.pointer (some ⟨bb, off + 2, none⟩))) (uF 9) W := hU.1
        clear hU
        simp only [puts, Act.put, List.setIfInBounds_toArray, List.set_cons_zero, List.set_cons_succ] at hF
        generalize uF 9 = x24 at h24 hF
        obtain rfl : x24 = (.pointer (some ⟨bb, off + 2, none⟩)) := h24
        subst hF
        have k0 := (hC.cell (show (⟨bb, off + 2, none⟩ : Addr).block < v.heap.size from hbbv)).trans HC2.out
        go_wp2_with (fail)
        exact ⟨rfl, rfl, (Below.refl _ _), rfl⟩
      · intro uF W hC' hU aF hF
        have hC : Below v.heap.size v W := hC'
        clear hC'
        have h25 : (Det (.int .u8 (nm bs 2 1))) (uF 10) W := hU.1
        clear hU
        simp only [puts, Act.put, List.setIfInBounds_toArray, List.set_cons_zero, List.set_cons_succ] at hF
        generalize uF 10 = x25 at h25 hF
        obtain rfl : x25 = (.int .u8 (nm bs 2 1)) := h25
        subst hF
        go_wp2_with (fail)
        exact ⟨rfl, rfl, (Below.refl _ _), rfl⟩
      · intro uF W hC' hU aF hF
        have hC : Below v.heap.size v W := hC'
        clear hC'
        have h26 : (Det (.int .i64 (nm bs 2 1))) (uF 11) W := hU.1
        clear hU
        simp only [puts, Act.put, List.setIfInBounds_toArray, List.set_cons_zero, List.set_cons_succ] at hF
        generalize uF 11 = x26 at h26 hF
        obtain rfl : x26 = (.int .i64 (nm bs 2 1)) := h26
        subst hF
        go_wp2_with (fail)
        exact ⟨rfl, rfl, (Below.refl _ _), rfl⟩
      · intro uF W hC' hU aF hF
        have hC : Below v.heap.size v W := hC'
        clear hC'
        simp only [puts] at hF
        subst hF
        go_wp2_with (fail)
        exact ⟨rfl, rfl, (Below.refl _ _), rfl⟩
      · intro uF W hC' hU aF hF
        have hC : Below v.heap.size v W := hC'
        clear hC'
        have h28 : (Det (.slice (some ⟨bb, off, none⟩) n c)) (uF 13) W := hU.1
        clear hU
        simp only [puts, Act.put, List.setIfInBounds_toArray, List.set_cons_zero, List.set_cons_succ] at hF
        generalize uF 13 = x28 at h28 hF
        obtain rfl : x28 = (.slice (some ⟨bb, off, none⟩) n c) := h28
        subst hF
        go_wp2_with (fail)
        exact ⟨rfl, rfl, (Below.refl _ _), rfl⟩
      · intro uF W hC' hU aF hF
        have hC : Below v.heap.size v W := hC'
        clear hC'
        have h29 : (Det (.pointer (some ⟨bb, off + 3, none⟩))) (uF 14) W := hU.1
        clear hU
        simp only [puts, Act.put, List.setIfInBounds_toArray, List.set_cons_zero, List.set_cons_succ] at hF
        generalize uF 14 = x29 at h29 hF
        obtain rfl : x29 = (.pointer (some ⟨bb, off + 3, none⟩)) := h29
        subst hF
        have k0 := (hC.cell (show (⟨bb, off + 3, none⟩ : Addr).block < v.heap.size from hbbv)).trans HC3.out
        go_wp2_with (fail)
        exact ⟨rfl, rfl, (Below.refl _ _), rfl⟩
      · intro uF W hC' hU aF hF
        have hC : Below v.heap.size v W := hC'
        clear hC'
        have h30 : (Det (.int .u8 (nm bs 3 1))) (uF 15) W := hU.1
        clear hU
        simp only [puts, Act.put, List.setIfInBounds_toArray, List.set_cons_zero, List.set_cons_succ] at hF
        generalize uF 15 = x30 at h30 hF
        obtain rfl : x30 = (.int .u8 (nm bs 3 1)) := h30
        subst hF
        go_wp2_with (fail)
        exact ⟨rfl, rfl, (Below.refl _ _), rfl⟩
      · intro uF W hC' hU aF hF
        have hC : Below v.heap.size v W := hC'
        clear hC'
        have h27 : (Det (.int .i64 (nm bs 2 1 * 256))) (uF 12) W := hU.1
        have h31 : (Det (.int .i64 (nm bs 3 1))) (uF 16) W := hU.2.1
        clear hU
        simp only [puts, Act.put, List.setIfInBounds_toArray, List.set_cons_zero, List.set_cons_succ] at hF
        generalize uF 12 = x27 at h27 hF
        generalize uF 16 = x31 at h31 hF
        obtain rfl : x27 = (.int .i64 (nm bs 2 1 * 256)) := h27
        obtain rfl : x31 = (.int .i64 (nm bs 3 1)) := h31
        subst hF
        go_wp2_with (fail)
        exact ⟨rfl, rfl, (Below.refl _ _), rfl⟩
      · intro uF W hC' hU aF hF
        have hC : Below v.heap.size v W := hC'
        clear hC'
        simp only [puts] at hF
        subst hF
        go_wp2_with (fail)
        exact ⟨rfl, rfl, (Below.refl _ _), rfl⟩
      · intro uF W hC' hU aF hF
        have hC : Below v.heap.size v W := hC'
        clear hC'
        have h33 : (Det (.slice (some ⟨bb, off, none⟩) n c)) (uF 18) W := hU.1
        clear hU
        simp only [puts, Act.put, List.setIfInBounds_toArray, List.set_cons_zero, List.set_cons_succ] at hF
        generalize uF 18 = x33 at h33 hF
        obtain rfl : x33 = (.slice (some ⟨bb, off, none⟩) n c) := h33
        subst hF
        go_wp2_with (fail)
        exact ⟨rfl, rfl, (Below.refl _ _), rfl⟩
      · intro uF W hC' hU aF hF
        have hC : Below v.heap.size v W := hC'
        clear hC'
        have h34 : (Det (.pointer (some ⟨bb, off + 4, none⟩))) (uF 19) W := hU.1
        clear hU
        simp only [puts, Act.put, List.setIfInBounds_toArray, List.set_cons_zero, List.set_cons_succ] at hF
        generalize uF 19 = x34 at h34 hF
        obtain rfl : x34 = (.pointer (some ⟨bb, off + 4, none⟩)) := h34
        subst hF
        have k0 := (hC.cell (show (⟨bb, off + 4, none⟩ : Addr).block < v.heap.size from hbbv)).trans HC4.out
        go_wp2_with (fail)
        exact ⟨rfl, rfl, (Below.refl _ _), rfl⟩
      · intro uF W hC' hU aF hF
        have hC : Below v.heap.size v W := hC'
        clear hC'
        have h35 : (Det (.int .u8 (nm bs 4 1))) (uF 20) W := hU.1
        clear hU
        simp only [puts, Act.put, List.setIfInBounds_toArray, List.set_cons_zero, List.set_cons_succ] at hF
        generalize uF 20 = x35 at h35 hF
        obtain rfl : x35 = (.int .u8 (nm bs 4 1)) := h35
        subst hF
        go_wp2_with (fail)
        exact ⟨rfl, rfl, (Below.refl _ _), rfl⟩
      · intro uF W hC' hU aF hF
        have hC : Below v.heap.size v W := hC'
        clear hC'
        have h36 : (Det (.int .i64 (nm bs 4 1))) (uF 21) W := hU.1
        clear hU
        simp only [puts, Act.put, List.setIfInBounds_toArray, List.set_cons_zero, List.set_cons_succ] at hF
        generalize uF 21 = x36 at h36 hF
        obtain rfl : x36 = (.int .i64 (nm bs 4 1)) := h36
        subst hF
        go_wp2_with (fail)
        exact ⟨rfl, rfl, (Below.refl _ _), rfl⟩
      · intro uF W hC' hU aF hF
        have hC : Below v.heap.size v W := hC'
        clear hC'
        simp only [puts] at hF
        subst hF
        go_wp2_with (fail)
        exact ⟨rfl, rfl, (Below.refl _ _), rfl⟩
      · intro uF W hC' hU aF hF
        have hC : Below v.heap.size v W := hC'
        clear hC'
        have h38 : (Det (.slice (some ⟨bb, off, none⟩) n c)) (uF 23) W := hU.1
        clear hU
        simp only [puts, Act.put, List.setIfInBounds_toArray, List.set_cons_zero, List.set_cons_succ] at hF
        generalize uF 23 = x38 at h38 hF
        obtain rfl : x38 = (.slice (some ⟨bb, off, none⟩) n c) := h38
        subst hF
        go_wp2_with (fail)
        exact ⟨rfl, rfl, (Below.refl _ _), rfl⟩
      · intro uF W hC' hU aF hF
        have hC : Below v.heap.size v W := hC'
        clear hC'
        have h39 : (Det (.pointer (some ⟨bb, off + 5, none⟩))) (uF 24) W := hU.1
        clear hU
        simp only [puts, Act.put, List.setIfInBounds_toArray, List.set_cons_zero, List.set_cons_succ] at hF
        generalize uF 24 = x39 at h39 hF
        obtain rfl : x39 = (.pointer (some ⟨bb, off + 5, none⟩)) := h39
        subst hF
        have k0 := (hC.cell (show (⟨bb, off + 5, none⟩ : Addr).block < v.heap.size from hbbv)).trans HC5.out
        go_wp2_with (fail)
        exact ⟨rfl, rfl, (Below.refl _ _), rfl⟩
      · intro uF W hC' hU aF hF
        have hC : Below v.heap.size v W := hC'
        clear hC'
        have h40 : (Det (.int .u8 (nm bs 5 1))) (uF 25) W := hU.1
        clear hU
        simp only [puts, Act.put, List.setIfInBounds_toArray, List.set_cons_zero, List.set_cons_succ] at hF
        generalize uF 25 = x40 at h40 hF
        obtain rfl : x40 = (.int .u8 (nm bs 5 1)) := h40
        subst hF
        go_wp2_with (fail)
        exact ⟨rfl, rfl, (Below.refl _ _), rfl⟩
      · intro uF W hC' hU aF hF
        have hC : Below v.heap.size v W := hC'
        clear hC'
        have h37 : (Det (.int .i64 (nm bs 4 1 * 256))) (uF 22) W := hU.1
        have h41 : (Det (.int .i64 (nm bs 5 1))) (uF 26) W := hU.2.1
        clear hU
        simp only [puts, Act.put, List.setIfInBounds_toArray, List.set_cons_zero, List.set_cons_succ] at hF
        generalize uF 22 = x37 at h37 hF
        generalize uF 26 = x41 at h41 hF
        obtain rfl : x37 = (.int .i64 (nm bs 4 1 * 256)) := h37
        obtain rfl : x41 = (.int .i64 (nm bs 5 1)) := h41
        subst hF
        go_wp2_with (fail)
        exact ⟨rfl, rfl, (Below.refl _ _), rfl⟩
      · intro uF W hC' hU aF hF
        have hC : Below v.heap.size v W := hC'
        clear hC'
        have h18 : (Det (.int .i64 (nm bs 0 1))) (uF 3) W := hU.1
        have h22 : (Det (.int .i64 (nm bs 1 1))) (uF 7) W := hU.2.1
        have h32 : (Det (.int .i64 (nm bs 2 2))) (uF 17) W := hU.2.2.1
        have h42 : (Det (.int .i64 (nm bs 4 2))) (uF 27) W := hU.2.2.2.1
        clear hU
        simp only [puts, Act.put, List.setIfInBounds_toArray, List.set_cons_zero, List.set_cons_succ] at hF
        generalize uF 3 = x18 at h18 hF
        generalize uF 7 = x22 at h22 hF
        generalize uF 17 = x32 at h32 hF
        generalize uF 27 = x42 at h42 hF
        obtain rfl : x18 = (.int .i64 (nm bs 0 1)) := h18
        obtain rfl : x22 = (.int .i64 (nm bs 1 1)) := h22
        obtain rfl : x32 = (.int .i64 (nm bs 2 2)) := h32
        obtain rfl : x42 = (.int .i64 (nm bs 4 2)) := h42
        subst hF
        go_wp2_with (fail)
        exact ⟨rfl, rfl, (Below.refl _ _), rfl⟩
      · intro uF W hC' hU aF hF
        have hC : Below v.heap.size v W := hC'
        clear hC'
        simp only [puts] at hF
        subst hF
        go_wp2_with (((with_reducible show wpList _ _ _ (Oper.mk (some 4) (Op.alloc _) _ _ _ _ :: _) _ _); refine wpList_alloc_agg (by rfl) 56 rfl #[.int .i64 0, .int .i64 0, .int .i64 0, .int .i64 0, .slice none 0 0, .int .i64 0, .int .i64 0, .int .i64 0, .int .i64 0, .int .i64 0, .bool false] zeroCm ?_))
        exact ⟨rfl, rfl, (below_alloc _ _), ⟨_, rfl, hC.size, Blk.new _ _ _⟩⟩
    intro uF W5 hC' hU aF hF
    have hCW5 : Below v.heap.size v W5 := hC'
    clear hC'
    have h43 : (Det (.agg #[.int .i64 (nm bs 0 1), .int .i64 (nm bs 1 1), .int .i64 (nm bs 2 2), .int .i64 (nm bs 4 2), .slice none 0 0, .int .i64 0, .int .i64 0, .int .i64 0, .int .i64 0, .int .i64 0, .bool false])) (uF 28) W5 := hU.2.2.2.2.2.2.2.2.2.2.2.2.2.2.2.2.2.2.2.2.2.2.2.2.2.2.2.2.1
    have h4 : (RelZ v.heap.size 56 #[.int .i64 0, .int .i64 0, .int .i64 0, .int .i64 0, .slice none 0 0, .int .i64 0, .int .i64 0, .int .i64 0, .int .i64 0, .int .i64 0, .bool false]) (uF 29) W5 := hU.2.2.2.2.2.2.2.2.2.2.2.2.2.2.2.2.2.2.2.2.2.2.2.2.2.2.2.2.2.1
    clear hU
    simp only [List.take_succ_cons, List.take_zero, puts, Act.put, List.setIfInBounds_toArray, List.set_cons_zero, List.set_cons_succ] at hF
    generalize uF 0 = x15 at hF
    generalize uF 1 = x16 at hF
    generalize uF 2 = x17 at hF
    generalize uF 3 = x18 at hF
    generalize uF 4 = x19 at hF
    generalize uF 5 = x20 at hF
    generalize uF 6 = x21 at hF
    generalize uF 7 = x22 at hF
    generalize uF 8 = x23 at hF
    generalize uF 9 = x24 at hF
    generalize uF 10 = x25 at hF
    generalize uF 11 = x26 at hF
    generalize uF 12 = x27 at hF
    generalize uF 13 = x28 at hF
    generalize uF 14 = x29 at hF
    generalize uF 15 = x30 at hF
    generalize uF 16 = x31 at hF
    generalize uF 17 = x32 at hF
    generalize uF 18 = x33 at hF
    generalize uF 19 = x34 at hF
    generalize uF 20 = x35 at hF
    generalize uF 21 = x36 at hF
    generalize uF 22 = x37 at hF
    generalize uF 23 = x38 at hF
    generalize uF 24 = x39 at hF
    generalize uF 25 = x40 at hF
    generalize uF 26 = x41 at hF
    generalize uF 27 = x42 at hF
    generalize uF 28 = x43 at h43 hF
    generalize uF 29 = x4 at h4 hF
    obtain rfl : x43 = (.agg #[.int .i64 (nm bs 0 1), .int .i64 (nm bs 1 1), .int .i64 (nm bs 2 2), .int .i64 (nm bs 4 2), .slice none 0 0, .int .i64 0, .int .i64 0, .int .i64 0, .int .i64 0, .int .i64 0, .bool false]) := h43
    obtain ⟨g4, rfl, z4, b4⟩ := h4
    subst hF
    simp only [List.drop_succ_cons, List.drop_zero]
    refine wpListIn_of free_wide (fun ⟨_, _, h⟩ => h) rfl ?_
    refine wpList_store_whole rfl 56 (.tmp 4) (.tmp 43) rfl g4 rfl [.int .i64 (nm bs 0 1), .int .i64 (nm bs 1 1), .int .i64 (nm bs 2 2), .int .i64 (nm bs 4 2), .slice none 0 0, .int .i64 0, .int .i64 0, .int .i64 0, .int .i64 0, .int .i64 0, .bool false] rfl aggCm rfl _ _ b4 rfl (by simp [Value.oneCell']) ?_
    intro w4 hb4 hg4 hs4
    exact wpList_nil ⟨g4, ⟨_, _, _, _, _, _, _, _, _, _, _, _, _, _, _, _, _, _, _, _, _, _, _, _, _, _, _, _, _, _, _, _, _, rfl⟩, hb4, z4, hCW5.grown hg4 hCW5.size (fun k hk => by cases hk; exact z4)⟩
  rintro e a' w4 h
  clear e22 e42
  cases e with
  | normal =>
    obtain ⟨g4, ⟨y11, y12, y13, y14, y15, y16, y17, y18, y19, y20, y21, y22, y23, y24, y25, y26, y27, y28, y29, y30, y31, y32, y33, y34, y35, y36, y37, y38, y39, y40, y41, y42, y43, rfl⟩, hb4, hg4, hw4⟩ := h
    have hw4w := hwv.trans (hw4.mono hz)
    have hz4 := hw4.size
    have b24 := b2.below hw4 b2.lt
    have b2lt := b2.lt
    have k0 : w4.cell? ⟨g4, 0, none⟩ = some (.int .i64 (nm bs 0 1)) := by rw [hb4.cell]; rfl
    have k4 : w4.cell? ⟨g4, 4, none⟩ = some (.slice none 0 0) := by rw [hb4.cell]; rfl
    have f4 := hb4.frozen 4
    have hbl := hb4.lt
    have e2 : (nm bs 0 1 == 2) = false := by simpa using hn2
    have e6 : (nm bs 0 1 == 6) = false := by simpa using hn6
    have b6 := hb4
    have b26 := b24
    have hv6 := hw4w
    have hv6v := hw4
    have hz6 := hv6.size
    have o6 : OwB w4 w4.heap.size none 0 0 [] := OwB.nil _ _ _
    obtain ⟨fb, hfb⟩ : ∃ fb, fb = cmB (nm bs 0 1) (nm bs 1 1) (nm bs 2 2) (nm bs 4 2) 0 0 0 0 false [] := ⟨_, rfl⟩
    have hne : (fb == bs) = false := by rw [hfb]; exact heq
    have HFB := Lib.hid hfb
    clear hfb
    go_wp2_with (first
      | ((with_reducible show wpList _ _ _ (Oper.mk (some 88) (Op.load 56 _) _ _ _ _ :: _) _ _); refine wpList_load_whole (by rfl) 56 (.tmp 4) rfl g4 rfl #[.int .i64 (nm bs 0 1), .int .i64 (nm bs 1 1), .int .i64 (nm bs 2 2), .int .i64 (nm bs 4 2), .slice none 0 0, .int .i64 0, .int .i64 0, .int .i64 0, .int .i64 0, .int .i64 0, .bool false] aggCm rfl _ b6 ?_)
      | (go_at_call 30; refine (crefenc_yes (nm bs 0 1) (nm bs 1 1) (nm bs 2 2) (nm bs 4 2) 0 0 0 0 0 false (OwB.sl o6) (Nat.le_refl _) (by omega) ⟨nm_wf _ _ _, nm_wf _ _ _, nm_wf _ _ _, nm_wf _ _ _⟩ ⟨by decide, by decide, by decide, by decide⟩ hgood).mono ?_; rintro e w7 ⟨A7, N7, c7, rfl, o7, hb7⟩; have hw7 := hv6.trans (hb7.mono hz6); have hz7 := hw7.size; have b27 := b26.below hb7 b26.lt; have b67 := b6.below hb7 b6.lt; have o67 := OwB.below o6 hb7; have e7 := o7.sl.str; have e8 := SlB.str ((HB.out.below (hv6v.mono hBv)).below (hb7.mono (Nat.le_trans hBv hv6v.size))); rw [← HFB.out] at e7)
      | ((with_reducible show wpList _ _ _ (Oper.mk none (Op.store 56 (.tmp 2) (.tmp 101)) _ _ _ _ :: _) _ _); refine wpList_store_whole rfl 56 (.tmp 2) (.tmp 101) rfl w.heap.size rfl [.int .i64 0, .int .i64 0, .int .i64 0, .int .i64 0, .slice none 0 0, .int .i64 0, .int .i64 0, .int .i64 0, .int .i64 0, .int .i64 0, .bool false] rfl aggCm rfl _ _ b27 rfl (by simp [Value.oneCell']) ?_; intro wf bf gf sf))
    refine bodyPost_ret (results_cell_tmp rfl _ w.heap.size _ #[.int .i64 0, .int .i64 0, .int .i64 0, .int .i64 0, .slice none 0 0, .int .i64 0, .int .i64 0, .int .i64 0, .int .i64 0, .int .i64 0, .bool false] aggCm rfl rfl bf) rfl ⟨rfl, ?_⟩
    exact hw7.grown gf hz7 (fun k hk => by cases hk; exact Nat.le_refl _)
  | _ => exact h.elim

set_option maxHeartbeats 4000000 in
theorem crefdec_other_bad {w : World} {B : Nat} {A : Option Addr} {n c : Nat} {bs : List UInt8} (hb : SlB w B A n c bs) (hB : B ≤ w.heap.size) (hn : n ≤ 1048576) (h1 : 6 ≤ n) (hn2 : nm bs 0 1 ≠ 2) (hn6 : nm bs 0 1 ≠ 6) (hgood : ¬ goodC (nm bs 0 1) (nm bs 1 1) (nm bs 2 2) (nm bs 4 2) 0 0 0 0 0 0 false) :
    Calls Try.prog 37 #[.slice A n c] w fun e w' => e = .returned (.tuple #[.agg #[.int .i64 0, .int .i64 0, .int .i64 0, .int .i64 0, .slice none 0 0, .int .i64 0, .int .i64 0, .int .i64 0, .int .i64 0, .int .i64 0, .bool false], .bool false]) ∧ Below w.heap.size w w' := by
  have hlen := hb.len
  have hcap := hb.le
  have hcm : c ≤ 9223372036854775807 := hb.cap
  obtain ⟨v, hv⟩ : ∃ v, v = w.alloc (.cells #[.int .i64 0, .int .i64 0, .int .i64 0, .int .i64 0, .slice none 0 0, .int .i64 0, .int .i64 0, .int .i64 0, .int .i64 0, .int .i64 0, .bool false] 56) := ⟨_, rfl⟩
  have b2 : Blk v w.heap.size 56 #[.int .i64 0, .int .i64 0, .int .i64 0, .int .i64 0, .slice none 0 0, .int .i64 0, .int .i64 0, .int .i64 0, .int .i64 0, .int .i64 0, .bool false] := by rw [hv]; exact Blk.new _ _ _
  have hwv : Below w.heap.size w v := by rw [hv]; exact below_alloc _ _
  have hz := hwv.size
  have hbv := hb.below (hwv.mono hB)
  have hBv := Nat.le_trans hB hz
  obtain ⟨bb, off, eA, hbb, hj⟩ := hbv.at_ (by omega)
  obtain ⟨x0, hx0⟩ : ∃ x, bs[0]? = some x := ⟨bs[0]'(by omega), List.getElem?_eq_getElem _⟩
  have c0 : v.cell? ⟨bb, off, none⟩ = some (.int .u8 (nm bs 0 1)) := by rw [show nm bs 0 1 = (x0.toNat : Int) from bigN_one (i := 0) hx0]; exact hj 0 x0 hx0
  obtain ⟨p0, q0⟩ := nm_one (bs := bs) (a := 0) (by omega)
  have hi0 : (0 : Int) < (n : Int) := by omega
  obtain ⟨x1, hx1⟩ : ∃ x, bs[1]? = some x := ⟨bs[1]'(by omega), List.getElem?_eq_getElem _⟩
  have c1 : v.cell? ⟨bb, off + 1, none⟩ = some (.int .u8 (nm bs 1 1)) := by rw [show nm bs 1 1 = (x1.toNat : Int) from bigN_one (i := 1) hx1]; exact hj 1 x1 hx1
  obtain ⟨p1, q1⟩ := nm_one (bs := bs) (a := 1) (by omega)
  have hi1 : (1 : Int) < (n : Int) := by omega
  obtain ⟨x2, hx2⟩ : ∃ x, bs[2]? = some x := ⟨bs[2]'(by omega), List.getElem?_eq_getElem _⟩
  have c2 : v.cell? ⟨bb, off + 2, none⟩ = some (.int .u8 (nm bs 2 1)) := by rw [show nm bs 2 1 = (x2.toNat : Int) from bigN_one (i := 2) hx2]; exact hj 2 x2 hx2
  obtain ⟨p2, q2⟩ := nm_one (bs := bs) (a := 2) (by omega)
  have hi2 : (2 : Int) < (n : Int) := by omega
  obtain ⟨x3, hx3⟩ : ∃ x, bs[3]? = some x := ⟨bs[3]'(by omega), List.getElem?_eq_getElem _⟩
  have c3 : v.cell? ⟨bb, off + 3, none⟩ = some (.int .u8 (nm bs 3 1)) := by rw [show nm bs 3 1 = (x3.toNat : Int) from bigN_one (i := 3) hx3]; exact hj 3 x3 hx3
  obtain ⟨p3, q3⟩ := nm_one (bs := bs) (a := 3) (by omega)
  have hi3 : (3 : Int) < (n : Int) := by omega
  obtain ⟨x4, hx4⟩ : ∃ x, bs[4]? = some x := ⟨bs[4]'(by omega), List.getElem?_eq_getElem _⟩
  have c4 : v.cell? ⟨bb, off + 4, none⟩ = some (.int .u8 (nm bs 4 1)) := by rw [show nm bs 4 1 = (x4.toNat : Int) from bigN_one (i := 4) hx4]; exact hj 4 x4 hx4
  obtain ⟨p4, q4⟩ := nm_one (bs := bs) (a := 4) (by omega)
  have hi4 : (4 : Int) < (n : Int) := by omega
  obtain ⟨x5, hx5⟩ : ∃ x, bs[5]? = some x := ⟨bs[5]'(by omega), List.getElem?_eq_getElem _⟩
  have c5 : v.cell? ⟨bb, off + 5, none⟩ = some (.int .u8 (nm bs 5 1)) := by rw [show nm bs 5 1 = (x5.toNat : Int) from bigN_one (i := 5) hx5]; exact hj 5 x5 hx5
  obtain ⟨p5, q5⟩ := nm_one (bs := bs) (a := 5) (by omega)
  have hi5 : (5 : Int) < (n : Int) := by omega
  have hi6' : (6 : Int) ≤ (n : Int) := by omega
  have e22 := nm_pair (bs := bs) (i := 2) (by omega)
  have e42 := nm_pair (bs := bs) (i := 4) (by omega)
  obtain ⟨p22, q22⟩ := nm_two (bs := bs) (a := 2) (by omega)
  obtain ⟨p42, q42⟩ := nm_two (bs := bs) (a := 4) (by omega)
  subst eA
  have HV := Lib.hid hv
  have HB := Lib.hid hbv
  have HC0 := Lib.hid c0
  have HC1 := Lib.hid c1
  have HC2 := Lib.hid c2
  have HC3 := Lib.hid c3
  have HC4 := Lib.hid c4
  have HC5 := Lib.hid c5
  have hbbv : bb < v.heap.size := Nat.lt_of_lt_of_le hbb hBv
  clear hv hb hbv hj c0 hx0 c1 hx1 c2 hx2 c3 hx3 c4 hx4 c5 hx5 
  go_enter Try.func37, Try.ntmps37
  go_wp2_with (first
    | ((with_reducible show wpList _ _ _ (Oper.mk (some 2) (Op.alloc _) _ _ _ _ :: _) _ _); refine wpList_alloc_agg rfl 56 rfl #[.int .i64 0, .int .i64 0, .int .i64 0, .int .i64 0, .slice none 0 0, .int .i64 0, .int .i64 0, .int .i64 0, .int .i64 0, .int .i64 0, .bool false] zeroCm ?_; rw [← HV.out]))
  refine Code.wp_mono (Q := Exit.then (fun a' w' => ∃ g4, (∃ y11 y12 y13 y14 y15 y16 y17 y18 y19 y20 y21 y22 y23 y24 y25 y26 y27 y28 y29 y30 y31 y32 y33 y34 y35 y36 y37 y38 y39 y40 y41 y42 y43 : Value, a' = { tmps := #[Value.slice (some ⟨bb, off, none⟩) n c, undef, Value.pointer (some ⟨w.heap.size, 0, none⟩), Value.bool false, Value.pointer (some ⟨g4, 0, none⟩), undef, undef, undef, undef, undef, undef, y11, y12, y13, y14, y15, y16, y17, y18, y19, y20, y21, y22, y23, y24, y25, y26, y27, y28, y29, y30, y31, y32, y33, y34, y35, y36, y37, y38, y39, y40, y41, y42, y43, undef, undef, undef, undef, undef, undef, undef, undef, undef, undef, undef, undef, undef, undef, undef, undef, undef, undef, undef, undef, undef, undef, undef, undef, undef, undef, undef, undef, undef, undef, undef, undef, undef, undef, undef, undef, undef, undef, undef, undef, undef, undef, undef, undef, undef, undef, undef, undef, undef, undef, undef, undef, undef, undef, undef, undef, undef, undef, undef], defers := [] }) ∧ Blk w' g4 56 #[.int .i64 (nm bs 0 1), .int .i64 (nm bs 1 1), .int .i64 (nm bs 2 2), .int .i64 (nm bs 4 2), .slice none 0 0, .int .i64 0, .int .i64 0, .int .i64 0, .int .i64 0, .int .i64 0, .bool false] ∧ v.heap.size ≤ g4 ∧ Below v.heap.size v w') (fun _ _ _ => False)) ?_ ?_
  rotate_left
  · refine (wpIn_wide (n := 4)).1 ?_
    refine wpIn_region_rel free_wide rfl 30 (fun W W' => Below W.heap.size W W') (fun W => Below v.heap.size v W)
      [Det (.slice (some ⟨bb, off, none⟩) n c), Det (.pointer (some ⟨bb, off, none⟩)), Det (.int .u8 (nm bs 0 1)), Det (.int .i64 (nm bs 0 1)), Det (.slice (some ⟨bb, off, none⟩) n c), Det (.pointer (some ⟨bb, off + 1, none⟩)), Det (.int .u8 (nm bs 1 1)), Det (.int .i64 (nm bs 1 1)), Det (.slice (some ⟨bb, off, none⟩) n c), Det (.pointer (some ⟨bb, off + 2, none⟩)), Det (.int .u8 (nm bs 2 1)), Det (.int .i64 (nm bs 2 1)), Det (.int .i64 (nm bs 2 1 * 256)), Det (.slice (some ⟨bb, off, none⟩) n c), Det (.pointer (some ⟨bb, off + 3, none⟩)), Det (.int .u8 (nm bs 3 1)), Det (.int .i64 (nm bs 3 1)), Det (.int .i64 (nm bs 2 2)), Det (.slice (some ⟨bb, off, none⟩) n c), Det (.pointer (some ⟨bb, off + 4, none⟩)), Det (.int .u8 (nm bs 4 1)), Det (.int .i64 (nm bs 4 1)), Det (.int .i64 (nm bs 4 1 * 256)), Det (.slice (some ⟨bb, off, none⟩) n c), Det (.pointer (some ⟨bb, off + 5, none⟩)), Det (.int .u8 (nm bs 5 1)), Det (.int .i64 (nm bs 5 1)), Det (.int .i64 (nm bs 4 2)), Det (.agg #[.int .i64 (nm bs 0 1), .int .i64 (nm bs 1 1), .int .i64 (nm bs 2 2), .int .i64 (nm bs 4 2), .slice none 0 0, .int .i64 0, .int .i64 0, .int .i64 0, .int .i64 0, .int .i64 0, .bool false]), RelZ v.heap.size 56 #[.int .i64 0, .int .i64 0, .int .i64 0, .int .i64 0, .slice none 0 0, .int .i64 0, .int .i64 0, .int .i64 0, .int .i64 0, .int .i64 0, .bool false], Any]
      [[], [(0, some 15)], [(1, some 16)], [(2, some 17)], [], [(4, some 19)], [(5, some 20)], [(6, some 21)], [], [(8, some 23)], [(9, some 24)], [(10, some 25)], [(11, some 26)], [], [(13, some 28)], [(14, some 29)], [(15, some 30)], [(12, some 27), (16, some 31)], [], [(18, some 33)], [(19, some 34)], [(20, some 35)], [(21, some 36)], [], [(23, some 38)], [(24, some 39)], [(25, some 40)], [(22, some 37), (26, some 41)], [(3, some 18), (7, some 22), (17, some 32), (27, some 42)], [], [(29, some 4), (28, some 43)]]
      [[], [0], [0, 1], [0, 1, 2], [], [4], [4, 5], [4, 5, 6], [], [8], [8, 9], [8, 9, 10], [8, 9, 10, 11], [], [13], [13, 14], [13, 14, 15], [8, 9, 10, 11, 12, 13, 14, 15, 16], [], [18], [18, 19], [18, 19, 20], [18, 19, 20, 21], [], [23], [23, 24], [23, 24, 25], [18, 19, 20, 21, 22, 23, 24, 25, 26], [0, 1, 2, 3, 4, 5, 6, 7, 8, 9, 10, 11, 12, 13, 14, 15, 16, 17, 18, 19, 20, 21, 22, 23, 24, 25, 26, 27], [], [0, 1, 2, 3, 4, 5, 6, 7, 8, 9, 10, 11, 12, 13, 14, 15, 16, 17, 18, 19, 20, 21, 22, 23, 24, 25, 26, 27, 28, 29]]
      [(0, some 15), (1, some 16), (2, some 17), (3, some 18), (4, some 19), (5, some 20), (6, some 21), (7, some 22), (8, some 23), (9, some 24), (10, some 25), (11, some 26), (12, some 27), (13, some 28), (14, some 29), (15, some 30), (16, some 31), (17, some 32), (18, some 33), (19, some 34), (20, some 35), (21, some 36), (22, some 37), (23, some 38), (24, some 39), (25, some 40), (26, some 41), (27, some 42), (28, some 43), (29, some 4), (30, none)] (by kernel_rfl) (by kernel_rfl) (by kernel_rfl) (fun W W' h1 h2 => h1.trans (h2.mono h1.size)) ((Below.refl _ _).drew) ?_ ?_ ?_
    · exact (AllMono.cons Det.later (AllMono.cons Det.later (AllMono.cons Det.later (AllMono.cons Det.later (AllMono.cons Det.later (AllMono.cons Det.later (AllMono.cons Det.later (AllMono.cons Det.later (AllMono.cons Det.later (AllMono.cons Det.later (AllMono.cons Det.later (AllMono.cons Det.later (AllMono.cons Det.later (AllMono.cons Det.later (AllMono.cons Det.later (AllMono.cons Det.later (AllMono.cons Det.later (AllMono.cons Det.later (AllMono.cons Det.later (AllMono.cons Det.later (AllMono.cons Det.later (AllMono.cons Det.later (AllMono.cons Det.later (AllMono.cons Det.later (AllMono.cons Det.later (AllMono.cons Det.later (AllMono.cons Det.later (AllMono.cons Det.later (AllMono.cons Det.later (AllMono.cons RelZ.later (AllMono.cons Any.later AllMono.nil)))))))))))))))))))))))))))))))
    · refine AllOb.cons ?_ (AllOb.cons ?_ (AllOb.cons ?_ (AllOb.cons ?_ (AllOb.cons ?_ (AllOb.cons ?_ (AllOb.cons ?_ (AllOb.cons ?_ (AllOb.cons ?_ (AllOb.cons ?_ (AllOb.cons ?_ (AllOb.cons ?_ (AllOb.cons ?_ (AllOb.cons ?_ (AllOb.cons ?_ (AllOb.cons ?_ (AllOb.cons ?_ (AllOb.cons ?_ (AllOb.cons ?_ (AllOb.cons ?_ (AllOb.cons ?_ (AllOb.cons ?_ (AllOb.cons ?_ (AllOb.cons ?_ (AllOb.cons ?_ (AllOb.cons ?_ (AllOb.cons ?_ (AllOb.cons ?_ (AllOb.cons ?_ (AllOb.cons ?_ (AllOb.nil))))))))))))))))))))))))))))))
      · intro uF W hC' hU aF hF
        have hC : Below v.heap.size v W := hC'
        clear hC'
        simp only [puts] at hF
        subst hF
        go_wp2_with (fail)
        exact ⟨rfl, rfl, (Below.refl _ _), rfl⟩
      · intro uF W hC' hU aF hF
        have hC : Below v.heap.size v W := hC'
        clear hC'
        have h15 : (Det (.slice (some ⟨bb, off, none⟩) n c)) (uF 0) W := hU.1
        clear hU
        simp only [puts, Act.put, List.setIfInBounds_toArray, List.set_cons_zero, List.set_cons_succ] at hF
        generalize uF 0 = x15 at h15 hF
        obtain rfl : x15 = (.slice (some ⟨bb, off, none⟩) n c) := h15
        subst hF
        go_wp2_with (fail)
        exact ⟨rfl, rfl, (Below.refl _ _), rfl⟩
      · intro uF W hC' hU aF hF
        have hC : Below v.heap.size v W := hC'
        clear hC'
        have h16 : (Det (.pointer (some ⟨bb, off, none⟩))) (uF 1) W := hU.1
        clear hU
        simp only [puts, Act.put, List.setIfInBounds_toArray, List.set_cons_zero, List.set_cons_succ] at hF
        generalize uF 1 = x16 at h16 hF
        obtain rfl : x16 = (.pointer (some ⟨bb, off, none⟩)) := h16
        subst hF
        have k0 := (hC.cell (show (⟨bb, off, none⟩ : Addr).block < v.heap.size from hbbv)).trans HC0.out
        go_wp2_with (fail)
        exact ⟨rfl, rfl, (Below.refl _ _), rfl⟩
      · intro uF W hC' hU aF hF
        have hC : Below v.heap.size v W := hC'
        clear hC'
        have h17 : (Det (.int .u8 (nm bs 0 1))) (uF 2) W := hU.1
        clear hU
        simp only [puts, Act.put, List.setIfInBounds_toArray, List.set_cons_zero, List.set_cons_succ] at hF
        generalize uF 2 = x17 at h17 hF
        obtain rfl : x17 = (.int .u8 (nm bs 0 1)) := h17
        subst hF
        go_wp2_with (fail)
        exact ⟨rfl, rfl, (Below.refl _ _), rfl⟩
      · intro uF W hC' hU aF hF
        have hC : Below v.heap.size v W := hC'
        clear hC'
        simp only [puts] at hF
        subst hF
        go_wp2_with (fail)
        exact ⟨rfl, rfl, (Below.refl _ _), rfl⟩
      · intro uF W hC' hU aF hF
        have hC : Below v.heap.size v W := hC'
        clear hC'
        have h19 : (Det (.slice (some ⟨bb, off, none⟩) n c)) (uF 4) W := hU.1
        clear hU
        simp only [puts, Act.put, List.setIfInBounds_toArray, List.set_cons_zero, List.set_cons_succ] at hF
        generalize uF 4 = x19 at h19 hF
        obtain rfl : x19 = (.slice (some ⟨bb, off, none⟩) n c) := h19
        subst hF
        go_wp2_with (fail)
        exact ⟨rfl, rfl, (Below.refl _ _), rfl⟩
      · intro uF W hC' hU aF hF
        have hC : Below v.heap.size v W := hC'
        clear hC'
        have h20 : (Det (.pointer (some ⟨bb, off + 1, none⟩))) (uF 5) W := hU.1
        clear hU
        simp only [puts, Act.put, List.setIfInBounds_toArray, List.set_cons_zero, List.set_cons_succ] at hF
        generalize uF 5 = x20 at h20 hF
        obtain rfl : x20 = (.pointer (some ⟨bb, off + 1, none⟩)) := h20
        subst hF
        have k0 := (hC.cell (show (⟨bb, off + 1, none⟩ : Addr).block < v.heap.size from hbbv)).trans HC1.out
        go_wp2_with (fail)
        exact ⟨rfl, rfl, (Below.refl _ _), rfl⟩
      · intro uF W hC' hU aF hF
        have hC : Below v.heap.size v W := hC'
        clear hC'
        have h21 : (Det (.int .u8 (nm bs 1 1))) (uF 6) W := hU.1
        clear hU
        simp only [puts, Act.put, List.setIfInBounds_toArray, List.set_cons_zero, List.set_cons_succ] at hF
        generalize uF 6 = x21 at h21 hF
        obtain rfl : x21 = (.int .u8 (nm bs 1 1)) := h21
        subst hF
        go_wp2_with (fail)
        exact ⟨rfl, rfl, (Below.refl _ _), rfl⟩
      · intro uF W hC' hU aF hF
        have hC : Below v.heap.size v W := hC'
        clear hC'
        simp only [puts] at hF
        subst hF
        go_wp2_with (fail)
        exact ⟨rfl, rfl, (Below.refl _ _), rfl⟩
      · intro uF W hC' hU aF hF
        have hC : Below v.heap.size v W := hC'
        clear hC'
        have h23 : (Det (.slice (some ⟨bb, off, none⟩) n c)) (uF 8) W := hU.1
        clear hU
        simp only [puts, Act.put, List.setIfInBounds_toArray, List.set_cons_zero, List.set_cons_succ] at hF
        generalize uF 8 = x23 at h23 hF
        obtain rfl : x23 = (.slice (some ⟨bb, off, none⟩) n c) := h23
        subst hF
        go_wp2_with (fail)
        exact ⟨rfl, rfl, (Below.refl _ _), rfl⟩
      · intro uF W hC' hU aF hF
        have hC : Below v.heap.size v W := hC'
        clear hC'
        have h24 : (Det (.pointer (some ⟨bb, off + 2, none⟩))) (uF 9) W := hU.1
        clear hU
        simp only [puts, Act.put, List.setIfInBounds_toArray, List.set_cons_zero, List.set_cons_succ] at hF
        generalize uF 9 = x24 at h24 hF
        obtain rfl : x24 = (.pointer (some ⟨bb, off + 2, none⟩)) := h24
        subst hF
        have k0 := (hC.cell (show (⟨bb, off + 2, none⟩ : Addr).block < v.heap.size from hbbv)).trans HC2.out
        go_wp2_with (fail)
        exact ⟨rfl, rfl, (Below.refl _ _), rfl⟩
      · intro uF W hC' hU aF hF
        have hC : Below v.heap.size v W := hC'
        clear hC'
        have h25 : (Det (.int .u8 (nm bs 2 1))) (uF 10) W := hU.1
        clear hU
        simp only [puts, Act.put, List.setIfInBounds_toArray, List.set_cons_zero, List.set_cons_succ] at hF
        generalize uF 10 = x25 at h25 hF
        obtain rfl : x25 = (.int .u8 (nm bs 2 1)) := h25
        subst hF
        go_wp2_with (fail)
        exact ⟨rfl, rfl, (Below.refl _ _), rfl⟩
      · intro uF W hC' hU aF hF
        have hC : Below v.heap.size v W := hC'
        clear hC'
        have h26 : (Det (.int .i64 (nm bs 2 1))) (uF 11) W := hU.1
        clear hU
        simp only [puts, Act.put, List.setIfInBounds_toArray, List.set_cons_zero, List.set_cons_succ] at hF
        generalize uF 11 = x26 at h26 hF
        obtain rfl : x26 = (.int .i64 (nm bs 2 1)) := h26
        subst hF
        go_wp2_with (fail)
        exact ⟨rfl, rfl, (Below.refl _ _), rfl⟩
      · intro uF W hC' hU aF hF
        have hC : Below v.heap.size v W := hC'
        clear hC'
        simp only [puts] at hF
        subst hF
        go_wp2_with (fail)
        exact ⟨rfl, rfl, (Below.refl _ _), rfl⟩
      · intro uF W hC' hU aF hF
        have hC : Below v.heap.size v W := hC'
        clear hC'
        have h28 : (Det (.slice (some ⟨bb, off, none⟩) n c)) (uF 13) W := hU.1
        clear hU
        simp only [puts, Act.put, List.setIfInBounds_toArray, List.set_cons_zero, List.set_cons_succ] at hF
        generalize uF 13 = x28 at h28 hF
        obtain rfl : x28 = (.slice (some ⟨bb, off, none⟩) n c) := h28
        subst hF
        go_wp2_with (fail)
        exact ⟨rfl, rfl, (Below.refl _ _), rfl⟩
      · intro uF W hC' hU aF hF
        have hC : Below v.heap.size v W := hC'
        clear hC'
        have h29 : (Det (.pointer (some ⟨bb, off + 3, none⟩))) (uF 14) W := hU.1
        clear hU
        simp only [puts, Act.put, List.setIfInBounds_toArray, List.set_cons_zero, List.set_cons_succ] at hF
        generalize uF 14 = x29 at h29 hF
        obtain rfl : x29 = (.pointer (some ⟨bb, off + 3, none⟩)) := h29
        subst hF
        have k0 := (hC.cell (show (⟨bb, off + 3, none⟩ : Addr).block < v.heap.size from hbbv)).trans HC3.out
        go_wp2_with (fail)
        exact ⟨rfl, rfl, (Below.refl _ _), rfl⟩
      · intro uF W hC' hU aF hF
        have hC : Below v.heap.size v W := hC'
        clear hC'
        have h30 : (Det (.int .u8 (nm bs 3 1))) (uF 15) W := hU.1
        clear hU
        simp only [puts, Act.put, List.setIfInBounds_toArray, List.set_cons_zero, List.set_cons_succ] at hF
        generalize uF 15 = x30 at h30 hF
        obtain rfl : x30 = (.int .u8 (nm bs 3 1)) := h30
        subst hF
        go_wp2_with (fail)
        exact ⟨rfl, rfl, (Below.refl _ _), rfl⟩
      · intro uF W hC' hU aF hF
        have hC : Below v.heap.size v W := hC'
        clear hC'
        have h27 : (Det (.int .i64 (nm bs 2 1 * 256))) (uF 12) W := hU.1
        have h31 : (Det (.int .i64 (nm bs 3 1))) (uF 16) W := hU.2.1
        clear hU
        simp only [puts, Act.put, List.setIfInBounds_toArray, List.set_cons_zero, List.set_cons_succ] at hF
        generalize uF 12 = x27 at h27 hF
        generalize uF 16 = x31 at h31 hF
        obtain rfl : x27 = (.int .i64 (nm bs 2 1 * 256)) := h27
        obtain rfl : x31 = (.int .i64 (nm bs 3 1)) := h31
        subst hF
        go_wp2_with (fail)
        exact ⟨rfl, rfl, (Below.refl _ _), rfl⟩
      · intro uF W hC' hU aF hF
        have hC : Below v.heap.size v W := hC'
        clear hC'
        simp only [puts] at hF
        subst hF
        go_wp2_with (fail)
        exact ⟨rfl, rfl, (Below.refl _ _), rfl⟩
      · intro uF W hC' hU aF hF
        have hC : Below v.heap.size v W := hC'
        clear hC'
        have h33 : (Det (.slice (some ⟨bb, off, none⟩) n c)) (uF 18) W := hU.1
        clear hU
        simp only [puts, Act.put, List.setIfInBounds_toArray, List.set_cons_zero, List.set_cons_succ] at hF
        generalize uF 18 = x33 at h33 hF
        obtain rfl : x33 = (.slice (some ⟨bb, off, none⟩) n c) := h33
        subst hF
        go_wp2_with (fail)
        exact ⟨rfl, rfl, (Below.refl _ _), rfl⟩
      · intro uF W hC' hU aF hF
        have hC : Below v.heap.size v W := hC'
        clear hC'
        have h34 : (Det (.pointer (some ⟨bb, off + 4, none⟩))) (uF 19) W := hU.1
        clear hU
        simp only [puts, Act.put, List.setIfInBounds_toArray, List.set_cons_zero, List.set_cons_succ] at hF
        generalize uF 19 = x34 at h34 hF
        obtain rfl : x34 = (.pointer (some ⟨bb, off + 4, none⟩)) := h34
        subst hF
        have k0 := (hC.cell (show (⟨bb, off + 4, none⟩ : Addr).block < v.heap.size from hbbv)).trans HC4.out
        go_wp2_with (fail)
        exact ⟨rfl, rfl, (Below.refl _ _), rfl⟩
      · intro uF W hC' hU aF hF
        have hC : Below v.heap.size v W := hC'
        clear hC'
        have h35 : (Det (.int .u8 (nm bs 4 1))) (uF 20) W := hU.1
        clear hU
        simp only [puts, Act.put, List.setIfInBounds_toArray, List.set_cons_zero, List.set_cons_succ] at hF
        generalize uF 20 = x35 at h35 hF
        obtain rfl : x35 = (.int .u8 (nm bs 4 1)) := h35
        subst hF
        go_wp2_with (fail)
        exact ⟨rfl, rfl, (Below.refl _ _), rfl⟩
      · intro uF W hC' hU aF hF
        have hC : Below v.heap.size v W := hC'
        clear hC'
        have h36 : (Det (.int .i64 (nm bs 4 1))) (uF 21) W := hU.1
        clear hU
        simp only [puts, Act.put, List.setIfInBounds_toArray, List.set_cons_zero, List.set_cons_succ] at hF
        generalize uF 21 = x36 at h36 hF
        obtain rfl : x36 = (.int .i64 (nm bs 4 1)) := h36
        subst hF
        go_wp2_with (fail)
        exact ⟨rfl, rfl, (Below.refl _ _), rfl⟩
      · intro uF W hC' hU aF hF
        have hC : Below v.heap.size v W := hC'
        clear hC'
        simp only [puts] at hF
        subst hF
        go_wp2_with (fail)
        exact ⟨rfl, rfl, (Below.refl _ _), rfl⟩
      · intro uF W hC' hU aF hF
        have hC : Below v.heap.size v W := hC'
        clear hC'
        have h38 : (Det (.slice (some ⟨bb, off, none⟩) n c)) (uF 23) W := hU.1
        clear hU
        simp only [puts, Act.put, List.setIfInBounds_toArray, List.set_cons_zero, List.set_cons_succ] at hF
        generalize uF 23 = x38 at h38 hF
        obtain rfl : x38 = (.slice (some ⟨bb, off, none⟩) n c) := h38
        subst hF
        go_wp2_with (fail)
        exact ⟨rfl, rfl, (Below.refl _ _), rfl⟩
      · intro uF W hC' hU aF hF
        have hC : Below v.heap.size v W := hC'
        clear hC'
        have h39 : (Det (.pointer (some ⟨bb, off + 5, none⟩))) (uF 24) W := hU.1
        clear hU
        simp only [puts, Act.put, List.setIfInBounds_toArray, List.set_cons_zero, List.set_cons_succ] at hF
        generalize uF 24 = x39 at h39 hF
        obtain rfl : x39 = (.pointer (some ⟨bb, off + 5, none⟩)) := h39
        subst hF
        have k0 := (hC.cell (show (⟨bb, off + 5, none⟩ : Addr).block < v.heap.size from hbbv)).trans HC5.out
        go_wp2_with (fail)
        exact ⟨rfl, rfl, (Below.refl _ _), rfl⟩
      · intro uF W hC' hU aF hF
        have hC : Below v.heap.size v W := hC'
        clear hC'
        have h40 : (Det (.int .u8 (nm bs 5 1))) (uF 25) W := hU.1
        clear hU
        simp only [puts, Act.put, List.setIfInBounds_toArray, List.set_cons_zero, List.set_cons_succ] at hF
        generalize uF 25 = x40 at h40 hF
        obtain rfl : x40 = (.int .u8 (nm bs 5 1)) := h40
        subst hF
        go_wp2_with (fail)
        exact ⟨rfl, rfl, (Below.refl _ _), rfl⟩
      · intro uF W hC' hU aF hF
        have hC : Below v.heap.size v W := hC'
        clear hC'
        have h37 : (Det (.int .i64 (nm bs 4 1 * 256))) (uF 22) W := hU.1
        have h41 : (Det (.int .i64 (nm bs 5 1))) (uF 26) W := hU.2.1
        clear hU
        simp only [puts, Act.put, List.setIfInBounds_toArray, List.set_cons_zero, List.set_cons_succ] at hF
        generalize uF 22 = x37 at h37 hF
        generalize uF 26 = x41 at h41 hF
        obtain rfl : x37 = (.int .i64 (nm bs 4 1 * 256)) := h37
        obtain rfl : x41 = (.int .i64 (nm bs 5 1)) := h41
        subst hF
        go_wp2_with (fail)
        exact ⟨rfl, rfl, (Below.refl _ _), rfl⟩
      · intro uF W hC' hU aF hF
        have hC : Below v.heap.size v W := hC'
        clear hC'
        have h18 : (Det (.int .i64 (nm bs 0 1))) (uF 3) W := hU.1
        have h22 : (Det (.int .i64 (nm bs 1 1))) (uF 7) W := hU.2.1
        have h32 : (Det (.int .i64 (nm bs 2 2))) (uF 17) W := hU.2.2.1
        have h42 : (Det (.int .i64 (nm bs 4 2))) (uF 27) W := hU.2.2.2.1
        clear hU
        simp only [puts, Act.put, List.setIfInBounds_toArray, List.set_cons_zero, List.set_cons_succ] at hF
        generalize uF 3 = x18 at h18 hF
        generalize uF 7 = x22 at h22 hF
        generalize uF 17 = x32 at h32 hF
        generalize uF 27 = x42 at h42 hF
        obtain rfl : x18 = (.int .i64 (nm bs 0 1)) := h18
        obtain rfl : x22 = (.int .i64 (nm bs 1 1)) := h22
        obtain rfl : x32 = (.int .i64 (nm bs 2 2)) := h32
        obtain rfl : x42 = (.int .i64 (nm bs 4 2)) := h42
        subst hF
        go_wp2_with (fail)
        exact ⟨rfl, rfl, (Below.refl _ _), rfl⟩
      · intro uF W hC' hU aF hF
        have hC : Below v.heap.size v W := hC'
        clear hC'
        simp only [puts] at hF
        subst hF
        go_wp2_with (((with_reducible show wpList _ _ _ (Oper.mk (some 4) (Op.alloc _) _ _ _ _ :: _) _ _); refine wpList_alloc_agg (by rfl) 56 rfl #[.int .i64 0, .int .i64 0, .int .i64 0, .int .i64 0, .slice none 0 0, .int .i64 0, .int .i64 0, .int .i64 0, .int .i64 0, .int .i64 0, .bool false] zeroCm ?_))
        exact ⟨rfl, rfl, (below_alloc _ _), ⟨_, rfl, hC.size, Blk.new _ _ _⟩⟩
    intro uF W5 hC' hU aF hF
    have hCW5 : Below v.heap.size v W5 := hC'
    clear hC'
    have h43 : (Det (.agg #[.int .i64 (nm bs 0 1), .int .i64 (nm bs 1 1), .int .i64 (nm bs 2 2), .int .i64 (nm bs 4 2), .slice none 0 0, .int .i64 0, .int .i64 0, .int .i64 0, .int .i64 0, .int .i64 0, .bool false])) (uF 28) W5 := hU.2.2.2.2.2.2.2.2.2.2.2.2.2.2.2.2.2.2.2.2.2.2.2.2.2.2.2.2.1
    have h4 : (RelZ v.heap.size 56 #[.int .i64 0, .int .i64 0, .int .i64 0, .int .i64 0, .slice none 0 0, .int .i64 0, .int .i64 0, .int .i64 0, .int .i64 0, .int .i64 0, .bool false]) (uF 29) W5 := hU.2.2.2.2.2.2.2.2.2.2.2.2.2.2.2.2.2.2.2.2.2.2.2.2.2.2.2.2.2.1
    clear hU
    simp only [List.take_succ_cons, List.take_zero, puts, Act.put, List.setIfInBounds_toArray, List.set_cons_zero, List.set_cons_succ] at hF
    generalize uF 0 = x15 at hF
    generalize uF 1 = x16 at hF
    generalize uF 2 = x17 at hF
    generalize uF 3 = x18 at hF
    generalize uF 4 = x19 at hF
    generalize uF 5 = x20 at hF
    generalize uF 6 = x21 at hF
    generalize uF 7 = x22 at hF
    generalize uF 8 = x23 at hF
    generalize uF 9 = x24 at hF
    generalize uF 10 = x25 at hF
    generalize uF 11 = x26 at hF
    generalize uF 12 = x27 at hF
    generalize uF 13 = x28 at hF
    generalize uF 14 = x29 at hF
    generalize uF 15 = x30 at hF
    generalize uF 16 = x31 at hF
    generalize uF 17 = x32 at hF
    generalize uF 18 = x33 at hF
    generalize uF 19 = x34 at hF
    generalize uF 20 = x35 at hF
    generalize uF 21 = x36 at hF
    generalize uF 22 = x37 at hF
    generalize uF 23 = x38 at hF
    generalize uF 24 = x39 at hF
    generalize uF 25 = x40 at hF
    generalize uF 26 = x41 at hF
    generalize uF 27 = x42 at hF
    generalize uF 28 = x43 at h43 hF
    generalize uF 29 = x4 at h4 hF
    obtain rfl : x43 = (.agg #[.int .i64 (nm bs 0 1), .int .i64 (nm bs 1 1), .int .i64 (nm bs 2 2), .int .i64 (nm bs 4 2), .slice none 0 0, .int .i64 0, .int .i64 0, .int .i64 0, .int .i64 0, .int .i64 0, .bool false]) := h43
    obtain ⟨g4, rfl, z4, b4⟩ := h4
    subst hF
    simp only [List.drop_succ_cons, List.drop_zero]
    refine wpListIn_of free_wide (fun ⟨_, _, h⟩ => h) rfl ?_
    refine wpList_store_whole rfl 56 (.tmp 4) (.tmp 43) rfl g4 rfl [.int .i64 (nm bs 0 1), .int .i64 (nm bs 1 1), .int .i64 (nm bs 2 2), .int .i64 (nm bs 4 2), .slice none 0 0, .int .i64 0, .int .i64 0, .int .i64 0, .int .i64 0, .int .i64 0, .bool false] rfl aggCm rfl _ _ b4 rfl (by simp [Value.oneCell']) ?_
    intro w4 hb4 hg4 hs4
    exact wpList_nil ⟨g4, ⟨_, _, _, _, _, _, _, _, _, _, _, _, _, _, _, _, _, _, _, _, _, _, _, _, _, _, _, _, _, _, _, _, _, rfl⟩, hb4, z4, hCW5.grown hg4 hCW5.size (fun k hk => by cases hk; exact z4)⟩
  rintro e a' w4 h
  clear e22 e42
  cases e with
  | normal =>
    obtain ⟨g4, ⟨y11, y12, y13, y14, y15, y16, y17, y18, y19, y20, y21, y22, y23, y24, y25, y26, y27, y28, y29, y30, y31, y32, y33, y34, y35, y36, y37, y38, y39, y40, y41, y42, y43, rfl⟩, hb4, hg4, hw4⟩ := h
    have hw4w := hwv.trans (hw4.mono hz)
    have hz4 := hw4.size
    have b24 := b2.below hw4 b2.lt
    have b2lt := b2.lt
    have k0 : w4.cell? ⟨g4, 0, none⟩ = some (.int .i64 (nm bs 0 1)) := by rw [hb4.cell]; rfl
    have k4 : w4.cell? ⟨g4, 4, none⟩ = some (.slice none 0 0) := by rw [hb4.cell]; rfl
    have f4 := hb4.frozen 4
    have hbl := hb4.lt
    have e2 : (nm bs 0 1 == 2) = false := by simpa using hn2
    have e6 : (nm bs 0 1 == 6) = false := by simpa using hn6
    have b6 := hb4
    have b26 := b24
    have hv6 := hw4w
    have hv6v := hw4
    have hz6 := hv6.size
    have o6 : OwB w4 w4.heap.size none 0 0 [] := OwB.nil _ _ _
    go_wp2_with (first
      | ((with_reducible show wpList _ _ _ (Oper.mk (some 88) (Op.load 56 _) _ _ _ _ :: _) _ _); refine wpList_load_whole (by rfl) 56 (.tmp 4) rfl g4 rfl #[.int .i64 (nm bs 0 1), .int .i64 (nm bs 1 1), .int .i64 (nm bs 2 2), .int .i64 (nm bs 4 2), .slice none 0 0, .int .i64 0, .int .i64 0, .int .i64 0, .int .i64 0, .int .i64 0, .bool false] aggCm rfl _ b6 ?_)
      | (go_at_call 30; refine (crefenc_bad (nm bs 0 1) (nm bs 1 1) (nm bs 2 2) (nm bs 4 2) 0 0 0 0 0 false (OwB.sl o6) (Nat.le_refl _) (by omega) ⟨nm_wf _ _ _, nm_wf _ _ _, nm_wf _ _ _, nm_wf _ _ _⟩ ⟨by decide, by decide, by decide, by decide⟩ hgood).mono ?_; rintro e w7 ⟨rfl, hb7⟩; have hw7 := hv6.trans (hb7.mono hz6); have hz7 := hw7.size; have b27 := b26.below hb7 b26.lt; have b67 := b6.below hb7 b6.lt; have o67 := OwB.below o6 hb7)
      | ((with_reducible show wpList _ _ _ (Oper.mk none (Op.store 56 (.tmp 2) (.tmp 101)) _ _ _ _ :: _) _ _); refine wpList_store_whole rfl 56 (.tmp 2) (.tmp 101) rfl w.heap.size rfl [.int .i64 0, .int .i64 0, .int .i64 0, .int .i64 0, .slice none 0 0, .int .i64 0, .int .i64 0, .int .i64 0, .int .i64 0, .int .i64 0, .bool false] rfl aggCm rfl _ _ b27 rfl (by simp [Value.oneCell']) ?_; intro wf bf gf sf))
    refine bodyPost_ret (results_cell_tmp rfl _ w.heap.size _ #[.int .i64 0, .int .i64 0, .int .i64 0, .int .i64 0, .slice none 0 0, .int .i64 0, .int .i64 0, .int .i64 0, .int .i64 0, .int .i64 0, .bool false] aggCm rfl rfl bf) rfl ⟨rfl, ?_⟩
    exact hw7.grown gf hz7 (fun k hk => by cases hk; exact Nat.le_refl _)
  | _ => exact h.elim

end Go.Proofs.Ytjjpifppdjpcnaa

