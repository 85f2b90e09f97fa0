/-
  The reference's Decode of frames (printed by wip/gen_decref.py).
-/
import Derived.Test.YtjjpifppdjpcnaaPduLaw
import Derived.Test.YtjjpifppdjpcnaaRef08
namespace Go.Proofs.Ytjjpifppdjpcnaa
open Go.RowKit
set_option linter.unusedVariables false
set_option linter.unusedSimpArgs false
set_option maxRecDepth 100000

/-- A pointer to a block that holds these cells. -/
def RelZ (base : Nat) (T : TypeId) (cs : Array Value) : Value → World → Prop := fun v w => ∃ g, v = .pointer (some ⟨g, 0, none⟩) ∧ base ≤ g ∧ Blk w g T cs
theorem RelZ.later {base : Nat} {T : TypeId} {cs : Array Value} (v : Value) (w w' : World) (hb : Below w.heap.size w w') (h : RelZ base T cs v w) : RelZ base T cs v w' :=
  let ⟨g, e, hg, h⟩ := h
  ⟨g, e, hg, h.below hb h.lt⟩
/-- A frame whose data are a row of the call's own. -/
def RelF (base : Nat) (k n c : Int) (m : Nat) (ds : List UInt8) : Value → World → Prop := fun v w => ∃ A c', v = .agg #[.int .i64 k, .int .i64 n, .int .i64 c, .slice A m c'] ∧ OwB w base A m c' ds
theorem RelF.later {base : Nat} {k n c : Int} {m : Nat} {ds : List UInt8} (v : Value) (w w' : World) (hb : Below w.heap.size w w') (h : RelF base k n c m ds v w) : RelF base k n c m ds v w' :=
  let ⟨A, c', e, h⟩ := h
  ⟨A, c', e, h.below hb⟩
theorem bigN_one {bs : List UInt8} {i : Nat} {x : UInt8} (h : bs[i]? = some x) : i64v (bigN ((bs.drop i).take 1)) = (x.toNat : Int) := by
  have hi : i < bs.length := (List.getElem?_eq_some_iff.1 h).1
  have e : (bs.drop i).take 1 = [x] := by
    rw [List.drop_eq_getElem_cons hi]
    rw [List.getElem?_eq_getElem hi, Option.some.injEq] at h
    simp [h]
  have hx := UInt8.toNat_lt x
  rw [e]
  show i64v (0 * 256 + x.toNat) = _
  rw [i64v, IntKind.wrap_i64]
  omega

theorem refdecode_short {w : World} {A : Option Addr} {n c : Nat} (hn : n < 8) :
    Calls Try.prog 24 #[.slice A n c] w fun e w' => e = .returned (.tuple #[.agg #[.int .i64 0, .int .i64 0, .int .i64 0, .slice none 0 0], .bool false]) ∧ Below w.heap.size w w' := by
  have hi : (n : Int) < 8 := by omega
  have b2 := Blk.new w 24 #[.int .i64 0, .int .i64 0, .int .i64 0, .slice none 0 0]
  go_enter Try.func24, Try.ntmps24
  go_wp2_with (first
    | ((with_reducible show wpList _ _ _ (Oper.mk (some 2) (Op.alloc _) _ _ _ _ :: _) _ _); refine wpList_alloc_agg rfl 24 rfl #[.int .i64 0, .int .i64 0, .int .i64 0, .slice none 0 0] zeroFr ?_)
    | ((with_reducible show wpList _ _ _ (Oper.mk none (Op.store 24 _ _) _ _ _ _ :: _) _ _); refine wpList_store_whole rfl 24 (.tmp 2) (.tmp 12) rfl w.heap.size rfl [.int .i64 0, .int .i64 0, .int .i64 0, .slice none 0 0] rfl aggFr rfl _ _ b2 rfl (by simp [Value.oneCell']) ?_; intro wf bf gf sf))
  refine bodyPost_ret (results_cell_tmp rfl _ w.heap.size _ #[.int .i64 0, .int .i64 0, .int .i64 0, .slice none 0 0] aggFr rfl rfl bf) rfl ⟨rfl, ?_⟩
  exact (below_alloc _ _).grown gf (by simp) (fun k hk => by cases hk; exact Nat.le_refl _)

set_option maxHeartbeats 4000000 in
theorem refdecode_bad {w : World} {B : Nat} {A : Option Addr} {n c : Nat} {bs : List UInt8} (hb : SlB w B A n c bs) (hB : B ≤ w.heap.size) (hn : n ≤ 1048576) (h8 : 8 ≤ n) (hok : ¬ okF (d0 bs) (d1 bs) (d2 bs) (n - 8)) :
    Calls Try.prog 24 #[.slice A n c] w fun e w' => e = .returned (.tuple #[.agg #[.int .i64 0, .int .i64 0, .int .i64 0, .slice none 0 0], .bool false]) ∧ Below w.heap.size w w' := by
  have hlen := hb.len
  have hcap := hb.le
  have hcm : c ≤ 9223372036854775807 := hb.cap
  obtain ⟨v, hv⟩ : ∃ v, v = w.alloc (.cells #[.int .i64 0, .int .i64 0, .int .i64 0, .slice none 0 0] 24) := ⟨_, rfl⟩
  have b2 : Blk v w.heap.size 24 #[.int .i64 0, .int .i64 0, .int .i64 0, .slice none 0 0] := by rw [hv]; exact Blk.new _ _ _
  have hwv : Below w.heap.size w v := by rw [hv]; exact below_alloc _ _
  have hz := hwv.size
  have hbv := hb.below (hwv.mono hB)
  have hBv := Nat.le_trans hB hz
  obtain ⟨AT1, hAT1, hsl1⟩ := hbv.tailRun (lo := 1) (by omega)
  obtain ⟨AT8, hAT8, hsl8⟩ := hbv.tailRun (lo := 8) (by omega)
  rw [show ((1 : Nat) : Int) = 1 from rfl] at hsl1
  rw [show ((8 : Nat) : Int) = 8 from rfl] at hsl8
  obtain ⟨bb, off, eA, hbb, hj⟩ := hbv.at_ (by omega)
  obtain ⟨x, hx⟩ : ∃ x, bs[0]? = some x := ⟨bs[0]'(by omega), List.getElem?_eq_getElem _⟩
  obtain ⟨y, hy⟩ : ∃ y, bs[5]? = some y := ⟨bs[5]'(by omega), List.getElem?_eq_getElem _⟩
  have e0 : d0 bs = (x.toNat : Int) := bigN_one (i := 0) hx
  have e2 : d2 bs = (y.toNat : Int) := bigN_one (i := 5) hy
  have c0 : v.cell? ⟨bb, off, none⟩ = some (.int .u8 (d0 bs)) := by rw [e0]; exact hj 0 x hx
  have c5 : v.cell? ⟨bb, off + 5, none⟩ = some (.int .u8 (d2 bs)) := by rw [e2]; exact hj 5 y hy
  obtain ⟨p0, p1⟩ := d0_range (bs := bs) (by omega)
  obtain ⟨p4, p5⟩ := d2_range (bs := bs) (by omega)
  have hi8 : (8 : Int) ≤ (n : Int) := by omega
  have hi5 : (5 : Int) < (n : Int) := by omega
  have hi0 : (0 : Int) < (n : Int) := by omega
  have hn5 : (5 : Int) < (c : Int) := by omega
  subst eA
  have HV := Lib.hid hv
  have HB := Lib.hid hbv
  have H8 := Lib.hid hAT8
  have HC0 := Lib.hid c0
  have HC5 := Lib.hid c5
  have hbbv : bb < v.heap.size := Nat.lt_of_lt_of_le hbb hBv
  clear hv hb hbv hj hx hy e0 e2 hAT8 c0 c5
  go_enter Try.func24, Try.ntmps24
  go_wp2_with (first
    | ((with_reducible show wpList _ _ _ (Oper.mk (some 2) (Op.alloc _) _ _ _ _ :: _) _ _); refine wpList_alloc_agg rfl 24 rfl #[.int .i64 0, .int .i64 0, .int .i64 0, .slice none 0 0] zeroFr ?_; rw [← HV.out])
    | (go_at_call 51; refine (ref_take_ok hAT1 (k := 4) (by simp [sz]) (by omega)).mono ?_; rintro e w' ⟨rfl, rfl⟩; rw [show i64v (bigN ((bs.drop 1).take 4)) = d1 bs from rfl]))
  refine Code.wp_mono (Q := Exit.then (fun a' w' => ∃ g6 A6 c6, (∃ y9 y10 y11 y12 y13 y14 y15 y16 y17 y18 y19 y20 y21 y22 y23 y24 y25 y26 y27 y28 y29 y30 y31 y32 : Value, a' = { tmps := #[Value.slice (some ⟨bb, off, none⟩) n c, undef, Value.pointer (some ⟨w.heap.size, 0, none⟩), Value.bool false, Value.int .i64 (d1 bs), Value.bool true, Value.pointer (some ⟨g6, 0, none⟩), undef, undef, y9, y10, y11, y12, y13, y14, y15, y16, y17, y18, y19, y20, y21, y22, y23, y24, y25, y26, y27, y28, y29, y30, y31, y32, undef, undef, undef, undef, undef, undef, undef, undef, undef, undef, undef, undef, undef, undef, undef, undef], defers := [] }) ∧ Blk w' g6 24 #[.int .i64 (d0 bs), .int .i64 (d1 bs), .int .i64 (d2 bs), .slice A6 (n - 8) c6] ∧ OwB w' v.heap.size A6 (n - 8) c6 (bs.drop 8) ∧ v.heap.size ≤ g6 ∧ Below v.heap.size v w') (fun _ _ _ => False)) ?_ ?_
  rotate_left
  · refine (wpIn_wide (n := 4)).1 ?_
    refine wpIn_region_rel free_wide rfl 15 (fun W W' => Below W.heap.size W W') (fun W => Below v.heap.size v W)
      [Det (.slice (some ⟨bb, off, none⟩) n c), Det (.pointer (some ⟨bb, off, none⟩)), Det (.int .u8 (d0 bs)), Det (.int .i64 (d0 bs)), Det (.int .i64 (d1 bs)), Det (.slice (some ⟨bb, off, none⟩) n c), Det (.pointer (some ⟨bb, off + 5, none⟩)), Det (.int .u8 (d2 bs)), Det (.int .i64 (d2 bs)), RelE, Det (.slice (some ⟨bb, off, none⟩) n c), Det (.slice AT8 (n - 8) (c - 8)), RelO v.heap.size (n - 8) (bs.drop 8), RelF v.heap.size (d0 bs) (d1 bs) (d2 bs) (n - 8) (bs.drop 8), RelZ v.heap.size 24 #[.int .i64 0, .int .i64 0, .int .i64 0, .slice none 0 0], Any]
      [[], [(0, some 19)], [(1, some 20)], [(2, some 21)], [], [], [(5, some 24)], [(6, some 25)], [(7, some 26)], [], [], [(10, some 29)], [(9, some 28), (11, some 30)], [(3, some 22), (4, some 23), (8, some 27), (12, some 31)], [], [(14, some 6), (13, some 32)]]
      [[], [0], [0, 1], [0, 1, 2], [], [], [5], [5, 6], [5, 6, 7], [], [], [10], [9, 10, 11], [0, 1, 2, 3, 4, 5, 6, 7, 8, 9, 10, 11, 12], [], [0, 1, 2, 3, 4, 5, 6, 7, 8, 9, 10, 11, 12, 13, 14]]
      [(0, some 19), (1, some 20), (2, some 21), (3, some 22), (4, some 23), (5, some 24), (6, some 25), (7, some 26), (8, some 27), (9, some 28), (10, some 29), (11, some 30), (12, some 31), (13, some 32), (14, some 6), (15, none)] (by kernel_rfl) (by kernel_rfl) (by kernel_rfl) (fun W W' h1 h2 => h1.trans (h2.mono h1.size)) ((Below.refl _ _).drew) ?_ ?_ ?_
    · exact (AllMono.cons Det.later (AllMono.cons Det.later (AllMono.cons Det.later (AllMono.cons Det.later (AllMono.cons Det.later (AllMono.cons Det.later (AllMono.cons Det.later (AllMono.cons Det.later (AllMono.cons Det.later (AllMono.cons RelE.later (AllMono.cons Det.later (AllMono.cons Det.later (AllMono.cons RelO.later (AllMono.cons RelF.later (AllMono.cons RelZ.later (AllMono.cons Any.later AllMono.nil))))))))))))))))
    · refine AllOb.cons ?_ (AllOb.cons ?_ (AllOb.cons ?_ (AllOb.cons ?_ (AllOb.cons ?_ (AllOb.cons ?_ (AllOb.cons ?_ (AllOb.cons ?_ (AllOb.cons ?_ (AllOb.cons ?_ (AllOb.cons ?_ (AllOb.cons ?_ (AllOb.cons ?_ (AllOb.cons ?_ (AllOb.cons ?_ (AllOb.nil)))))))))))))))
      · intro uF W hC' hU aF hF
        have hC : Below v.heap.size v W := hC'
        clear hC'
        simp only [puts] at hF
        subst hF
        go_wp2_with (fail)
        exact ⟨rfl, rfl, (Below.refl _ _), rfl⟩
      · intro uF W hC' hU aF hF
        have hC : Below v.heap.size v W := hC'
        clear hC'
        have h19 : (Det (.slice (some ⟨bb, off, none⟩) n c)) (uF 0) W := hU.1
        clear hU
        simp only [puts, Act.put, List.setIfInBounds_toArray, List.set_cons_zero, List.set_cons_succ] at hF
        generalize uF 0 = x19 at h19 hF
        obtain rfl : x19 = (.slice (some ⟨bb, off, none⟩) n c) := h19
        subst hF
        go_wp2_with (fail)
        exact ⟨rfl, rfl, (Below.refl _ _), rfl⟩
      · intro uF W hC' hU aF hF
        have hC : Below v.heap.size v W := hC'
        clear hC'
        have h20 : (Det (.pointer (some ⟨bb, off, none⟩))) (uF 1) W := hU.1
        clear hU
        simp only [puts, Act.put, List.setIfInBounds_toArray, List.set_cons_zero, List.set_cons_succ] at hF
        generalize uF 1 = x20 at h20 hF
        obtain rfl : x20 = (.pointer (some ⟨bb, off, none⟩)) := h20
        subst hF
        have k0 := (hC.cell (show (⟨bb, off, none⟩ : Addr).block < v.heap.size from hbbv)).trans HC0.out
        go_wp2_with (fail)
        exact ⟨rfl, rfl, (Below.refl _ _), rfl⟩
      · intro uF W hC' hU aF hF
        have hC : Below v.heap.size v W := hC'
        clear hC'
        have h21 : (Det (.int .u8 (d0 bs))) (uF 2) W := hU.1
        clear hU
        simp only [puts, Act.put, List.setIfInBounds_toArray, List.set_cons_zero, List.set_cons_succ] at hF
        generalize uF 2 = x21 at h21 hF
        obtain rfl : x21 = (.int .u8 (d0 bs)) := h21
        subst hF
        go_wp2_with (fail)
        exact ⟨rfl, rfl, (Below.refl _ _), rfl⟩
      · intro uF W hC' hU aF hF
        have hC : Below v.heap.size v W := hC'
        clear hC'
        simp only [puts] at hF
        subst hF
        go_wp2_with (fail)
        exact ⟨rfl, rfl, (Below.refl _ _), rfl⟩
      · intro uF W hC' hU aF hF
        have hC : Below v.heap.size v W := hC'
        clear hC'
        simp only [puts] at hF
        subst hF
        go_wp2_with (fail)
        exact ⟨rfl, rfl, (Below.refl _ _), rfl⟩
      · intro uF W hC' hU aF hF
        have hC : Below v.heap.size v W := hC'
        clear hC'
        have h24 : (Det (.slice (some ⟨bb, off, none⟩) n c)) (uF 5) W := hU.1
        clear hU
        simp only [puts, Act.put, List.setIfInBounds_toArray, List.set_cons_zero, List.set_cons_succ] at hF
        generalize uF 5 = x24 at h24 hF
        obtain rfl : x24 = (.slice (some ⟨bb, off, none⟩) n c) := h24
        subst hF
        go_wp2_with (fail)
        exact ⟨rfl, rfl, (Below.refl _ _), rfl⟩
      · intro uF W hC' hU aF hF
        have hC : Below v.heap.size v W := hC'
        clear hC'
        have h25 : (Det (.pointer (some ⟨bb, off + 5, none⟩))) (uF 6) W := hU.1
        clear hU
        simp only [puts, Act.put, List.setIfInBounds_toArray, List.set_cons_zero, List.set_cons_succ] at hF
        generalize uF 6 = x25 at h25 hF
        obtain rfl : x25 = (.pointer (some ⟨bb, off + 5, none⟩)) := h25
        subst hF
        have k5 := (hC.cell (show (⟨bb, off + 5, none⟩ : Addr).block < v.heap.size from hbbv)).trans HC5.out
        go_wp2_with (fail)
        exact ⟨rfl, rfl, (Below.refl _ _), rfl⟩
      · intro uF W hC' hU aF hF
        have hC : Below v.heap.size v W := hC'
        clear hC'
        have h26 : (Det (.int .u8 (d2 bs))) (uF 7) W := hU.1
        clear hU
        simp only [puts, Act.put, List.setIfInBounds_toArray, List.set_cons_zero, List.set_cons_succ] at hF
        generalize uF 7 = x26 at h26 hF
        obtain rfl : x26 = (.int .u8 (d2 bs)) := h26
        subst hF
        go_wp2_with (fail)
        exact ⟨rfl, rfl, (Below.refl _ _), rfl⟩
      · intro uF W hC' hU aF hF
        have hC : Below v.heap.size v W := hC'
        clear hC'
        simp only [puts] at hF
        subst hF
        go_wp2_with (fail)
        exact ⟨rfl, rfl, (below_alloc _ _), ⟨_, rfl⟩⟩
      · intro uF W hC' hU aF hF
        have hC : Below v.heap.size v W := hC'
        clear hC'
        simp only [puts] at hF
        subst hF
        go_wp2_with (fail)
        exact ⟨rfl, rfl, (Below.refl _ _), rfl⟩
      · intro uF W hC' hU aF hF
        have hC : Below v.heap.size v W := hC'
        clear hC'
        have h29 : (Det (.slice (some ⟨bb, off, none⟩) n c)) (uF 10) W := hU.1
        clear hU
        simp only [puts, Act.put, List.setIfInBounds_toArray, List.set_cons_zero, List.set_cons_succ] at hF
        generalize uF 10 = x29 at h29 hF
        obtain rfl : x29 = (.slice (some ⟨bb, off, none⟩) n c) := h29
        subst hF
        go_wp2_with (fail)
        exact ⟨rfl, rfl, (Below.refl _ _), rfl⟩
      · intro uF W hC' hU aF hF
        have hC : Below v.heap.size v W := hC'
        clear hC'
        have h28 : RelE (uF 9) W := hU.1
        have h30 : (Det (.slice AT8 (n - 8) (c - 8))) (uF 11) W := hU.2.1
        clear hU
        simp only [puts, Act.put, List.setIfInBounds_toArray, List.set_cons_zero, List.set_cons_succ] at hF
        generalize uF 9 = x28 at h28 hF
        generalize uF 11 = x30 at h30 hF
        obtain ⟨A28, rfl⟩ := h28
        obtain rfl : x30 = (.slice AT8 (n - 8) (c - 8)) := h30
        subst hF
        go_wp2_with ((at_builtin; refine wpList_append8 rfl (.tmp 28) (.tmp 30) rfl rfl (OwB.nil W W.heap.size A28) rfl (H8.out.below (hC.mono hBv)) (by omega) (Nat.le_refl _) (n - 8) (by omega) ?_; intro A9 c9 w9 h9 q9))
        exact ⟨rfl, rfl, (q9.below (OwB.nil W W.heap.size A28) (Below.refl _ _) (Nat.le_refl _) (Nat.le_refl _)), ⟨_, _, rfl, Row.base_le h9 hC.size⟩⟩
      · intro uF W hC' hU aF hF
        have hC : Below v.heap.size v W := hC'
        clear hC'
        have h22 : (Det (.int .i64 (d0 bs))) (uF 3) W := hU.1
        have h23 : (Det (.int .i64 (d1 bs))) (uF 4) W := hU.2.1
        have h27 : (Det (.int .i64 (d2 bs))) (uF 8) W := hU.2.2.1
        have h31 : (RelO v.heap.size (n - 8) (bs.drop 8)) (uF 12) W := hU.2.2.2.1
        clear hU
        simp only [puts, Act.put, List.setIfInBounds_toArray, List.set_cons_zero, List.set_cons_succ] at hF
        generalize uF 3 = x22 at h22 hF
        generalize uF 4 = x23 at h23 hF
        generalize uF 8 = x27 at h27 hF
        generalize uF 12 = x31 at h31 hF
        obtain rfl : x22 = (.int .i64 (d0 bs)) := h22
        obtain rfl : x23 = (.int .i64 (d1 bs)) := h23
        obtain rfl : x27 = (.int .i64 (d2 bs)) := h27
        obtain ⟨A31, c31, rfl, s31⟩ := h31
        subst hF
        go_wp2_with (fail)
        exact ⟨rfl, rfl, (Below.refl _ _), ⟨_, _, rfl, s31⟩⟩
      · intro uF W hC' hU aF hF
        have hC : Below v.heap.size v W := hC'
        clear hC'
        simp only [puts] at hF
        subst hF
        go_wp2_with (((with_reducible show wpList _ _ _ (Oper.mk (some 6) (Op.alloc _) _ _ _ _ :: _) _ _); refine wpList_alloc_agg (by rfl) 24 rfl #[.int .i64 0, .int .i64 0, .int .i64 0, .slice none 0 0] zeroFr ?_))
        exact ⟨rfl, rfl, (below_alloc _ _), ⟨_, rfl, hC.size, Blk.new _ _ _⟩⟩
    intro uF W5 hC' hU aF hF
    have hCW5 : Below v.heap.size v W5 := hC'
    clear hC'
    have h32 : (RelF v.heap.size (d0 bs) (d1 bs) (d2 bs) (n - 8) (bs.drop 8)) (uF 13) W5 := hU.2.2.2.2.2.2.2.2.2.2.2.2.2.1
    have h6 : (RelZ v.heap.size 24 #[.int .i64 0, .int .i64 0, .int .i64 0, .slice none 0 0]) (uF 14) W5 := hU.2.2.2.2.2.2.2.2.2.2.2.2.2.2.1
    clear hU
    simp only [List.take_succ_cons, List.take_zero, puts, Act.put, List.setIfInBounds_toArray, List.set_cons_zero, List.set_cons_succ] at hF
    generalize uF 0 = x19 at hF
    generalize uF 1 = x20 at hF
    generalize uF 2 = x21 at hF
    generalize uF 3 = x22 at hF
    generalize uF 4 = x23 at hF
    generalize uF 5 = x24 at hF
    generalize uF 6 = x25 at hF
    generalize uF 7 = x26 at hF
    generalize uF 8 = x27 at hF
    generalize uF 9 = x28 at hF
    generalize uF 10 = x29 at hF
    generalize uF 11 = x30 at hF
    generalize uF 12 = x31 at hF
    generalize uF 13 = x32 at h32 hF
    generalize uF 14 = x6 at h6 hF
    obtain ⟨A32, c32, rfl, s32⟩ := h32
    obtain ⟨g6, rfl, z6, b6⟩ := h6
    subst hF
    simp only [List.drop_succ_cons, List.drop_zero]
    refine wpListIn_of free_wide (fun ⟨_, _, h⟩ => h) rfl ?_
    refine wpList_store_whole rfl 24 (.tmp 6) (.tmp 32) rfl g6 rfl [.int .i64 (d0 bs), .int .i64 (d1 bs), .int .i64 (d2 bs), .slice A32 (n - 8) c32] rfl aggFr rfl _ _ b6 rfl (by simp [Value.oneCell']) ?_
    intro w4 hb4 hg4 hs4
    have hs4' : OwB w4 v.heap.size A32 (n - 8) c32 (bs.drop 8) := Row.keepRow s32 hg4 (by
      rcases Row.wrote_lt s32 with h1 | ⟨g', cur', h1, _, _, hb'⟩
      · exact .inl h1
      · right
        rw [h1]
        intro e
        cases e
        have := hb'.symm.trans b6
        simp at this)
    exact wpList_nil ⟨g6, A32, c32, ⟨_, _, _, _, _, _, _, _, _, _, _, _, _, _, _, _, _, _, _, _, _, _, _, _, rfl⟩, hb4, hs4', z6, hCW5.grown hg4 hCW5.size (fun k hk => by cases hk; exact z6)⟩
  rintro e a' w4 h
  cases e with
  | normal =>
    obtain ⟨g6, A6, c6, ⟨y9, y10, y11, y12, y13, y14, y15, y16, y17, y18, y19, y20, y21, y22, y23, y24, y25, y26, y27, y28, y29, y30, y31, y32, rfl⟩, hb6, ho6, hg6, hw4⟩ := h
    have hw4w := hwv.trans (hw4.mono hz)
    have hz4 := hw4.size
    have b24 := b2.below hw4 b2.lt
    have hst := (HB.out.below (hw4.mono hBv)).str
    clear hst
    go_wp2_with (first
      | ((with_reducible show wpList _ _ _ (Oper.mk (some 34) (Op.load 24 _) _ _ _ _ :: _) _ _); refine wpList_load_whole rfl 24 (.tmp 6) rfl g6 rfl #[.int .i64 (d0 bs), .int .i64 (d1 bs), .int .i64 (d2 bs), .slice A6 (n - 8) c6] aggFr rfl _ hb6 ?_)
      | (go_at_call 16; refine (refencode_bad (d0 bs) (d1 bs) (d2 bs) (by omega) hok).mono ?_; rintro e w5 ⟨rfl, hb5⟩; have hw5 := hw4w.trans (hb5.mono hw4w.size); have hz5 := hw5.size; have b25 := b24.below hb5 b24.lt; have b65 := hb6.below hb5 hb6.lt)
      | ((with_reducible show wpList _ _ _ (Oper.mk none (Op.store 24 _ _) _ _ _ _ :: _) _ _); refine wpList_store_whole rfl 24 (.tmp 2) (.tmp 47) rfl w.heap.size rfl [.int .i64 0, .int .i64 0, .int .i64 0, .slice none 0 0] rfl aggFr rfl _ _ b25 rfl (by simp [Value.oneCell']) ?_; intro wf bf gf sf))
    refine bodyPost_ret (results_cell_tmp rfl _ w.heap.size _ #[.int .i64 0, .int .i64 0, .int .i64 0, .slice none 0 0] aggFr rfl rfl bf) rfl ⟨rfl, ?_⟩
    exact hw5.grown gf hz5 (fun k hk => by cases hk; exact Nat.le_refl _)
  | _ => exact h.elim

set_option maxHeartbeats 4000000 in
theorem refdecode_other {w : World} {B : Nat} {A : Option Addr} {n c : Nat} {bs : List UInt8} (hb : SlB w B A n c bs) (hB : B ≤ w.heap.size) (hn : n ≤ 1048576) (h8 : 8 ≤ n) (hok : okF (d0 bs) (d1 bs) (d2 bs) (n - 8)) (hdiff : frB (d0 bs) (d1 bs) (d2 bs) (bs.drop 8) ≠ bs) :
    Calls Try.prog 24 #[.slice A n c] w fun e w' => e = .returned (.tuple #[.agg #[.int .i64 0, .int .i64 0, .int .i64 0, .slice none 0 0], .bool false]) ∧ Below w.heap.size w w' := by
  have hlen := hb.len
  have hcap := hb.le
  have hcm : c ≤ 9223372036854775807 := hb.cap
  obtain ⟨v, hv⟩ : ∃ v, v = w.alloc (.cells #[.int .i64 0, .int .i64 0, .int .i64 0, .slice none 0 0] 24) := ⟨_, rfl⟩
  have b2 : Blk v w.heap.size 24 #[.int .i64 0, .int .i64 0, .int .i64 0, .slice none 0 0] := by rw [hv]; exact Blk.new _ _ _
  have hwv : Below w.heap.size w v := by rw [hv]; exact below_alloc _ _
  have hz := hwv.size
  have hbv := hb.below (hwv.mono hB)
  have hBv := Nat.le_trans hB hz
  obtain ⟨AT1, hAT1, hsl1⟩ := hbv.tailRun (lo := 1) (by omega)
  obtain ⟨AT8, hAT8, hsl8⟩ := hbv.tailRun (lo := 8) (by omega)
  rw [show ((1 : Nat) : Int) = 1 from rfl] at hsl1
  rw [show ((8 : Nat) : Int) = 8 from rfl] at hsl8
  obtain ⟨bb, off, eA, hbb, hj⟩ := hbv.at_ (by omega)
  obtain ⟨x, hx⟩ : ∃ x, bs[0]? = some x := ⟨bs[0]'(by omega), List.getElem?_eq_getElem _⟩
  obtain ⟨y, hy⟩ : ∃ y, bs[5]? = some y := ⟨bs[5]'(by omega), List.getElem?_eq_getElem _⟩
  have e0 : d0 bs = (x.toNat : Int) := bigN_one (i := 0) hx
  have e2 : d2 bs = (y.toNat : Int) := bigN_one (i := 5) hy
  have c0 : v.cell? ⟨bb, off, none⟩ = some (.int .u8 (d0 bs)) := by rw [e0]; exact hj 0 x hx
  have c5 : v.cell? ⟨bb, off + 5, none⟩ = some (.int .u8 (d2 bs)) := by rw [e2]; exact hj 5 y hy
  obtain ⟨p0, p1⟩ := d0_range (bs := bs) (by omega)
  obtain ⟨p4, p5⟩ := d2_range (bs := bs) (by omega)
  have hi8 : (8 : Int) ≤ (n : Int) := by omega
  have hi5 : (5 : Int) < (n : Int) := by omega
  have hi0 : (0 : Int) < (n : Int) := by omega
  have hn5 : (5 : Int) < (c : Int) := by omega
  subst eA
  have HV := Lib.hid hv
  have HB := Lib.hid hbv
  have H8 := Lib.hid hAT8
  have HC0 := Lib.hid c0
  have HC5 := Lib.hid c5
  have hbbv : bb < v.heap.size := Nat.lt_of_lt_of_le hbb hBv
  clear hv hb hbv hj hx hy e0 e2 hAT8 c0 c5
  go_enter Try.func24, Try.ntmps24
  go_wp2_with (first
    | ((with_reducible show wpList _ _ _ (Oper.mk (some 2) (Op.alloc _) _ _ _ _ :: _) _ _); refine wpList_alloc_agg rfl 24 rfl #[.int .i64 0, .int .i64 0, .int .i64 0, .slice none 0 0] zeroFr ?_; rw [← HV.out])
    | (go_at_call 51; refine (ref_take_ok hAT1 (k := 4) (by simp [sz]) (by omega)).mono ?_; rintro e w' ⟨rfl, rfl⟩; rw [show i64v (bigN ((bs.drop 1).take 4)) = d1 bs from rfl]))
  refine Code.wp_mono (Q := Exit.then (fun a' w' => ∃ g6 A6 c6, (∃ y9 y10 y11 y12 y13 y14 y15 y16 y17 y18 y19 y20 y21 y22 y23 y24 y25 y26 y27 y28 y29 y30 y31 y32 : Value, a' = { tmps := #[Value.slice (some ⟨bb, off, none⟩) n c, undef, Value.pointer (some ⟨w.heap.size, 0, none⟩), Value.bool false, Value.int .i64 (d1 bs), Value.bool true, Value.pointer (some ⟨g6, 0, none⟩), undef, undef, y9, y10, y11, y12, y13, y14, y15, y16, y17, y18, y19, y20, y21, y22, y23, y24, y25, y26, y27, y28, y29, y30, y31, y32, undef, undef, undef, undef, undef, undef, undef, undef, undef, undef, undef, undef, undef, undef, undef, undef], defers := [] }) ∧ Blk w' g6 24 #[.int .i64 (d0 bs), .int .i64 (d1 bs), .int .i64 (d2 bs), .slice A6 (n - 8) c6] ∧ OwB w' v.heap.size A6 (n - 8) c6 (bs.drop 8) ∧ v.heap.size ≤ g6 ∧ Below v.heap.size v w') (fun _ _ _ => False)) ?_ ?_
  rotate_left
  · refine (wpIn_wide (n := 4)).1 ?_
    refine wpIn_region_rel free_wide rfl 15 (fun W W' => Below W.heap.size W W') (fun W => Below v.heap.size v W)
      [Det (.slice (some ⟨bb, off, none⟩) n c), Det (.pointer (some ⟨bb, off, none⟩)), Det (.int .u8 (d0 bs)), Det (.int .i64 (d0 bs)), Det (.int .i64 (d1 bs)), Det (.slice (some ⟨bb, off, none⟩) n c), Det (.pointer (some ⟨bb, off + 5, none⟩)), Det (.int .u8 (d2 bs)), Det (.int .i64 (d2 bs)), RelE, Det (.slice (some ⟨bb, off, none⟩) n c), Det (.slice AT8 (n - 8) (c - 8)), RelO v.heap.size (n - 8) (bs.drop 8), RelF v.heap.size (d0 bs) (d1 bs) (d2 bs) (n - 8) (bs.drop 8), RelZ v.heap.size 24 #[.int .i64 0, .int .i64 0, .int .i64 0, .slice none 0 0], Any]
      [[], [(0, some 19)], [(1, some 20)], [(2, some 21)], [], [], [(5, some 24)], [(6, some 25)], [(7, some 26)], [], [], [(10, some 29)], [(9, some 28), (11, some 30)], [(3, some 22), (4, some 23), (8, some 27), (12, some 31)], [], [(14, some 6), (13, some 32)]]
      [[], [0], [0, 1], [0, 1, 2], [], [], [5], [5, 6], [5, 6, 7], [], [], [10], [9, 10, 11], [0, 1, 2, 3, 4, 5, 6, 7, 8, 9, 10, 11, 12], [], [0, 1, 2, 3, 4, 5, 6, 7, 8, 9, 10, 11, 12, 13, 14]]
      [(0, some 19), (1, some 20), (2, some 21), (3, some 22), (4, some 23), (5, some 24), (6, some 25), (7, some 26), (8, some 27), (9, some 28), (10, some 29), (11, some 30), (12, some 31), (13, some 32), (14, some 6), (15, none)] (by kernel_rfl) (by kernel_rfl) (by kernel_rfl) (fun W W' h1 h2 => h1.trans (h2.mono h1.size)) ((Below.refl _ _).drew) ?_ ?_ ?_
    · exact (AllMono.cons Det.later (AllMono.cons Det.later (AllMono.cons Det.later (AllMono.cons Det.later (AllMono.cons Det.later (AllMono.cons Det.later (AllMono.cons Det.later (AllMono.cons Det.later (AllMono.cons Det.later (AllMono.cons RelE.later (AllMono.cons Det.later (AllMono.cons Det.later (AllMono.cons RelO.later (AllMono.cons RelF.later (AllMono.cons RelZ.later (AllMono.cons Any.later AllMono.nil))))))))))))))))
    · refine AllOb.cons ?_ (AllOb.cons ?_ (AllOb.cons ?_ (AllOb.cons ?_ (AllOb.cons ?_ (AllOb.cons ?_ (AllOb.cons ?_ (AllOb.cons ?_ (AllOb.cons ?_ (AllOb.cons ?_ (AllOb.cons ?_ (AllOb.cons ?_ (AllOb.cons ?_ (AllOb.cons ?_ (AllOb.cons ?_ (AllOb.nil)))))))))))))))
      · intro uF W hC' hU aF hF
        have hC : Below v.heap.size v W := hC'
        clear hC'
        simp only [puts] at hF
        subst hF
        go_wp2_with (fail)
        exact ⟨rfl, rfl, (Below.refl _ _), rfl⟩
      · intro uF W hC' hU aF hF
        have hC : Below v.heap.size v W := hC'
        clear hC'
        have h19 : (Det (.slice (some ⟨bb, off, none⟩) n c)) (uF 0) W := hU.1
        clear hU
        simp only [puts, Act.put, List.setIfInBounds_toArray, List.set_cons_zero, List.set_cons_succ] at hF
        generalize uF 0 = x19 at h19 hF
        obtain rfl : x19 = (.slice (some ⟨bb, off, none⟩) n c) := h19
        subst hF
        go_wp2_with (fail)
        exact ⟨rfl, rfl, (Below.refl _ _), rfl⟩
      · intro uF W hC' hU aF hF
        have hC : Below v.heap.size v W := hC'
        clear hC'
        have h20 : (Det (.pointer (some ⟨bb, off, none⟩))) (uF 1) W := hU.1
        clear hU
        simp only [puts, Act.put, List.setIfInBounds_toArray, List.set_cons_zero, List.set_cons_succ] at hF
        generalize uF 1 = x20 at h20 hF
        obtain rfl : x20 = (.pointer (some ⟨bb, off, none⟩)) := h20
        subst hF
        have k0 := (hC.cell (show (⟨bb, off, none⟩ : Addr).block < v.heap.size from hbbv)).trans HC0.out
        go_wp2_with (fail)
        exact ⟨rfl, rfl, (Below.refl _ _), rfl⟩
      · intro uF W hC' hU aF hF
        have hC : Below v.heap.size v W := hC'
        clear hC'
        have h21 : (Det (.int .u8 (d0 bs))) (uF 2) W := hU.1
        clear hU
        simp only [puts, Act.put, List.setIfInBounds_toArray, List.set_cons_zero, List.set_cons_succ] at hF
        generalize uF 2 = x21 at h21 hF
        obtain rfl : x21 = (.int .u8 (d0 bs)) := h21
        subst hF
        go_wp2_with (fail)
        exact ⟨rfl, rfl, (Below.refl _ _), rfl⟩
      · intro uF W hC' hU aF hF
        have hC : Below v.heap.size v W := hC'
        clear hC'
        simp only [puts] at hF
        subst hF
        go_wp2_with (fail)
        exact ⟨rfl, rfl, (Below.refl _ _), rfl⟩
      · intro uF W hC' hU aF hF
        have hC : Below v.heap.size v W := hC'
        clear hC'
        simp only [puts] at hF
        subst hF
        go_wp2_with (fail)
        exact ⟨rfl, rfl, (Below.refl _ _), rfl⟩
      · intro uF W hC' hU aF hF
        have hC : Below v.heap.size v W := hC'
        clear hC'
        have h24 : (Det (.slice (some ⟨bb, off, none⟩) n c)) (uF 5) W := hU.1
        clear hU
        simp only [puts, Act.put, List.setIfInBounds_toArray, List.set_cons_zero, List.set_cons_succ] at hF
        generalize uF 5 = x24 at h24 hF
        obtain rfl : x24 = (.slice (some ⟨bb, off, none⟩) n c) := h24
        subst hF
        go_wp2_with (fail)
        exact ⟨rfl, rfl, (Below.refl _ _), rfl⟩
      · intro uF W hC' hU aF hF
        have hC : Below v.heap.size v W := hC'
        clear hC'
        have h25 : (Det (.pointer (some ⟨bb, off + 5, none⟩))) (uF 6) W := hU.1
        clear hU
        simp only [puts, Act.put, List.setIfInBounds_toArray, List.set_cons_zero, List.set_cons_succ] at hF
        generalize uF 6 = x25 at h25 hF
        obtain rfl : x25 = (.pointer (some ⟨bb, off + 5, none⟩)) := h25
        subst hF
        have k5 := (hC.cell (show (⟨bb, off + 5, none⟩ : Addr).block < v.heap.size from hbbv)).trans HC5.out
        go_wp2_with (fail)
        exact ⟨rfl, rfl, (Below.refl _ _), rfl⟩
      · intro uF W hC' hU aF hF
        have hC : Below v.heap.size v W := hC'
        clear hC'
        have h26 : (Det (.int .u8 (d2 bs))) (uF 7) W := hU.1
        clear hU
        simp only [puts, Act.put, List.setIfInBounds_toArray, List.set_cons_zero, List.set_cons_succ] at hF
        generalize uF 7 = x26 at h26 hF
        obtain rfl : x26 = (.int .u8 (d2 bs)) := h26
        subst hF
        go_wp2_with (fail)
        exact ⟨rfl, rfl, (Below.refl _ _), rfl⟩
      · intro uF W hC' hU aF hF
        have hC : Below v.heap.size v W := hC'
        clear hC'
        simp only [puts] at hF
        subst hF
        go_wp2_with (fail)
        exact ⟨rfl, rfl, (below_alloc _ _), ⟨_, rfl⟩⟩
      · intro uF W hC' hU aF hF
        have hC : Below v.heap.size v W := hC'
        clear hC'
        simp only [puts] at hF
        subst hF
        go_wp2_with (fail)
        exact ⟨rfl, rfl, (Below.refl _ _), rfl⟩
      · intro uF W hC' hU aF hF
        have hC : Below v.heap.size v W := hC'
        clear hC'
        have h29 : (Det (.slice (some ⟨bb, off, none⟩) n c)) (uF 10) W := hU.1
        clear hU
        simp only [puts, Act.put, List.setIfInBounds_toArray, List.set_cons_zero, List.set_cons_succ] at hF
        generalize uF 10 = x29 at h29 hF
        obtain rfl : x29 = (.slice (some ⟨bb, off, none⟩) n c) := h29
        subst hF
        go_wp2_with (fail)
        exact ⟨rfl, rfl, (Below.refl _ _), rfl⟩
      · intro uF W hC' hU aF hF
        have hC : Below v.heap.size v W := hC'
        clear hC'
        have h28 : RelE (uF 9) W := hU.1
        have h30 : (Det (.slice AT8 (n - 8) (c - 8))) (uF 11) W := hU.2.1
        clear hU
        simp only [puts, Act.put, List.setIfInBounds_toArray, List.set_cons_zero, List.set_cons_succ] at hF
        generalize uF 9 = x28 at h28 hF
        generalize uF 11 = x30 at h30 hF
        obtain ⟨A28, rfl⟩ := h28
        obtain rfl : x30 = (.slice AT8 (n - 8) (c - 8)) := h30
        subst hF
        go_wp2_with ((at_builtin; refine wpList_append8 rfl (.tmp 28) (.tmp 30) rfl rfl (OwB.nil W W.heap.size A28) rfl (H8.out.below (hC.mono hBv)) (by omega) (Nat.le_refl _) (n - 8) (by omega) ?_; intro A9 c9 w9 h9 q9))
        exact ⟨rfl, rfl, (q9.below (OwB.nil W W.heap.size A28) (Below.refl _ _) (Nat.le_refl _) (Nat.le_refl _)), ⟨_, _, rfl, Row.base_le h9 hC.size⟩⟩
      · intro uF W hC' hU aF hF
        have hC : Below v.heap.size v W := hC'
        clear hC'
        have h22 : (Det (.int .i64 (d0 bs))) (uF 3) W := hU.1
        have h23 : (Det (.int .i64 (d1 bs))) (uF 4) W := hU.2.1
        have h27 : (Det (.int .i64 (d2 bs))) (uF 8) W := hU.2.2.1
        have h31 : (RelO v.heap.size (n - 8) (bs.drop 8)) (uF 12) W := hU.2.2.2.1
        clear hU
        simp only [puts, Act.put, List.setIfInBounds_toArray, List.set_cons_zero, List.set_cons_succ] at hF
        generalize uF 3 = x22 at h22 hF
        generalize uF 4 = x23 at h23 hF
        generalize uF 8 = x27 at h27 hF
        generalize uF 12 = x31 at h31 hF
        obtain rfl : x22 = (.int .i64 (d0 bs)) := h22
        obtain rfl : x23 = (.int .i64 (d1 bs)) := h23
        obtain rfl : x27 = (.int .i64 (d2 bs)) := h27
        obtain ⟨A31, c31, rfl, s31⟩ := h31
        subst hF
        go_wp2_with (fail)
        exact ⟨rfl, rfl, (Below.refl _ _), ⟨_, _, rfl, s31⟩⟩
      · intro uF W hC' hU aF hF
        have hC : Below v.heap.size v W := hC'
        clear hC'
        simp only [puts] at hF
        subst hF
        go_wp2_with (((with_reducible show wpList _ _ _ (Oper.mk (some 6) (Op.alloc _) _ _ _ _ :: _) _ _); refine wpList_alloc_agg (by rfl) 24 rfl #[.int .i64 0, .int .i64 0, .int .i64 0, .slice none 0 0] zeroFr ?_))
        exact ⟨rfl, rfl, (below_alloc _ _), ⟨_, rfl, hC.size, Blk.new _ _ _⟩⟩
    intro uF W5 hC' hU aF hF
    have hCW5 : Below v.heap.size v W5 := hC'
    clear hC'
    have h32 : (RelF v.heap.size (d0 bs) (d1 bs) (d2 bs) (n - 8) (bs.drop 8)) (uF 13) W5 := hU.2.2.2.2.2.2.2.2.2.2.2.2.2.1
    have h6 : (RelZ v.heap.size 24 #[.int .i64 0, .int .i64 0, .int .i64 0, .slice none 0 0]) (uF 14) W5 := hU.2.2.2.2.2.2.2.2.2.2.2.2.2.2.1
    clear hU
    simp only [List.take_succ_cons, List.take_zero, puts, Act.put, List.setIfInBounds_toArray, List.set_cons_zero, List.set_cons_succ] at hF
    generalize uF 0 = x19 at hF
    generalize uF 1 = x20 at hF
    generalize uF 2 = x21 at hF
    generalize uF 3 = x22 at hF
    generalize uF 4 = x23 at hF
    generalize uF 5 = x24 at hF
    generalize uF 6 = x25 at hF
    generalize uF 7 = x26 at hF
    generalize uF 8 = x27 at hF
    generalize uF 9 = x28 at hF
    generalize uF 10 = x29 at hF
    generalize uF 11 = x30 at hF
    generalize uF 12 = x31 at hF
    generalize uF 13 = x32 at h32 hF
    generalize uF 14 = x6 at h6 hF
    obtain ⟨A32, c32, rfl, s32⟩ := h32
    obtain ⟨g6, rfl, z6, b6⟩ := h6
    subst hF
    simp only [List.drop_succ_cons, List.drop_zero]
    refine wpListIn_of free_wide (fun ⟨_, _, h⟩ => h) rfl ?_
    refine wpList_store_whole rfl 24 (.tmp 6) (.tmp 32) rfl g6 rfl [.int .i64 (d0 bs), .int .i64 (d1 bs), .int .i64 (d2 bs), .slice A32 (n - 8) c32] rfl aggFr rfl _ _ b6 rfl (by simp [Value.oneCell']) ?_
    intro w4 hb4 hg4 hs4
    have hs4' : OwB w4 v.heap.size A32 (n - 8) c32 (bs.drop 8) := Row.keepRow s32 hg4 (by
      rcases Row.wrote_lt s32 with h1 | ⟨g', cur', h1, _, _, hb'⟩
      · exact .inl h1
      · right
        rw [h1]
        intro e
        cases e
        have := hb'.symm.trans b6
        simp at this)
    exact wpList_nil ⟨g6, A32, c32, ⟨_, _, _, _, _, _, _, _, _, _, _, _, _, _, _, _, _, _, _, _, _, _, _, _, rfl⟩, hb4, hs4', z6, hCW5.grown hg4 hCW5.size (fun k hk => by cases hk; exact z6)⟩
  rintro e a' w4 h
  cases e with
  | normal =>
    obtain ⟨g6, A6, c6, ⟨y9, y10, y11, y12, y13, y14, y15, y16, y17, y18, y19, y20, y21, y22, y23, y24, y25, y26, y27, y28, y29, y30, y31, y32, rfl⟩, hb6, ho6, hg6, hw4⟩ := h
    have hw4w := hwv.trans (hw4.mono hz)
    have hz4 := hw4.size
    have b24 := b2.below hw4 b2.lt
    have hst := (HB.out.below (hw4.mono hBv)).str
    obtain ⟨fb, hfb⟩ : ∃ fb, fb = frB (d0 bs) (d1 bs) (d2 bs) (bs.drop 8) := ⟨_, rfl⟩
    have hne : (fb == bs) = false := by rw [hfb]; simpa using hdiff
    have HFB := Lib.hid hfb
    clear hst hfb
    go_wp2_with (first
      | ((with_reducible show wpList _ _ _ (Oper.mk (some 34) (Op.load 24 _) _ _ _ _ :: _) _ _); refine wpList_load_whole rfl 24 (.tmp 6) rfl g6 rfl #[.int .i64 (d0 bs), .int .i64 (d1 bs), .int .i64 (d2 bs), .slice A6 (n - 8) c6] aggFr rfl _ hb6 ?_)
      | (go_at_call 16; refine (refencode_ok (d0 bs) (d1 bs) (d2 bs) (OwB.sl ho6) (Nat.le_refl _) hok).mono ?_; rintro e w5 ⟨A7, c7, rfl, ho7, hb5⟩; have hw5 := hw4w.trans (hb5.mono hw4w.size); have hz5 := hw5.size; have b25 := b24.below hb5 b24.lt; have b65 := hb6.below hb5 hb6.lt; have e7 := ho7.sl.str; rw [show 8 + (n - 8) = n by omega] at e7; have e8 := ((HB.out.below (hw4.mono hBv)).below (hb5.mono (Nat.le_trans hBv hz4))).str; rw [← HFB.out] at e7)
      | ((with_reducible show wpList _ _ _ (Oper.mk none (Op.store 24 _ _) _ _ _ _ :: _) _ _); refine wpList_store_whole rfl 24 (.tmp 2) (.tmp 47) rfl w.heap.size rfl [.int .i64 0, .int .i64 0, .int .i64 0, .slice none 0 0] rfl aggFr rfl _ _ b25 rfl (by simp [Value.oneCell']) ?_; intro wf bf gf sf))
    refine bodyPost_ret (results_cell_tmp rfl _ w.heap.size _ #[.int .i64 0, .int .i64 0, .int .i64 0, .slice none 0 0] aggFr rfl rfl bf) rfl ⟨rfl, ?_⟩
    exact hw5.grown gf hz5 (fun k hk => by cases hk; exact Nat.le_refl _)
  | _ => exact h.elim

set_option maxHeartbeats 4000000 in
theorem refdecode_ok {w : World} {B : Nat} {A : Option Addr} {n c : Nat} {bs : List UInt8} (hb : SlB w B A n c bs) (hB : B ≤ w.heap.size) (hn : n ≤ 1048576) (h8 : 8 ≤ n) (hok : okF (d0 bs) (d1 bs) (d2 bs) (n - 8)) (hsame : frB (d0 bs) (d1 bs) (d2 bs) (bs.drop 8) = bs) :
    Calls Try.prog 24 #[.slice A n c] w fun e w' => ∃ A' c', e = .returned (.tuple #[.agg #[.int .i64 (d0 bs), .int .i64 (d1 bs), .int .i64 (d2 bs), .slice A' (n - 8) c'], .bool true]) ∧ OwB w' w.heap.size A' (n - 8) c' (bs.drop 8) ∧ Below w.heap.size w w' := by
  have hlen := hb.len
  have hcap := hb.le
  have hcm : c ≤ 9223372036854775807 := hb.cap
  obtain ⟨v, hv⟩ : ∃ v, v = w.alloc (.cells #[.int .i64 0, .int .i64 0, .int .i64 0, .slice none 0 0] 24) := ⟨_, rfl⟩
  have b2 : Blk v w.heap.size 24 #[.int .i64 0, .int .i64 0, .int .i64 0, .slice none 0 0] := by rw [hv]; exact Blk.new _ _ _
  have hwv : Below w.heap.size w v := by rw [hv]; exact below_alloc _ _
  have hz := hwv.size
  have hbv := hb.below (hwv.mono hB)
  have hBv := Nat.le_trans hB hz
  obtain ⟨AT1, hAT1, hsl1⟩ := hbv.tailRun (lo := 1) (by omega)
  obtain ⟨AT8, hAT8, hsl8⟩ := hbv.tailRun (lo := 8) (by omega)
  rw [show ((1 : Nat) : Int) = 1 from rfl] at hsl1
  rw [show ((8 : Nat) : Int) = 8 from rfl] at hsl8
  obtain ⟨bb, off, eA, hbb, hj⟩ := hbv.at_ (by omega)
  obtain ⟨x, hx⟩ : ∃ x, bs[0]? = some x := ⟨bs[0]'(by omega), List.getElem?_eq_getElem _⟩
  obtain ⟨y, hy⟩ : ∃ y, bs[5]? = some y := ⟨bs[5]'(by omega), List.getElem?_eq_getElem _⟩
  have e0 : d0 bs = (x.toNat : Int) := bigN_one (i := 0) hx
  have e2 : d2 bs = (y.toNat : Int) := bigN_one (i := 5) hy
  have c0 : v.cell? ⟨bb, off, none⟩ = some (.int .u8 (d0 bs)) := by rw [e0]; exact hj 0 x hx
  have c5 : v.cell? ⟨bb, off + 5, none⟩ = some (.int .u8 (d2 bs)) := by rw [e2]; exact hj 5 y hy
  obtain ⟨p0, p1⟩ := d0_range (bs := bs) (by omega)
  obtain ⟨p4, p5⟩ := d2_range (bs := bs) (by omega)
  have hi8 : (8 : Int) ≤ (n : Int) := by omega
  have hi5 : (5 : Int) < (n : Int) := by omega
  have hi0 : (0 : Int) < (n : Int) := by omega
  have hn5 : (5 : Int) < (c : Int) := by omega
  subst eA
  have HV := Lib.hid hv
  have HB := Lib.hid hbv
  have H8 := Lib.hid hAT8
  have HC0 := Lib.hid c0
  have HC5 := Lib.hid c5
  have hbbv : bb < v.heap.size := Nat.lt_of_lt_of_le hbb hBv
  clear hv hb hbv hj hx hy e0 e2 hAT8 c0 c5
  go_enter Try.func24, Try.ntmps24
  go_wp2_with (first
    | ((with_reducible show wpList _ _ _ (Oper.mk (some 2) (Op.alloc _) _ _ _ _ :: _) _ _); refine wpList_alloc_agg rfl 24 rfl #[.int .i64 0, .int .i64 0, .int .i64 0, .slice none 0 0] zeroFr ?_; rw [← HV.out])
    | (go_at_call 51; refine (ref_take_ok hAT1 (k := 4) (by simp [sz]) (by omega)).mono ?_; rintro e w' ⟨rfl, rfl⟩; rw [show i64v (bigN ((bs.drop 1).take 4)) = d1 bs from rfl]))
  refine Code.wp_mono (Q := Exit.then (fun a' w' => ∃ g6 A6 c6, (∃ y9 y10 y11 y12 y13 y14 y15 y16 y17 y18 y19 y20 y21 y22 y23 y24 y25 y26 y27 y28 y29 y30 y31 y32 : Value, a' = { tmps := #[Value.slice (some ⟨bb, off, none⟩) n c, undef, Value.pointer (some ⟨w.heap.size, 0, none⟩), Value.bool false, Value.int .i64 (d1 bs), Value.bool true, Value.pointer (some ⟨g6, 0, none⟩), undef, undef, y9, y10, y11, y12, y13, y14, y15, y16, y17, y18, y19, y20, y21, y22, y23, y24, y25, y26, y27, y28, y29, y30, y31, y32, undef, undef, undef, undef, undef, undef, undef, undef, undef, undef, undef, undef, undef, undef, undef, undef], defers := [] }) ∧ Blk w' g6 24 #[.int .i64 (d0 bs), .int .i64 (d1 bs), .int .i64 (d2 bs), .slice A6 (n - 8) c6] ∧ OwB w' v.heap.size A6 (n - 8) c6 (bs.drop 8) ∧ v.heap.size ≤ g6 ∧ Below v.heap.size v w') (fun _ _ _ => False)) ?_ ?_
  rotate_left
  · refine (wpIn_wide (n := 4)).1 ?_
    refine wpIn_region_rel free_wide rfl 15 (fun W W' => Below W.heap.size W W') (fun W => Below v.heap.size v W)
      [Det (.slice (some ⟨bb, off, none⟩) n c), Det (.pointer (some ⟨bb, off, none⟩)), Det (.int .u8 (d0 bs)), Det (.int .i64 (d0 bs)), Det (.int .i64 (d1 bs)), Det (.slice (some ⟨bb, off, none⟩) n c), Det (.pointer (some ⟨bb, off + 5, none⟩)), Det (.int .u8 (d2 bs)), Det (.int .i64 (d2 bs)), RelE, Det (.slice (some ⟨bb, off, none⟩) n c), Det (.slice AT8 (n - 8) (c - 8)), RelO v.heap.size (n - 8) (bs.drop 8), RelF v.heap.size (d0 bs) (d1 bs) (d2 bs) (n - 8) (bs.drop 8), RelZ v.heap.size 24 #[.int .i64 0, .int .i64 0, .int .i64 0, .slice none 0 0], Any]
      [[], [(0, some 19)], [(1, some 20)], [(2, some 21)], [], [], [(5, some 24)], [(6, some 25)], [(7, some 26)], [], [], [(10, some 29)], [(9, some 28), (11, some 30)], [(3, some 22), (4, some 23), (8, some 27), (12, some 31)], [], [(14, some 6), (13, some 32)]]
      [[], [0], [0, 1], [0, 1, 2], [], [], [5], [5, 6], [5, 6, 7], [], [], [10], [9, 10, 11], [0, 1, 2, 3, 4, 5, 6, 7, 8, 9, 10, 11, 12], [], [0, 1, 2, 3, 4, 5, 6, 7, 8, 9, 10, 11, 12, 13, 14]]
      [(0, some 19), (1, some 20), (2, some 21), (3, some 22), (4, some 23), (5, some 24), (6, some 25), (7, some 26), (8, some 27), (9, some 28), (10, some 29), (11, some 30), (12, some 31), (13, some 32), (14, some 6), (15, none)] (by kernel_rfl) (by kernel_rfl) (by kernel_rfl) (fun W W' h1 h2 => h1.trans (h2.mono h1.size)) ((Below.refl _ _).drew) ?_ ?_ ?_
    · exact (AllMono.cons Det.later (AllMono.cons Det.later (AllMono.cons Det.later (AllMono.cons Det.later (AllMono.cons Det.later (AllMono.cons Det.later (AllMono.cons Det.later (AllMono.cons Det.later (AllMono.cons Det.later (AllMono.cons RelE.later (AllMono.cons Det.later (AllMono.cons Det.later (AllMono.cons RelO.later (AllMono.cons RelF.later (AllMono.cons RelZ.later (AllMono.cons Any.later AllMono.nil))))))))))))))))
    · refine AllOb.cons ?_ (AllOb.cons ?_ (AllOb.cons ?_ (AllOb.cons ?_ (AllOb.cons ?_ (AllOb.cons ?_ (AllOb.cons ?_ (AllOb.cons ?_ (AllOb.cons ?_ (AllOb.cons ?_ (AllOb.cons ?_ (AllOb.cons ?_ (AllOb.cons ?_ (AllOb.cons ?_ (AllOb.cons ?_ (AllOb.nil)))))))))))))))
      · intro uF W hC' hU aF hF
        have hC : Below v.heap.size v W := hC'
        clear hC'
        simp only [puts] at hF
        subst hF
        go_wp2_with (fail)
        exact ⟨rfl, rfl, (Below.refl _ _), rfl⟩
      · intro uF W hC' hU aF hF
        have hC : Below v.heap.size v W := hC'
        clear hC'
        have h19 : (Det (.slice (some ⟨bb, off, none⟩) n c)) (uF 0) W := hU.1
        clear hU
        simp only [puts, Act.put, List.setIfInBounds_toArray, List.set_cons_zero, List.set_cons_succ] at hF
        generalize uF 0 = x19 at h19 hF
        obtain rfl : x19 = (.slice (some ⟨bb, off, none⟩) n c) := h19
        subst hF
        go_wp2_with (fail)
        exact ⟨rfl, rfl, (Below.refl _ _), rfl⟩
      · intro uF W hC' hU aF hF
        have hC : Below v.heap.size v W := hC'
        clear hC'
        have h20 : (Det (.pointer (some ⟨bb, off, none⟩))) (uF 1) W := hU.1
        clear hU
        simp only [puts, Act.put, List.setIfInBounds_toArray, List.set_cons_zero, List.set_cons_succ] at hF
        generalize uF 1 = x20 at h20 hF
        obtain rfl : x20 = (.pointer (some ⟨bb, off, none⟩)) := h20
        subst hF
        have k0 := (hC.cell (show (⟨bb, off, none⟩ : Addr).block < v.heap.size from hbbv)).trans HC0.out
        go_wp2_with (fail)
        exact ⟨rfl, rfl, (Below.refl _ _), rfl⟩
      · intro uF W hC' hU aF hF
        have hC : Below v.heap.size v W := hC'
        clear hC'
        have h21 : (Det (.int .u8 (d0 bs))) (uF 2) W := hU.1
        clear hU
        simp only [puts, Act.put, List.setIfInBounds_toArray, List.set_cons_zero, List.set_cons_succ] at hF
        generalize uF 2 = x21 at h21 hF
        obtain rfl : x21 = (.int .u8 (d0 bs)) := h21
        subst hF
        go_wp2_with (fail)
        exact ⟨rfl, rfl, (Below.refl _ _), rfl⟩
      · intro uF W hC' hU aF hF
        have hC : Below v.heap.size v W := hC'
        clear hC'
        simp only [puts] at hF
        subst hF
        go_wp2_with (fail)
        exact ⟨rfl, rfl, (Below.refl _ _), rfl⟩
      · intro uF W hC' hU aF hF
        have hC : Below v.heap.size v W := hC'
        clear hC'
        simp only [puts] at hF
        subst hF
        go_wp2_with (fail)
        exact ⟨rfl, rfl, (Below.refl _ _), rfl⟩
      · intro uF W hC' hU aF hF
        have hC : Below v.heap.size v W := hC'
        clear hC'
        have h24 : (Det (.slice (some ⟨bb, off, none⟩) n c)) (uF 5) W := hU.1
        clear hU
        simp only [puts, Act.put, List.setIfInBounds_toArray, List.set_cons_zero, List.set_cons_succ] at hF
        generalize uF 5 = x24 at h24 hF
        obtain rfl : x24 = (.slice (some ⟨bb, off, none⟩) n c) := h24
        subst hF
        go_wp2_with (fail)
        exact ⟨rfl, rfl, (Below.refl _ _), rfl⟩
      · intro uF W hC' hU aF hF
        have hC : Below v.heap.size v W := hC'
        clear hC'
        have h25 : (Det (.pointer (some ⟨bb, off + 5, none⟩))) (uF 6) W := hU.1
        clear hU
        simp only [puts, Act.put, List.setIfInBounds_toArray, List.set_cons_zero, List.set_cons_succ] at hF
        generalize uF 6 = x25 at h25 hF
        obtain rfl : x25 = (.pointer (some ⟨bb, off + 5, none⟩)) := h25
        subst hF
        have k5 := (hC.cell (show (⟨bb, off + 5, none⟩ : Addr).block < v.heap.size from hbbv)).trans HC5.out
        go_wp2_with (fail)
        exact ⟨rfl, rfl, (Below.refl _ _), rfl⟩
      · intro uF W hC' hU aF hF
        have hC : Below v.heap.size v W := hC'
        clear hC'
        have h26 : (Det (.int .u8 (d2 bs))) (uF 7) W := hU.1
        clear hU
        simp only [puts, Act.put, List.setIfInBounds_toArray, List.set_cons_zero, List.set_cons_succ] at hF
        generalize uF 7 = x26 at h26 hF
        obtain rfl : x26 = (.int .u8 (d2 bs)) := h26
        subst hF
        go_wp2_with (fail)
        exact ⟨rfl, rfl, (Below.refl _ _), rfl⟩
      · intro uF W hC' hU aF hF
        have hC : Below v.heap.size v W := hC'
        clear hC'
        simp only [puts] at hF
        subst hF
        go_wp2_with (fail)
        exact ⟨rfl, rfl, (below_alloc _ _), ⟨_, rfl⟩⟩
      · intro uF W hC' hU aF hF
        have hC : Below v.heap.size v W := hC'
        clear hC'
        simp only [puts] at hF
        subst hF
        go_wp2_with (fail)
        exact ⟨rfl, rfl, (Below.refl _ _), rfl⟩
      · intro uF W hC' hU aF hF
        have hC : Below v.heap.size v W := hC'
        clear hC'
        have h29 : (Det (.slice (some ⟨bb, off, none⟩) n c)) (uF 10) W := hU.1
        clear hU
        simp only [puts, Act.put, List.setIfInBounds_toArray, List.set_cons_zero, List.set_cons_succ] at hF
        generalize uF 10 = x29 at h29 hF
        obtain rfl : x29 = (.slice (some ⟨bb, off, none⟩) n c) := h29
        subst hF
        go_wp2_with (fail)
        exact ⟨rfl, rfl, (Below.refl _ _), rfl⟩
      · intro uF W hC' hU aF hF
        have hC : Below v.heap.size v W := hC'
        clear hC'
        have h28 : RelE (uF 9) W := hU.1
        have h30 : (Det (.slice AT8 (n - 8) (c - 8))) (uF 11) W := hU.2.1
        clear hU
        simp only [puts, Act.put, List.setIfInBounds_toArray, List.set_cons_zero, List.set_cons_succ] at hF
        generalize uF 9 = x28 at h28 hF
        generalize uF 11 = x30 at h30 hF
        obtain ⟨A28, rfl⟩ := h28
        obtain rfl : x30 = (.slice AT8 (n - 8) (c - 8)) := h30
        subst hF
        go_wp2_with ((at_builtin; refine wpList_append8 rfl (.tmp 28) (.tmp 30) rfl rfl (OwB.nil W W.heap.size A28) rfl (H8.out.below (hC.mono hBv)) (by omega) (Nat.le_refl _) (n - 8) (by omega) ?_; intro A9 c9 w9 h9 q9))
        exact ⟨rfl, rfl, (q9.below (OwB.nil W W.heap.size A28) (Below.refl _ _) (Nat.le_refl _) (Nat.le_refl _)), ⟨_, _, rfl, Row.base_le h9 hC.size⟩⟩
      · intro uF W hC' hU aF hF
        have hC : Below v.heap.size v W := hC'
        clear hC'
        have h22 : (Det (.int .i64 (d0 bs))) (uF 3) W := hU.1
        have h23 : (Det (.int .i64 (d1 bs))) (uF 4) W := hU.2.1
        have h27 : (Det (.int .i64 (d2 bs))) (uF 8) W := hU.2.2.1
        have h31 : (RelO v.heap.size (n - 8) (bs.drop 8)) (uF 12) W := hU.2.2.2.1
        clear hU
        simp only [puts, Act.put, List.setIfInBounds_toArray, List.set_cons_zero, List.set_cons_succ] at hF
        generalize uF 3 = x22 at h22 hF
        generalize uF 4 = x23 at h23 hF
        generalize uF 8 = x27 at h27 hF
        generalize uF 12 = x31 at h31 hF
        obtain rfl : x22 = (.int .i64 (d0 bs)) := h22
        obtain rfl : x23 = (.int .i64 (d1 bs)) := h23
        obtain rfl : x27 = (.int .i64 (d2 bs)) := h27
        obtain ⟨A31, c31, rfl, s31⟩ := h31
        subst hF
        go_wp2_with (fail)
        exact ⟨rfl, rfl, (Below.refl _ _), ⟨_, _, rfl, s31⟩⟩
      · intro uF W hC' hU aF hF
        have hC : Below v.heap.size v W := hC'
        clear hC'
        simp only [puts] at hF
        subst hF
        go_wp2_with (((with_reducible show wpList _ _ _ (Oper.mk (some 6) (Op.alloc _) _ _ _ _ :: _) _ _); refine wpList_alloc_agg (by rfl) 24 rfl #[.int .i64 0, .int .i64 0, .int .i64 0, .slice none 0 0] zeroFr ?_))
        exact ⟨rfl, rfl, (below_alloc _ _), ⟨_, rfl, hC.size, Blk.new _ _ _⟩⟩
    intro uF W5 hC' hU aF hF
    have hCW5 : Below v.heap.size v W5 := hC'
    clear hC'
    have h32 : (RelF v.heap.size (d0 bs) (d1 bs) (d2 bs) (n - 8) (bs.drop 8)) (uF 13) W5 := hU.2.2.2.2.2.2.2.2.2.2.2.2.2.1
    have h6 : (RelZ v.heap.size 24 #[.int .i64 0, .int .i64 0, .int .i64 0, .slice none 0 0]) (uF 14) W5 := hU.2.2.2.2.2.2.2.2.2.2.2.2.2.2.1
    clear hU
    simp only [List.take_succ_cons, List.take_zero, puts, Act.put, List.setIfInBounds_toArray, List.set_cons_zero, List.set_cons_succ] at hF
    generalize uF 0 = x19 at hF
    generalize uF 1 = x20 at hF
    generalize uF 2 = x21 at hF
    generalize uF 3 = x22 at hF
    generalize uF 4 = x23 at hF
    generalize uF 5 = x24 at hF
    generalize uF 6 = x25 at hF
    generalize uF 7 = x26 at hF
    generalize uF 8 = x27 at hF
    generalize uF 9 = x28 at hF
    generalize uF 10 = x29 at hF
    generalize uF 11 = x30 at hF
    generalize uF 12 = x31 at hF
    generalize uF 13 = x32 at h32 hF
    generalize uF 14 = x6 at h6 hF
    obtain ⟨A32, c32, rfl, s32⟩ := h32
    obtain ⟨g6, rfl, z6, b6⟩ := h6
    subst hF
    simp only [List.drop_succ_cons, List.drop_zero]
    refine wpListIn_of free_wide (fun ⟨_, _, h⟩ => h) rfl ?_
    refine wpList_store_whole rfl 24 (.tmp 6) (.tmp 32) rfl g6 rfl [.int .i64 (d0 bs), .int .i64 (d1 bs), .int .i64 (d2 bs), .slice A32 (n - 8) c32] rfl aggFr rfl _ _ b6 rfl (by simp [Value.oneCell']) ?_
    intro w4 hb4 hg4 hs4
    have hs4' : OwB w4 v.heap.size A32 (n - 8) c32 (bs.drop 8) := Row.keepRow s32 hg4 (by
      rcases Row.wrote_lt s32 with h1 | ⟨g', cur', h1, _, _, hb'⟩
      · exact .inl h1
      · right
        rw [h1]
        intro e
        cases e
        have := hb'.symm.trans b6
        simp at this)
    exact wpList_nil ⟨g6, A32, c32, ⟨_, _, _, _, _, _, _, _, _, _, _, _, _, _, _, _, _, _, _, _, _, _, _, _, rfl⟩, hb4, hs4', z6, hCW5.grown hg4 hCW5.size (fun k hk => by cases hk; exact z6)⟩
  rintro e a' w4 h
  cases e with
  | normal =>
    obtain ⟨g6, A6, c6, ⟨y9, y10, y11, y12, y13, y14, y15, y16, y17, y18, y19, y20, y21, y22, y23, y24, y25, y26, y27, y28, y29, y30, y31, y32, rfl⟩, hb6, ho6, hg6, hw4⟩ := h
    have hw4w := hwv.trans (hw4.mono hz)
    have hz4 := hw4.size
    have b24 := b2.below hw4 b2.lt
    have hst := (HB.out.below (hw4.mono hBv)).str
    have heq : (⟨(frB (d0 bs) (d1 bs) (d2 bs) (bs.drop 8)).toArray⟩ : ByteArray) = ⟨bs.toArray⟩ := by rw [hsame]
    obtain ⟨S2, hS2⟩ : ∃ S : ByteArray, S = ⟨bs.toArray⟩ := ⟨_, rfl⟩
    have HS2 := Lib.hid hS2
    have HEQ := Lib.hid heq
    clear hst hS2 heq
    go_wp2_with (first
      | ((with_reducible show wpList _ _ _ (Oper.mk (some 34) (Op.load 24 _) _ _ _ _ :: _) _ _); refine wpList_load_whole rfl 24 (.tmp 6) rfl g6 rfl #[.int .i64 (d0 bs), .int .i64 (d1 bs), .int .i64 (d2 bs), .slice A6 (n - 8) c6] aggFr rfl _ hb6 ?_)
      | (go_at_call 16; refine (refencode_ok (d0 bs) (d1 bs) (d2 bs) (OwB.sl ho6) (Nat.le_refl _) hok).mono ?_; rintro e w5 ⟨A7, c7, rfl, ho7, hb5⟩; have hw5 := hw4w.trans (hb5.mono hw4w.size); have hz5 := hw5.size; have b25 := b24.below hb5 b24.lt; have b65 := hb6.below hb5 hb6.lt; have e7 := ho7.sl.str; rw [show 8 + (n - 8) = n by omega] at e7; have e8 := ((HB.out.below (hw4.mono hBv)).below (hb5.mono (Nat.le_trans hBv hz4))).str; rw [HEQ.out, ← HS2.out] at e7; rw [← HS2.out] at e8)
      | ((with_reducible show wpList _ _ _ (Oper.mk (some 48) (Op.load 24 _) _ _ _ _ :: _) _ _); refine wpList_load_whole rfl 24 (.tmp 6) rfl g6 rfl #[.int .i64 (d0 bs), .int .i64 (d1 bs), .int .i64 (d2 bs), .slice A6 (n - 8) c6] aggFr rfl _ b65 ?_)
      | ((with_reducible show wpList _ _ _ (Oper.mk none (Op.store 24 _ _) _ _ _ _ :: _) _ _); refine wpList_store_whole rfl 24 (.tmp 2) (.tmp 48) rfl w.heap.size rfl [.int .i64 (d0 bs), .int .i64 (d1 bs), .int .i64 (d2 bs), .slice A6 (n - 8) c6] rfl aggFr rfl _ _ b25 rfl (by simp [Value.oneCell']) ?_; intro wf bf gf sf))
    have hcell := own_grown (g := w.heap.size) (ho6.below hb5) b2.lt gf
    refine bodyPost_ret (results_cell_tmp rfl _ w.heap.size _ #[.int .i64 (d0 bs), .int .i64 (d1 bs), .int .i64 (d2 bs), .slice A6 (n - 8) c6] aggFr rfl rfl bf) rfl ⟨A6, c6, rfl, Row.base_le hcell hz, ?_⟩
    exact hw5.grown gf hz5 (fun k hk => by cases hk; exact Nat.le_refl _)
  | _ => exact h.elim

end Go.Proofs.Ytjjpifppdjpcnaa

