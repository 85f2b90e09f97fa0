/-
  CdbDecodes: which command any bytes are (printed by wip/gen_cdecs.py).
-/
import Derived.Test.YtjjpifppdjpcnaaCdbDecY
import Derived.Test.YtjjpifppdjpcnaaCdbSame
import Derived.Test.YtjjpifppdjpcnaaCdbLaw
import Derived.Test.YtjjpifppdjpcnaaErr
namespace Go.Proofs.Ytjjpifppdjpcnaa.cdbDecodes
open Go.RowKit
set_option linter.unusedVariables false
set_option linter.unusedSimpArgs false
set_option maxRecDepth 100000

theorem ex_ok : cdecOk [1, 1, 0, 2, 0, 3] := by
  refine ok_not (by decide) (by decide) ?_
  rw [show nm [1, 1, 0, 2, 0, 3] 0 1 = 1 from by decide, show nm [1, 1, 0, 2, 0, 3] 1 1 = 1 from by decide, show nm [1, 1, 0, 2, 0, 3] 2 2 = 2 from by decide, show nm [1, 1, 0, 2, 0, 3] 4 2 = 3 from by decide]
  unfold goodC
  decide
theorem cdec_ex {w : World} {B : Nat} {A : Option Addr} {n c : Nat} (hb : SlB w B A n c [1, 1, 0, 2, 0, 3]) (hB : B ≤ w.heap.size) :
    Calls Try.prog 35 #[.slice A n c] w fun e w' => ∃ A' m' c', e = .returned (.tuple #[.agg #[.int .i64 1, .int .i64 1, .int .i64 2, .int .i64 3, .slice A' m' c', .int .i64 0, .int .i64 0, .int .i64 0, .int .i64 0, .int .i64 0, .bool false], .nilIface]) ∧ OwB w' w.heap.size A' m' c' [] ∧ Below w.heap.size w w' := by
  have hl : 6 = n := hb.len
  refine (cdec_yes hb hB (by omega) ex_ok).mono ?_
  rintro e w' ⟨A', m', c', rfl, ho, hw⟩
  rw [show nm [1, 1, 0, 2, 0, 3] 0 1 = 1 from by decide, show nm [1, 1, 0, 2, 0, 3] 1 1 = 1 from by decide, show nm [1, 1, 0, 2, 0, 3] 2 2 = 2 from by decide, show nm [1, 1, 0, 2, 0, 3] 4 2 = 3 from by decide]
  rw [show rOp [1, 1, 0, 2, 0, 3] = 0 from by decide, show rKey [1, 1, 0, 2, 0, 3] = 0 from by decide, show rNew [1, 1, 0, 2, 0, 3] = 0 from by decide, show rTy [1, 1, 0, 2, 0, 3] = 0 from by decide, show rSt [1, 1, 0, 2, 0, 3] = false from by decide]
  rw [show datc [1, 1, 0, 2, 0, 3] = [] from by decide] at ho
  exact ⟨A', m', c', rfl, ho, hw⟩
theorem refsame_eq {w : World} {B B' : Nat} {A A' : Option Addr} {m c m' c' : Nat} {ds : List UInt8} (kind unit block many op who key new ty : Int) (st : Bool) (h : SlB w B A m c ds) (h' : SlB w B' A' m' c' ds) (hB : B ≤ w.heap.size) (hB' : B' ≤ w.heap.size) :
    Calls Try.prog 36 #[.agg #[.int .i64 kind, .int .i64 unit, .int .i64 block, .int .i64 many, .slice A m c, .int .i64 op, .int .i64 who, .int .i64 key, .int .i64 new, .int .i64 ty, .bool st], .agg #[.int .i64 kind, .int .i64 unit, .int .i64 block, .int .i64 many, .slice A' m' c', .int .i64 op, .int .i64 who, .int .i64 key, .int .i64 new, .int .i64 ty, .bool st]] w fun e w' => e = .returned (.bool true) ∧ Below w.heap.size w w' := by
  refine (crefsame_c kind unit block many op who key new ty st kind unit block many op who key new ty st h h' hB hB').mono ?_
  rintro e w' ⟨rfl, hw⟩
  exact ⟨by simp, hw⟩

set_option maxHeartbeats 4000000 in
theorem walk_big (A : Option Addr) (n c : Nat) (bs : List UInt8) (w : World) (w0 : SlB w w.heap.size A n c bs) (y0 : c ≤ 140737488351232) (hbi : (16384 : Int) < (n : Int)) :
    Calls Try.prog 10 #[.slice A n c] w fun e w' => e = .returned (.bool true) ∧ Below w.heap.size w w' := by
  have hmx := w0.mx
  have hmc := w0.le
  have HD := Lib.hid w0
  clear w0
  go_enter Try.func10, Try.ntmps10
  obtain ⟨vt, hvt⟩ : ∃ vt, vt = w.alloc (.cells #[.int .u8 1, .int .u8 1, .int .u8 0, .int .u8 2, .int .u8 0, .int .u8 3] 5) := ⟨_, rfl⟩
  have hbt : Below w.heap.size w vt := by rw [hvt]; exact below_alloc _ _
  have HST := Lib.hid (show SlB vt vt.heap.size (some ⟨w.heap.size, 0, none⟩) 6 6 [1, 1, 0, 2, 0, 3] by rw [hvt]; exact (OwB.lit w w.heap.size #[.int .u8 1, .int .u8 1, .int .u8 0, .int .u8 2, .int .u8 0, .int .u8 3] [1, 1, 0, 2, 0, 3] 6 (Nat.le_refl _) rfl (by decide) rfl).sl)
  have HT := Lib.hid hvt
  clear hvt
  go_wp2_with (first
    | (go_at_call 35; rw [← HT.out]; refine (cdec_ex HST.out (Nat.le_refl _)).mono ?_; rintro e w1 ⟨A1, m1, c1, rfl, ho1, hb1⟩; have hw1 := hbt.trans (hb1.mono hbt.size); have hz1 := hw1.size; have bn1 := Blk.new w1 56 #[.int .i64 0, .int .i64 0, .int .i64 0, .int .i64 0, .slice none 0 0, .int .i64 0, .int .i64 0, .int .i64 0, .int .i64 0, .int .i64 0, .bool false])
    | ((with_reducible show wpList _ _ _ (Oper.mk (some 3) (Op.alloc 56) _ _ _ _ :: _) _ _); refine wpList_alloc_agg rfl 56 rfl #[.int .i64 0, .int .i64 0, .int .i64 0, .int .i64 0, .slice none 0 0, .int .i64 0, .int .i64 0, .int .i64 0, .int .i64 0, .int .i64 0, .bool false] zeroCm ?_)
    | ((with_reducible show wpList _ _ _ (Oper.mk none (Op.store 56 (.tmp 3) _) _ _ _ _ :: _) _ _); refine wpList_store_whole rfl 56 (.tmp 3) (.tmp 13) rfl (w1.heap.size) rfl [.int .i64 1, .int .i64 1, .int .i64 2, .int .i64 3, .slice A1 m1 c1, .int .i64 0, .int .i64 0, .int .i64 0, .int .i64 0, .int .i64 0, .bool false] rfl aggCm rfl _ _ bn1 rfl (by simp [Value.oneCell']) ?_; intro v2 b2 g2 s2; have h12 : Below w1.heap.size w1 v2 := (below_alloc _ _).grown g2 (by simp) (fun k hk => by cases hk; exact Nat.le_refl _); have hv2 := hw1.trans (h12.mono hz1); have hz2 := hv2.size; have o12 := ho1.below h12; clear g2 s2))
  refine wp_region_rel (fun W W' => Below W.heap.size W W') (fun W => Below v2.heap.size v2 W)
    [Det (.nilIface), Det (.bool false), Det (.bool false), Det (.agg #[.int .i64 1, .int .i64 1, .int .i64 2, .int .i64 3, .slice A1 m1 c1, .int .i64 0, .int .i64 0, .int .i64 0, .int .i64 0, .int .i64 0, .bool false]), Det (.agg #[.int .i64 1, .int .i64 1, .int .i64 2, .int .i64 3, .slice none 0 0, .int .i64 0, .int .i64 0, .int .i64 0, .int .i64 0, .int .i64 0, .bool false]), Det (.bool true), Det (.bool false), Det (.bool false)]
    [[], [(0, some 15)], [(1, some 16)], [(2, some 17)], [(2, some 17)], [(3, some 18), (4, some 19), (2, some 17)], [(5, some 20), (2, some 17)], [(2, some 17), (6, some 21)]]
    [[], [0], [0, 1], [0, 1, 2], [0, 1, 2], [0, 1, 2, 3, 4], [0, 1, 2, 3, 4, 5], [0, 1, 2, 3, 4, 5, 6]]
    [(0, some 15), (1, some 16), (2, some 17), (3, some 18), (4, some 19), (5, some 20), (6, some 21), (7, some 22)] (by kernel_rfl) (by kernel_rfl) (fun W W' h1 h2 => h1.trans (h2.mono h1.size)) ((Below.refl _ _).drew) ?_ ?_ ?_
  · exact (AllMono.cons Det.later (AllMono.cons Det.later (AllMono.cons Det.later (AllMono.cons Det.later (AllMono.cons Det.later (AllMono.cons Det.later (AllMono.cons Det.later (AllMono.cons Det.later AllMono.nil))))))))
  · refine AllOb.cons ?_ (AllOb.cons ?_ (AllOb.cons ?_ (AllOb.cons ?_ (AllOb.cons ?_ (AllOb.cons ?_ (AllOb.cons ?_ (AllOb.cons ?_ (AllOb.nil))))))))
    · intro uF W hC' hU aF hF
      have hC : Below v2.heap.size v2 W := hC'
      clear hC'
      simp only [puts] at hF
      subst hF
      go_wp2_with (fail)
      exact ⟨rfl, rfl, (Below.refl _ _), rfl⟩
    · intro uF W hC' hU aF hF
      have hC : Below v2.heap.size v2 W := hC'
      clear hC'
      have h15 : (Det (.nilIface)) (uF 0) W := hU.1
      clear hU
      simp only [puts, Act.put, List.setIfInBounds_toArray, List.set_cons_zero, List.set_cons_succ] at hF
      generalize uF 0 = x15 at h15 hF
      obtain rfl : x15 = (.nilIface) := h15
      subst hF
      go_wp2_with (fail)
      exact ⟨rfl, rfl, (Below.refl _ _), rfl⟩
    · intro uF W hC' hU aF hF
      have hC : Below v2.heap.size v2 W := hC'
      clear hC'
      have h16 : (Det (.bool false)) (uF 1) W := hU.1
      clear hU
      simp only [puts, Act.put, List.setIfInBounds_toArray, List.set_cons_zero, List.set_cons_succ] at hF
      generalize uF 1 = x16 at h16 hF
      obtain rfl : x16 = (.bool false) := h16
      subst hF
      go_wp2_with (fail)
      exact ⟨rfl, rfl, (Below.refl _ _), rfl⟩
    · intro uF W hC' hU aF hF
      have hC : Below v2.heap.size v2 W := hC'
      clear hC'
      have h17 : (Det (.bool false)) (uF 2) W := hU.1
      clear hU
      simp only [puts, Act.put, List.setIfInBounds_toArray, List.set_cons_zero, List.set_cons_succ] at hF
      generalize uF 2 = x17 at h17 hF
      obtain rfl : x17 = (.bool false) := h17
      subst hF
      go_wp2_with (((with_reducible show wpList _ _ _ (Oper.mk (some 18) (Op.load 56 _) _ _ _ _ :: _) _ _); refine wpList_load_whole (by rfl) 56 (.tmp 3) rfl (w1.heap.size) rfl #[.int .i64 1, .int .i64 1, .int .i64 2, .int .i64 3, .slice A1 m1 c1, .int .i64 0, .int .i64 0, .int .i64 0, .int .i64 0, .int .i64 0, .bool false] aggCm rfl _ (b2.below hC b2.lt) ?_))
      exact ⟨rfl, rfl, (Below.refl _ _), rfl⟩
    · intro uF W hC' hU aF hF
      have hC : Below v2.heap.size v2 W := hC'
      clear hC'
      have h17 : (Det (.bool false)) (uF 2) W := hU.1
      clear hU
      simp only [puts, Act.put, List.setIfInBounds_toArray, List.set_cons_zero, List.set_cons_succ] at hF
      generalize uF 2 = x17 at h17 hF
      obtain rfl : x17 = (.bool false) := h17
      subst hF
      go_wp2_with ((go_at_call 28; refine (example_c _).mono ?_; rintro e W1 ⟨rfl, hb⟩))
      exact ⟨rfl, rfl, hb, rfl⟩
    · intro uF W hC' hU aF hF
      have hC : Below v2.heap.size v2 W := hC'
      clear hC'
      have h18 : (Det (.agg #[.int .i64 1, .int .i64 1, .int .i64 2, .int .i64 3, .slice A1 m1 c1, .int .i64 0, .int .i64 0, .int .i64 0, .int .i64 0, .int .i64 0, .bool false])) (uF 3) W := hU.1
      have h19 : (Det (.agg #[.int .i64 1, .int .i64 1, .int .i64 2, .int .i64 3, .slice none 0 0, .int .i64 0, .int .i64 0, .int .i64 0, .int .i64 0, .int .i64 0, .bool false])) (uF 4) W := hU.2.1
      have h17 : (Det (.bool false)) (uF 2) W := hU.2.2.1
      clear hU
      simp only [puts, Act.put, List.setIfInBounds_toArray, List.set_cons_zero, List.set_cons_succ] at hF
      generalize uF 3 = x18 at h18 hF
      generalize uF 4 = x19 at h19 hF
      generalize uF 2 = x17 at h17 hF
      obtain rfl : x18 = (.agg #[.int .i64 1, .int .i64 1, .int .i64 2, .int .i64 3, .slice A1 m1 c1, .int .i64 0, .int .i64 0, .int .i64 0, .int .i64 0, .int .i64 0, .bool false]) := h18
      obtain rfl : x19 = (.agg #[.int .i64 1, .int .i64 1, .int .i64 2, .int .i64 3, .slice none 0 0, .int .i64 0, .int .i64 0, .int .i64 0, .int .i64 0, .int .i64 0, .bool false]) := h19
      obtain rfl : x17 = (.bool false) := h17
      subst hF
      go_wp2_with ((go_at_call 36; refine (refsame_eq 1 1 2 3 0 0 0 0 0 false (OwB.sl (o12.below hC)) (SlB.nil _ 0 none) (Nat.le_refl _) (Nat.zero_le _)).mono ?_; rintro e W1 ⟨rfl, hb⟩))
      exact ⟨rfl, rfl, hb, rfl⟩
    · intro uF W hC' hU aF hF
      have hC : Below v2.heap.size v2 W := hC'
      clear hC'
      have h20 : (Det (.bool true)) (uF 5) W := hU.1
      have h17 : (Det (.bool false)) (uF 2) W := hU.2.1
      clear hU
      simp only [puts, Act.put, List.setIfInBounds_toArray, List.set_cons_zero, List.set_cons_succ] at hF
      generalize uF 5 = x20 at h20 hF
      generalize uF 2 = x17 at h17 hF
      obtain rfl : x20 = (.bool true) := h20
      obtain rfl : x17 = (.bool false) := h17
      subst hF
      go_wp2_with (fail)
      exact ⟨rfl, rfl, (Below.refl _ _), rfl⟩
    · intro uF W hC' hU aF hF
      have hC : Below v2.heap.size v2 W := hC'
      clear hC'
      have h17 : (Det (.bool false)) (uF 2) W := hU.1
      have h21 : (Det (.bool false)) (uF 6) W := hU.2.1
      clear hU
      simp only [puts, Act.put, List.setIfInBounds_toArray, List.set_cons_zero, List.set_cons_succ] at hF
      generalize uF 2 = x17 at h17 hF
      generalize uF 6 = x21 at h21 hF
      obtain rfl : x17 = (.bool false) := h17
      obtain rfl : x21 = (.bool false) := h21
      subst hF
      go_wp2_with (fail)
      exact ⟨rfl, rfl, (Below.refl _ _), rfl⟩
  intro uF v3 hC' hU aF hF
  have hCv3 : Below v2.heap.size v2 v3 := hC'
  clear hC'
  have h22 : (Det (.bool false)) (uF 7) v3 := hU.2.2.2.2.2.2.2.1
  clear hU
  simp only [puts, Act.put, List.setIfInBounds_toArray, List.set_cons_zero, List.set_cons_succ] at hF
  generalize uF 0 = x15 at hF
  generalize uF 1 = x16 at hF
  generalize uF 2 = x17 at hF
  generalize uF 3 = x18 at hF
  generalize uF 4 = x19 at hF
  generalize uF 5 = x20 at hF
  generalize uF 6 = x21 at hF
  generalize uF 7 = x22 at h22 hF
  obtain rfl : x22 = (.bool false) := h22
  subst hF
  have hv3 := hv2.trans (hCv3.mono hz2)
  have hz3 := hv3.size
  go_wp2_with fail
  go_ret
  exact ⟨rfl, hv3⟩

set_option maxHeartbeats 4000000 in
theorem walk_yes (A : Option Addr) (n c : Nat) (bs : List UInt8) (w : World) (w0 : SlB w w.heap.size A n c bs) (y0 : c ≤ 140737488351232) (hbi : ¬ (16384 : Int) < (n : Int)) (hok : cdecOk bs) :
    Calls Try.prog 10 #[.slice A n c] w fun e w' => e = .returned (.bool true) ∧ Below w.heap.size w w' := by
  have hn6 : 6 ≤ n := by have := w0.len; have := hok.1; omega
  have HOK := Lib.hid hok
  clear hok
  have hmx := w0.mx
  have hmc := w0.le
  have HD := Lib.hid w0
  clear w0
  go_enter Try.func10, Try.ntmps10
  obtain ⟨vt, hvt⟩ : ∃ vt, vt = w.alloc (.cells #[.int .u8 1, .int .u8 1, .int .u8 0, .int .u8 2, .int .u8 0, .int .u8 3] 5) := ⟨_, rfl⟩
  have hbt : Below w.heap.size w vt := by rw [hvt]; exact below_alloc _ _
  have HST := Lib.hid (show SlB vt vt.heap.size (some ⟨w.heap.size, 0, none⟩) 6 6 [1, 1, 0, 2, 0, 3] by rw [hvt]; exact (OwB.lit w w.heap.size #[.int .u8 1, .int .u8 1, .int .u8 0, .int .u8 2, .int .u8 0, .int .u8 3] [1, 1, 0, 2, 0, 3] 6 (Nat.le_refl _) rfl (by decide) rfl).sl)
  have HT := Lib.hid hvt
  clear hvt
  go_wp2_with (first
    | (go_at_call 35; rw [← HT.out]; refine (cdec_ex HST.out (Nat.le_refl _)).mono ?_; rintro e w1 ⟨A1, m1, c1, rfl, ho1, hb1⟩; have hw1 := hbt.trans (hb1.mono hbt.size); have hz1 := hw1.size; have bn1 := Blk.new w1 56 #[.int .i64 0, .int .i64 0, .int .i64 0, .int .i64 0, .slice none 0 0, .int .i64 0, .int .i64 0, .int .i64 0, .int .i64 0, .int .i64 0, .bool false])
    | ((with_reducible show wpList _ _ _ (Oper.mk (some 3) (Op.alloc 56) _ _ _ _ :: _) _ _); refine wpList_alloc_agg rfl 56 rfl #[.int .i64 0, .int .i64 0, .int .i64 0, .int .i64 0, .slice none 0 0, .int .i64 0, .int .i64 0, .int .i64 0, .int .i64 0, .int .i64 0, .bool false] zeroCm ?_)
    | ((with_reducible show wpList _ _ _ (Oper.mk none (Op.store 56 (.tmp 3) _) _ _ _ _ :: _) _ _); refine wpList_store_whole rfl 56 (.tmp 3) (.tmp 13) rfl (w1.heap.size) rfl [.int .i64 1, .int .i64 1, .int .i64 2, .int .i64 3, .slice A1 m1 c1, .int .i64 0, .int .i64 0, .int .i64 0, .int .i64 0, .int .i64 0, .bool false] rfl aggCm rfl _ _ bn1 rfl (by simp [Value.oneCell']) ?_; intro v2 b2 g2 s2; have h12 : Below w1.heap.size w1 v2 := (below_alloc _ _).grown g2 (by simp) (fun k hk => by cases hk; exact Nat.le_refl _); have hv2 := hw1.trans (h12.mono hz1); have hz2 := hv2.size; have o12 := ho1.below h12; clear g2 s2))
  refine wp_region_rel (fun W W' => Below W.heap.size W W') (fun W => Below v2.heap.size v2 W)
    [Det (.nilIface), Det (.bool false), Det (.bool false), Det (.agg #[.int .i64 1, .int .i64 1, .int .i64 2, .int .i64 3, .slice A1 m1 c1, .int .i64 0, .int .i64 0, .int .i64 0, .int .i64 0, .int .i64 0, .bool false]), Det (.agg #[.int .i64 1, .int .i64 1, .int .i64 2, .int .i64 3, .slice none 0 0, .int .i64 0, .int .i64 0, .int .i64 0, .int .i64 0, .int .i64 0, .bool false]), Det (.bool true), Det (.bool false), Det (.bool false)]
    [[], [(0, some 15)], [(1, some 16)], [(2, some 17)], [(2, some 17)], [(3, some 18), (4, some 19), (2, some 17)], [(5, some 20), (2, some 17)], [(2, some 17), (6, some 21)]]
    [[], [0], [0, 1], [0, 1, 2], [0, 1, 2], [0, 1, 2, 3, 4], [0, 1, 2, 3, 4, 5], [0, 1, 2, 3, 4, 5, 6]]
    [(0, some 15), (1, some 16), (2, some 17), (3, some 18), (4, some 19), (5, some 20), (6, some 21), (7, some 22)] (by kernel_rfl) (by kernel_rfl) (fun W W' h1 h2 => h1.trans (h2.mono h1.size)) ((Below.refl _ _).drew) ?_ ?_ ?_
  · exact (AllMono.cons Det.later (AllMono.cons Det.later (AllMono.cons Det.later (AllMono.cons Det.later (AllMono.cons Det.later (AllMono.cons Det.later (AllMono.cons Det.later (AllMono.cons Det.later AllMono.nil))))))))
  · refine AllOb.cons ?_ (AllOb.cons ?_ (AllOb.cons ?_ (AllOb.cons ?_ (AllOb.cons ?_ (AllOb.cons ?_ (AllOb.cons ?_ (AllOb.cons ?_ (AllOb.nil))))))))
    · intro uF W hC' hU aF hF
      have hC : Below v2.heap.size v2 W := hC'
      clear hC'
      simp only [puts] at hF
      subst hF
      go_wp2_with (fail)
      exact ⟨rfl, rfl, (Below.refl _ _), rfl⟩
    · intro uF W hC' hU aF hF
      have hC : Below v2.heap.size v2 W := hC'
      clear hC'
      have h15 : (Det (.nilIface)) (uF 0) W := hU.1
      clear hU
      simp only [puts, Act.put, List.setIfInBounds_toArray, List.set_cons_zero, List.set_cons_succ] at hF
      generalize uF 0 = x15 at h15 hF
      obtain rfl : x15 = (.nilIface) := h15
      subst hF
      go_wp2_with (fail)
      exact ⟨rfl, rfl, (Below.refl _ _), rfl⟩
    · intro uF W hC' hU aF hF
      have hC : Below v2.heap.size v2 W := hC'
      clear hC'
      have h16 : (Det (.bool false)) (uF 1) W := hU.1
      clear hU
      simp only [puts, Act.put, List.setIfInBounds_toArray, List.set_cons_zero, List.set_cons_succ] at hF
      generalize uF 1 = x16 at h16 hF
      obtain rfl : x16 = (.bool false) := h16
      subst hF
      go_wp2_with (fail)
      exact ⟨rfl, rfl, (Below.refl _ _), rfl⟩
    · intro uF W hC' hU aF hF
      have hC : Below v2.heap.size v2 W := hC'
      clear hC'
      have h17 : (Det (.bool false)) (uF 2) W := hU.1
      clear hU
      simp only [puts, Act.put, List.setIfInBounds_toArray, List.set_cons_zero, List.set_cons_succ] at hF
      generalize uF 2 = x17 at h17 hF
      obtain rfl : x17 = (.bool false) := h17
      subst hF
      go_wp2_with (((with_reducible show wpList _ _ _ (Oper.mk (some 18) (Op.load 56 _) _ _ _ _ :: _) _ _); refine wpList_load_whole (by rfl) 56 (.tmp 3) rfl (w1.heap.size) rfl #[.int .i64 1, .int .i64 1, .int .i64 2, .int .i64 3, .slice A1 m1 c1, .int .i64 0, .int .i64 0, .int .i64 0, .int .i64 0, .int .i64 0, .bool false] aggCm rfl _ (b2.below hC b2.lt) ?_))
      exact ⟨rfl, rfl, (Below.refl _ _), rfl⟩
    · intro uF W hC' hU aF hF
      have hC : Below v2.heap.size v2 W := hC'
      clear hC'
      have h17 : (Det (.bool false)) (uF 2) W := hU.1
      clear hU
      simp only [puts, Act.put, List.setIfInBounds_toArray, List.set_cons_zero, List.set_cons_succ] at hF
      generalize uF 2 = x17 at h17 hF
      obtain rfl : x17 = (.bool false) := h17
      subst hF
      go_wp2_with ((go_at_call 28; refine (example_c _).mono ?_; rintro e W1 ⟨rfl, hb⟩))
      exact ⟨rfl, rfl, hb, rfl⟩
    · intro uF W hC' hU aF hF
      have hC : Below v2.heap.size v2 W := hC'
      clear hC'
      have h18 : (Det (.agg #[.int .i64 1, .int .i64 1, .int .i64 2, .int .i64 3, .slice A1 m1 c1, .int .i64 0, .int .i64 0, .int .i64 0, .int .i64 0, .int .i64 0, .bool false])) (uF 3) W := hU.1
      have h19 : (Det (.agg #[.int .i64 1, .int .i64 1, .int .i64 2, .int .i64 3, .slice none 0 0, .int .i64 0, .int .i64 0, .int .i64 0, .int .i64 0, .int .i64 0, .bool false])) (uF 4) W := hU.2.1
      have h17 : (Det (.bool false)) (uF 2) W := hU.2.2.1
      clear hU
      simp only [puts, Act.put, List.setIfInBounds_toArray, List.set_cons_zero, List.set_cons_succ] at hF
      generalize uF 3 = x18 at h18 hF
      generalize uF 4 = x19 at h19 hF
      generalize uF 2 = x17 at h17 hF
      obtain rfl : x18 = (.agg #[.int .i64 1, .int .i64 1, .int .i64 2, .int .i64 3, .slice A1 m1 c1, .int .i64 0, .int .i64 0, .int .i64 0, .int .i64 0, .int .i64 0, .bool false]) := h18
      obtain rfl : x19 = (.agg #[.int .i64 1, .int .i64 1, .int .i64 2, .int .i64 3, .slice none 0 0, .int .i64 0, .int .i64 0, .int .i64 0, .int .i64 0, .int .i64 0, .bool false]) := h19
      obtain rfl : x17 = (.bool false) := h17
      subst hF
      go_wp2_with ((go_at_call 36; refine (refsame_eq 1 1 2 3 0 0 0 0 0 false (OwB.sl (o12.below hC)) (SlB.nil _ 0 none) (Nat.le_refl _) (Nat.zero_le _)).mono ?_; rintro e W1 ⟨rfl, hb⟩))
      exact ⟨rfl, rfl, hb, rfl⟩
    · intro uF W hC' hU aF hF
      have hC : Below v2.heap.size v2 W := hC'
      clear hC'
      have h20 : (Det (.bool true)) (uF 5) W := hU.1
      have h17 : (Det (.bool false)) (uF 2) W := hU.2.1
      clear hU
      simp only [puts, Act.put, List.setIfInBounds_toArray, List.set_cons_zero, List.set_cons_succ] at hF
      generalize uF 5 = x20 at h20 hF
      generalize uF 2 = x17 at h17 hF
      obtain rfl : x20 = (.bool true) := h20
      obtain rfl : x17 = (.bool false) := h17
      subst hF
      go_wp2_with (fail)
      exact ⟨rfl, rfl, (Below.refl _ _), rfl⟩
    · intro uF W hC' hU aF hF
      have hC : Below v2.heap.size v2 W := hC'
      clear hC'
      have h17 : (Det (.bool false)) (uF 2) W := hU.1
      have h21 : (Det (.bool false)) (uF 6) W := hU.2.1
      clear hU
      simp only [puts, Act.put, List.setIfInBounds_toArray, List.set_cons_zero, List.set_cons_succ] at hF
      generalize uF 2 = x17 at h17 hF
      generalize uF 6 = x21 at h21 hF
      obtain rfl : x17 = (.bool false) := h17
      obtain rfl : x21 = (.bool false) := h21
      subst hF
      go_wp2_with (fail)
      exact ⟨rfl, rfl, (Below.refl _ _), rfl⟩
  intro uF v3 hC' hU aF hF
  have hCv3 : Below v2.heap.size v2 v3 := hC'
  clear hC'
  have h22 : (Det (.bool false)) (uF 7) v3 := hU.2.2.2.2.2.2.2.1
  clear hU
  simp only [puts, Act.put, List.setIfInBounds_toArray, List.set_cons_zero, List.set_cons_succ] at hF
  generalize uF 0 = x15 at hF
  generalize uF 1 = x16 at hF
  generalize uF 2 = x17 at hF
  generalize uF 3 = x18 at hF
  generalize uF 4 = x19 at hF
  generalize uF 5 = x20 at hF
  generalize uF 6 = x21 at hF
  generalize uF 7 = x22 at h22 hF
  obtain rfl : x22 = (.bool false) := h22
  subst hF
  have hv3 := hv2.trans (hCv3.mono hz2)
  have hz3 := hv3.size
  have HDL := Lib.hid (show (datc bs).length ≤ n by have := HD.out.len; rw [datc, List.length_drop]; omega)
  go_wp2_with (first
    | (go_at_call 15; refine (copy_c (HD.out.below hv3) hz3 (by omega)).mono ?_; rintro e w4 ⟨rfl, hoc, hb4⟩; have hv4 := hv3.trans (hb4.mono hz3); have hz4 := hv4.size; have HOM := Lib.hid hoc; have HOC := Lib.hid (copy_own hoc HD.out.len); have hcb : v3.heap.size < w4.heap.size := own_lt hoc (by omega); clear hoc)
    | (go_at_call 35; refine (cdec_yes HOC.out.sl (Nat.le_refl _) (by omega) HOK.out).mono ?_; rintro e w5 ⟨A5, m5, c5, rfl, ho5, hb5⟩; have hv5 := hv4.trans (hb5.mono hz4); have hz5 := hv5.size; have bn5 := Blk.new w5 56 #[.int .i64 0, .int .i64 0, .int .i64 0, .int .i64 0, .slice none 0 0, .int .i64 0, .int .i64 0, .int .i64 0, .int .i64 0, .int .i64 0, .bool false])
    | ((with_reducible show wpList _ _ _ (Oper.mk (some 6) (Op.alloc 56) _ _ _ _ :: _) _ _); refine wpList_alloc_agg rfl 56 rfl #[.int .i64 0, .int .i64 0, .int .i64 0, .int .i64 0, .slice none 0 0, .int .i64 0, .int .i64 0, .int .i64 0, .int .i64 0, .int .i64 0, .bool false] zeroCm ?_)
    | ((with_reducible show wpList _ _ _ (Oper.mk none (Op.store 56 (.tmp 6) _) _ _ _ _ :: _) _ _); refine wpList_store_whole rfl 56 (.tmp 6) (.tmp 31) rfl (w5.heap.size) rfl [.int .i64 (nm bs 0 1), .int .i64 (nm bs 1 1), .int .i64 (nm bs 2 2), .int .i64 (nm bs 4 2), .slice A5 m5 c5, .int .i64 (rOp bs), .int .i64 0, .int .i64 (rKey bs), .int .i64 (rNew bs), .int .i64 (rTy bs), .bool (rSt bs)] rfl aggCm rfl _ _ bn5 rfl (by simp [Value.oneCell']) ?_; intro v6 b6 g6 s6; have h56 : Below w5.heap.size w5 v6 := (below_alloc _ _).grown g6 (by simp) (fun k hk => by cases hk; exact Nat.le_refl _); have hv6 := hv5.trans (h56.mono hz5); have hz6 := hv6.size; clear g6 s6)
    | (go_at_call 37; refine (crefdec_yes (HD.out.below hv6) hz6 (by omega) HOK.out).mono ?_; rintro e w7 ⟨A7, m7, c7, rfl, ho7, hb7⟩; have hv7 := hv6.trans (hb7.mono hz6); have hz7 := hv7.size; have b67 := b6.below hb7 b6.lt; have bn7 := Blk.new w7 56 #[.int .i64 0, .int .i64 0, .int .i64 0, .int .i64 0, .slice none 0 0, .int .i64 0, .int .i64 0, .int .i64 0, .int .i64 0, .int .i64 0, .bool false])
    | ((with_reducible show wpList _ _ _ (Oper.mk (some 8) (Op.alloc 56) _ _ _ _ :: _) _ _); refine wpList_alloc_agg rfl 56 rfl #[.int .i64 0, .int .i64 0, .int .i64 0, .int .i64 0, .slice none 0 0, .int .i64 0, .int .i64 0, .int .i64 0, .int .i64 0, .int .i64 0, .bool false] zeroCm ?_)
    | ((with_reducible show wpList _ _ _ (Oper.mk none (Op.store 56 (.tmp 8) _) _ _ _ _ :: _) _ _); refine wpList_store_whole rfl 56 (.tmp 8) (.tmp 36) rfl (w7.heap.size) rfl [.int .i64 (nm bs 0 1), .int .i64 (nm bs 1 1), .int .i64 (nm bs 2 2), .int .i64 (nm bs 4 2), .slice A7 m7 c7, .int .i64 (rOp bs), .int .i64 0, .int .i64 (rKey bs), .int .i64 (rNew bs), .int .i64 (rTy bs), .bool (rSt bs)] rfl aggCm rfl _ _ bn7 rfl (by simp [Value.oneCell']) ?_; intro v8 b8 g8 s8; have h78 : Below w7.heap.size w7 v8 := (below_alloc _ _).grown g8 (by simp) (fun k hk => by cases hk; exact Nat.le_refl _); have hv8 := hv7.trans (h78.mono hz7); have hz8 := hv8.size; have b68 := b67.below h78 b67.lt; clear g8 s8)
    | ((with_reducible show wpList _ _ _ (Oper.mk (some 38) (Op.load 56 _) _ _ _ _ :: _) _ _); refine wpList_load_whole rfl 56 (.tmp 6) rfl (w5.heap.size) rfl #[.int .i64 (nm bs 0 1), .int .i64 (nm bs 1 1), .int .i64 (nm bs 2 2), .int .i64 (nm bs 4 2), .slice A5 m5 c5, .int .i64 (rOp bs), .int .i64 0, .int .i64 (rKey bs), .int .i64 (rNew bs), .int .i64 (rTy bs), .bool (rSt bs)] aggCm rfl _ b68 ?_)
    | ((with_reducible show wpList _ _ _ (Oper.mk (some 39) (Op.load 56 _) _ _ _ _ :: _) _ _); refine wpList_load_whole rfl 56 (.tmp 8) rfl (w7.heap.size) rfl #[.int .i64 (nm bs 0 1), .int .i64 (nm bs 1 1), .int .i64 (nm bs 2 2), .int .i64 (nm bs 4 2), .slice A7 m7 c7, .int .i64 (rOp bs), .int .i64 0, .int .i64 (rKey bs), .int .i64 (rNew bs), .int .i64 (rTy bs), .bool (rSt bs)] aggCm rfl _ b8 ?_)
    | (go_at_call 36; refine (refsame_eq (nm bs 0 1) (nm bs 1 1) (nm bs 2 2) (nm bs 4 2) (rOp bs) 0 (rKey bs) (rNew bs) (rTy bs) (rSt bs) (OwB.sl (((ho5.below h56).below hb7).below h78)) (OwB.sl (ho7.below h78)) (Nat.le_refl _) (Nat.le_refl _)).mono ?_; rintro e w9 ⟨rfl, hb9⟩; have hv9 := hv8.trans (hb9.mono hz8); have hz9 := hv9.size; have hom9 := ((((HOM.out.below hb5).below h56).below hb7).below h78).below hb9; have hoc9 := ((((HOC.out.below hb5).below h56).below hb7).below h78).below hb9; have k9 : w9.cell? ⟨w5.heap.size, 4, none⟩ = some (.slice A5 m5 c5) := (by rw [(b68.below hb9 b68.lt).cell]; rfl); have ho59 := (((ho5.below h56).below hb7).below h78).below hb9)
    | (go_at_call 18; refine (is_err 11 11 rfl true rfl _).mono ?_; rintro e w' ⟨rfl, rfl⟩)
    | (go_at_call 19; refine (kept_c hom9.sl (HD.out.below hv9) (by omega)).mono ?_; rintro e w' ⟨rfl, rfl⟩)
    | (go_at_call 20; refine (apart2_c (base := w.heap.size) (Row.base_le ho59 hz4) (Row.base_le hoc9 hz3) (by have := ho59.len; have := HDL.out; omega) (by omega) hz9 (far_of_base ho59 (fun g hg => by simp [wrote] at hg; subst hg; omega))).mono ?_; rintro e wA ⟨rfl, hbA⟩))
  go_ret
  exact ⟨rfl, (hv9.alloc hz9 _).trans hbA⟩

set_option maxHeartbeats 4000000 in
theorem walk_no (A : Option Addr) (n c : Nat) (bs : List UInt8) (w : World) (w0 : SlB w w.heap.size A n c bs) (y0 : c ≤ 140737488351232) (hbi : ¬ (16384 : Int) < (n : Int)) (hok : ¬ cdecOk bs) :
    Calls Try.prog 10 #[.slice A n c] w fun e w' => e = .returned (.bool true) ∧ Below w.heap.size w w' := by
  have HOK := Lib.hid hok
  clear hok
  have hmx := w0.mx
  have hmc := w0.le
  have HD := Lib.hid w0
  clear w0
  go_enter Try.func10, Try.ntmps10
  obtain ⟨vt, hvt⟩ : ∃ vt, vt = w.alloc (.cells #[.int .u8 1, .int .u8 1, .int .u8 0, .int .u8 2, .int .u8 0, .int .u8 3] 5) := ⟨_, rfl⟩
  have hbt : Below w.heap.size w vt := by rw [hvt]; exact below_alloc _ _
  have HST := Lib.hid (show SlB vt vt.heap.size (some ⟨w.heap.size, 0, none⟩) 6 6 [1, 1, 0, 2, 0, 3] by rw [hvt]; exact (OwB.lit w w.heap.size #[.int .u8 1, .int .u8 1, .int .u8 0, .int .u8 2, .int .u8 0, .int .u8 3] [1, 1, 0, 2, 0, 3] 6 (Nat.le_refl _) rfl (by decide) rfl).sl)
  have HT := Lib.hid hvt
  clear hvt
  go_wp2_with (first
    | (go_at_call 35; rw [← HT.out]; refine (cdec_ex HST.out (Nat.le_refl _)).mono ?_; rintro e w1 ⟨A1, m1, c1, rfl, ho1, hb1⟩; have hw1 := hbt.trans (hb1.mono hbt.size); have hz1 := hw1.size; have bn1 := Blk.new w1 56 #[.int .i64 0, .int .i64 0, .int .i64 0, .int .i64 0, .slice none 0 0, .int .i64 0, .int .i64 0, .int .i64 0, .int .i64 0, .int .i64 0, .bool false])
    | ((with_reducible show wpList _ _ _ (Oper.mk (some 3) (Op.alloc 56) _ _ _ _ :: _) _ _); refine wpList_alloc_agg rfl 56 rfl #[.int .i64 0, .int .i64 0, .int .i64 0, .int .i64 0, .slice none 0 0, .int .i64 0, .int .i64 0, .int .i64 0, .int .i64 0, .int .i64 0, .bool false] zeroCm ?_)
    | ((with_reducible show wpList _ _ _ (Oper.mk none (Op.store 56 (.tmp 3) _) _ _ _ _ :: _) _ _); refine wpList_store_whole rfl 56 (.tmp 3) (.tmp 13) rfl (w1.heap.size) rfl [.int .i64 1, .int .i64 1, .int .i64 2, .int .i64 3, .slice A1 m1 c1, .int .i64 0, .int .i64 0, .int .i64 0, .int .i64 0, .int .i64 0, .bool false] rfl aggCm rfl _ _ bn1 rfl (by simp [Value.oneCell']) ?_; intro v2 b2 g2 s2; have h12 : Below w1.heap.size w1 v2 := (below_alloc _ _).grown g2 (by simp) (fun k hk => by cases hk; exact Nat.le_refl _); have hv2 := hw1.trans (h12.mono hz1); have hz2 := hv2.size; have o12 := ho1.below h12; clear g2 s2))
  refine wp_region_rel (fun W W' => Below W.heap.size W W') (fun W => Below v2.heap.size v2 W)
    [Det (.nilIface), Det (.bool false), Det (.bool false), Det (.agg #[.int .i64 1, .int .i64 1, .int .i64 2, .int .i64 3, .slice A1 m1 c1, .int .i64 0, .int .i64 0, .int .i64 0, .int .i64 0, .int .i64 0, .bool false]), Det (.agg #[.int .i64 1, .int .i64 1, .int .i64 2, .int .i64 3, .slice none 0 0, .int .i64 0, .int .i64 0, .int .i64 0, .int .i64 0, .int .i64 0, .bool false]), Det (.bool true), Det (.bool false), Det (.bool false)]
    [[], [(0, some 15)], [(1, some 16)], [(2, some 17)], [(2, some 17)], [(3, some 18), (4, some 19), (2, some 17)], [(5, some 20), (2, some 17)], [(2, some 17), (6, some 21)]]
    [[], [0], [0, 1], [0, 1, 2], [0, 1, 2], [0, 1, 2, 3, 4], [0, 1, 2, 3, 4, 5], [0, 1, 2, 3, 4, 5, 6]]
    [(0, some 15), (1, some 16), (2, some 17), (3, some 18), (4, some 19), (5, some 20), (6, some 21), (7, some 22)] (by kernel_rfl) (by kernel_rfl) (fun W W' h1 h2 => h1.trans (h2.mono h1.size)) ((Below.refl _ _).drew) ?_ ?_ ?_
  · exact (AllMono.cons Det.later (AllMono.cons Det.later (AllMono.cons Det.later (AllMono.cons Det.later (AllMono.cons Det.later (AllMono.cons Det.later (AllMono.cons Det.later (AllMono.cons Det.later AllMono.nil))))))))
  · refine AllOb.cons ?_ (AllOb.cons ?_ (AllOb.cons ?_ (AllOb.cons ?_ (AllOb.cons ?_ (AllOb.cons ?_ (AllOb.cons ?_ (AllOb.cons ?_ (AllOb.nil))))))))
    · intro uF W hC' hU aF hF
      have hC : Below v2.heap.size v2 W := hC'
      clear hC'
      simp only [puts] at hF
      subst hF
      go_wp2_with (fail)
      exact ⟨rfl, rfl, (Below.refl _ _), rfl⟩
    · intro uF W hC' hU aF hF
      have hC : Below v2.heap.size v2 W := hC'
      clear hC'
      have h15 : (Det (.nilIface)) (uF 0) W := hU.1
      clear hU
      simp only [puts, Act.put, List.setIfInBounds_toArray, List.set_cons_zero, List.set_cons_succ] at hF
      generalize uF 0 = x15 at h15 hF
      obtain rfl : x15 = (.nilIface) := h15
      subst hF
      go_wp2_with (fail)
      exact ⟨rfl, rfl, (Below.refl _ _), rfl⟩
    · intro uF W hC' hU aF hF
      have hC : Below v2.heap.size v2 W := hC'
      clear hC'
      have h16 : (Det (.bool false)) (uF 1) W := hU.1
      clear hU
      simp only [puts, Act.put, List.setIfInBounds_toArray, List.set_cons_zero, List.set_cons_succ] at hF
      generalize uF 1 = x16 at h16 hF
      obtain rfl : x16 = (.bool false) := h16
      subst hF
      go_wp2_with (fail)
      exact ⟨rfl, rfl, (Below.refl _ _), rfl⟩
    · intro uF W hC' hU aF hF
      have hC : Below v2.heap.size v2 W := hC'
      clear hC'
      have h17 : (Det (.bool false)) (uF 2) W := hU.1
      clear hU
      simp only [puts, Act.put, List.setIfInBounds_toArray, List.set_cons_zero, List.set_cons_succ] at hF
      generalize uF 2 = x17 at h17 hF
      obtain rfl : x17 = (.bool false) := h17
      subst hF
      go_wp2_with (((with_reducible show wpList _ _ _ (Oper.mk (some 18) (Op.load 56 _) _ _ _ _ :: _) _ _); refine wpList_load_whole (by rfl) 56 (.tmp 3) rfl (w1.heap.size) rfl #[.int .i64 1, .int .i64 1, .int .i64 2, .int .i64 3, .slice A1 m1 c1, .int .i64 0, .int .i64 0, .int .i64 0, .int .i64 0, .int .i64 0, .bool false] aggCm rfl _ (b2.below hC b2.lt) ?_))
      exact ⟨rfl, rfl, (Below.refl _ _), rfl⟩
    · intro uF W hC' hU aF hF
      have hC : Below v2.heap.size v2 W := hC'
      clear hC'
      have h17 : (Det (.bool false)) (uF 2) W := hU.1
      clear hU
      simp only [puts, Act.put, List.setIfInBounds_toArray, List.set_cons_zero, List.set_cons_succ] at hF
      generalize uF 2 = x17 at h17 hF
      obtain rfl : x17 = (.bool false) := h17
      subst hF
      go_wp2_with ((go_at_call 28; refine (example_c _).mono ?_; rintro e W1 ⟨rfl, hb⟩))
      exact ⟨rfl, rfl, hb, rfl⟩
    · intro uF W hC' hU aF hF
      have hC : Below v2.heap.size v2 W := hC'
      clear hC'
      have h18 : (Det (.agg #[.int .i64 1, .int .i64 1, .int .i64 2, .int .i64 3, .slice A1 m1 c1, .int .i64 0, .int .i64 0, .int .i64 0, .int .i64 0, .int .i64 0, .bool false])) (uF 3) W := hU.1
      have h19 : (Det (.agg #[.int .i64 1, .int .i64 1, .int .i64 2, .int .i64 3, .slice none 0 0, .int .i64 0, .int .i64 0, .int .i64 0, .int .i64 0, .int .i64 0, .bool false])) (uF 4) W := hU.2.1
      have h17 : (Det (.bool false)) (uF 2) W := hU.2.2.1
      clear hU
      simp only [puts, Act.put, List.setIfInBounds_toArray, List.set_cons_zero, List.set_cons_succ] at hF
      generalize uF 3 = x18 at h18 hF
      generalize uF 4 = x19 at h19 hF
      generalize uF 2 = x17 at h17 hF
      obtain rfl : x18 = (.agg #[.int .i64 1, .int .i64 1, .int .i64 2, .int .i64 3, .slice A1 m1 c1, .int .i64 0, .int .i64 0, .int .i64 0, .int .i64 0, .int .i64 0, .bool false]) := h18
      obtain rfl : x19 = (.agg #[.int .i64 1, .int .i64 1, .int .i64 2, .int .i64 3, .slice none 0 0, .int .i64 0, .int .i64 0, .int .i64 0, .int .i64 0, .int .i64 0, .bool false]) := h19
      obtain rfl : x17 = (.bool false) := h17
      subst hF
      go_wp2_with ((go_at_call 36; refine (refsame_eq 1 1 2 3 0 0 0 0 0 false (OwB.sl (o12.below hC)) (SlB.nil _ 0 none) (Nat.le_refl _) (Nat.zero_le _)).mono ?_; rintro e W1 ⟨rfl, hb⟩))
      exact ⟨rfl, rfl, hb, rfl⟩
    · intro uF W hC' hU aF hF
      have hC : Below v2.heap.size v2 W := hC'
      clear hC'
      have h20 : (Det (.bool true)) (uF 5) W := hU.1
      have h17 : (Det (.bool false)) (uF 2) W := hU.2.1
      clear hU
      simp only [puts, Act.put, List.setIfInBounds_toArray, List.set_cons_zero, List.set_cons_succ] at hF
      generalize uF 5 = x20 at h20 hF
      generalize uF 2 = x17 at h17 hF
      obtain rfl : x20 = (.bool true) := h20
      obtain rfl : x17 = (.bool false) := h17
      subst hF
      go_wp2_with (fail)
      exact ⟨rfl, rfl, (Below.refl _ _), rfl⟩
    · intro uF W hC' hU aF hF
      have hC : Below v2.heap.size v2 W := hC'
      clear hC'
      have h17 : (Det (.bool false)) (uF 2) W := hU.1
      have h21 : (Det (.bool false)) (uF 6) W := hU.2.1
      clear hU
      simp only [puts, Act.put, List.setIfInBounds_toArray, List.set_cons_zero, List.set_cons_succ] at hF
      generalize uF 2 = x17 at h17 hF
      generalize uF 6 = x21 at h21 hF
      obtain rfl : x17 = (.bool false) := h17
      obtain rfl : x21 = (.bool false) := h21
      subst hF
      go_wp2_with (fail)
      exact ⟨rfl, rfl, (Below.refl _ _), rfl⟩
  intro uF v3 hC' hU aF hF
  have hCv3 : Below v2.heap.size v2 v3 := hC'
  clear hC'
  have h22 : (Det (.bool false)) (uF 7) v3 := hU.2.2.2.2.2.2.2.1
  clear hU
  simp only [puts, Act.put, List.setIfInBounds_toArray, List.set_cons_zero, List.set_cons_succ] at hF
  generalize uF 0 = x15 at hF
  generalize uF 1 = x16 at hF
  generalize uF 2 = x17 at hF
  generalize uF 3 = x18 at hF
  generalize uF 4 = x19 at hF
  generalize uF 5 = x20 at hF
  generalize uF 6 = x21 at hF
  generalize uF 7 = x22 at h22 hF
  obtain rfl : x22 = (.bool false) := h22
  subst hF
  have hv3 := hv2.trans (hCv3.mono hz2)
  have hz3 := hv3.size
  go_wp2_with (first
    | (go_at_call 15; refine (copy_c (HD.out.below hv3) hz3 (by omega)).mono ?_; rintro e w4 ⟨rfl, hoc, hb4⟩; have hv4 := hv3.trans (hb4.mono hz3); have hz4 := hv4.size; have HOM := Lib.hid hoc; have HOC := Lib.hid (copy_own hoc HD.out.len); have hcb : v3.heap.size < w4.heap.size := own_lt hoc (by omega); clear hoc)
    | (go_at_call 35; refine (cdec_no HOC.out.sl (Nat.le_refl _) (by omega) HOK.out).mono ?_; rintro e w5 ⟨rfl, hb5⟩; have hv5 := hv4.trans (hb5.mono hz4); have hz5 := hv5.size; have bn5 := Blk.new w5 56 #[.int .i64 0, .int .i64 0, .int .i64 0, .int .i64 0, .slice none 0 0, .int .i64 0, .int .i64 0, .int .i64 0, .int .i64 0, .int .i64 0, .bool false])
    | ((with_reducible show wpList _ _ _ (Oper.mk (some 6) (Op.alloc 56) _ _ _ _ :: _) _ _); refine wpList_alloc_agg rfl 56 rfl #[.int .i64 0, .int .i64 0, .int .i64 0, .int .i64 0, .slice none 0 0, .int .i64 0, .int .i64 0, .int .i64 0, .int .i64 0, .int .i64 0, .bool false] zeroCm ?_)
    | ((with_reducible show wpList _ _ _ (Oper.mk none (Op.store 56 (.tmp 6) _) _ _ _ _ :: _) _ _); refine wpList_store_whole rfl 56 (.tmp 6) (.tmp 31) rfl (w5.heap.size) rfl [.int .i64 0, .int .i64 0, .int .i64 0, .int .i64 0, .slice none 0 0, .int .i64 0, .int .i64 0, .int .i64 0, .int .i64 0, .int .i64 0, .bool false] rfl aggCm rfl _ _ bn5 rfl (by simp [Value.oneCell']) ?_; intro v6 b6 g6 s6; have h56 : Below w5.heap.size w5 v6 := (below_alloc _ _).grown g6 (by simp) (fun k hk => by cases hk; exact Nat.le_refl _); have hv6 := hv5.trans (h56.mono hz5); have hz6 := hv6.size; clear g6 s6)
    | (go_at_call 37; refine (crefdec_no (HD.out.below hv6) hz6 (by omega) HOK.out).mono ?_; rintro e w7 ⟨rfl, hb7⟩; have hv7 := hv6.trans (hb7.mono hz6); have hz7 := hv7.size; have b67 := b6.below hb7 b6.lt; have bn7 := Blk.new w7 56 #[.int .i64 0, .int .i64 0, .int .i64 0, .int .i64 0, .slice none 0 0, .int .i64 0, .int .i64 0, .int .i64 0, .int .i64 0, .int .i64 0, .bool false])
    | ((with_reducible show wpList _ _ _ (Oper.mk (some 8) (Op.alloc 56) _ _ _ _ :: _) _ _); refine wpList_alloc_agg rfl 56 rfl #[.int .i64 0, .int .i64 0, .int .i64 0, .int .i64 0, .slice none 0 0, .int .i64 0, .int .i64 0, .int .i64 0, .int .i64 0, .int .i64 0, .bool false] zeroCm ?_)
    | ((with_reducible show wpList _ _ _ (Oper.mk none (Op.store 56 (.tmp 8) _) _ _ _ _ :: _) _ _); refine wpList_store_whole rfl 56 (.tmp 8) (.tmp 36) rfl (w7.heap.size) rfl [.int .i64 0, .int .i64 0, .int .i64 0, .int .i64 0, .slice none 0 0, .int .i64 0, .int .i64 0, .int .i64 0, .int .i64 0, .int .i64 0, .bool false] rfl aggCm rfl _ _ bn7 rfl (by simp [Value.oneCell']) ?_; intro v8 b8 g8 s8; have h78 : Below w7.heap.size w7 v8 := (below_alloc _ _).grown g8 (by simp) (fun k hk => by cases hk; exact Nat.le_refl _); have hv8 := hv7.trans (h78.mono hz7); have hz8 := hv8.size; have b68 := b67.below h78 b67.lt; clear g8 s8)
    | ((with_reducible show wpList _ _ _ (Oper.mk (some 38) (Op.load 56 _) _ _ _ _ :: _) _ _); refine wpList_load_whole rfl 56 (.tmp 6) rfl (w5.heap.size) rfl #[.int .i64 0, .int .i64 0, .int .i64 0, .int .i64 0, .slice none 0 0, .int .i64 0, .int .i64 0, .int .i64 0, .int .i64 0, .int .i64 0, .bool false] aggCm rfl _ b68 ?_)
    | ((with_reducible show wpList _ _ _ (Oper.mk (some 39) (Op.load 56 _) _ _ _ _ :: _) _ _); refine wpList_load_whole rfl 56 (.tmp 8) rfl (w7.heap.size) rfl #[.int .i64 0, .int .i64 0, .int .i64 0, .int .i64 0, .slice none 0 0, .int .i64 0, .int .i64 0, .int .i64 0, .int .i64 0, .int .i64 0, .bool false] aggCm rfl _ b8 ?_)
    | (go_at_call 36; refine (refsame_eq 0 0 0 0 0 0 0 0 0 false (SlB.nil v8 0 none) (SlB.nil v8 0 none) (Nat.zero_le _) (Nat.zero_le _)).mono ?_; rintro e w9 ⟨rfl, hb9⟩; have hv9 := hv8.trans (hb9.mono hz8); have hz9 := hv9.size; have hom9 := ((((HOM.out.below hb5).below h56).below hb7).below h78).below hb9; have hoc9 := ((((HOC.out.below hb5).below h56).below hb7).below h78).below hb9; have k9 : w9.cell? ⟨w5.heap.size, 4, none⟩ = some (.slice none 0 0) := (by rw [(b68.below hb9 b68.lt).cell]; rfl))
    | (go_at_call 18; refine (is_err 11 11 rfl true rfl _).mono ?_; rintro e w' ⟨rfl, rfl⟩)
    | (go_at_call 19; refine (kept_c hom9.sl (HD.out.below hv9) (by omega)).mono ?_; rintro e w' ⟨rfl, rfl⟩)
    | (go_at_call 20; refine (apart2_c (base := w.heap.size) (OwB.nil _ _ none) (Row.base_le hoc9 hz3) (by omega) (by omega) hz9 (.inl (by simp [wrote]))).mono ?_; rintro e wA ⟨rfl, hbA⟩))
  go_ret
  exact ⟨rfl, (hv9.alloc hz9 _).trans hbA⟩

theorem walk (A : Option Addr) (n c : Nat) (bs : List UInt8) (w : World) (w0 : SlB w w.heap.size A n c bs) (y0 : c ≤ 140737488351232) :
    Calls Try.prog 10 #[.slice A n c] w fun e w' => e = .returned (.bool true) ∧ Below w.heap.size w w' := by
  by_cases hbi : (16384 : Int) < (n : Int)
  · exact walk_big A n c bs w w0 y0 hbi
  · by_cases hok : cdecOk bs
    · exact walk_yes A n c bs w w0 y0 hbi hok
    · exact walk_no A n c bs w w0 y0 hbi hok
end Go.Proofs.Ytjjpifppdjpcnaa.cdbDecodes

