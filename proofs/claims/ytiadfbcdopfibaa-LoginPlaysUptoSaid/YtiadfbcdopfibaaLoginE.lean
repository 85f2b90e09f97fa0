/-
  login: a new session; the draw of a number (printed by wip/gen_login5.py).
-/
import Derived.Test.YtiadfbcdopfibaaLoginD
import Derived.Test.YtiadfbcdopfibaaClone
namespace Go.Proofs.Ytiadfbcdopfibaa
open Go.RowKit
set_option linter.unusedVariables false
set_option linter.unusedSimpArgs false
set_option maxRecDepth 100000

theorem aggSec : AggT Try.prog 24 4 := ⟨⟨_, Try.underlying24, rfl⟩, by kernel_rfl⟩
theorem buildSe (tn init : Int) (At : Option Addr) (nt ct : Nat) (Ao : Option Addr) (no co : Nat) (w : World) : (Instr.build 74 #[(0, .agg #[.int .i64 tn, .int .i64 init, .slice At nt ct, .slice Ao no co])]).run Try.prog w = .ok (.agg (sess tn init At nt ct Ao no co 0 0 (z8' 32) 0).toArray) w := by kernel_rfl

set_option maxHeartbeats 4000000 in
theorem new_c {w : World} {B nt ct no co : Nat} {tn init : Int} {At Ao : Option Addr} {th ou : List UInt8} (ht : SlB w B At nt ct th) (ho : SlB w B Ao no co ou) (hB : B ≤ w.heap.size) (hnt : nt ≤ 1048576) (hno : no ≤ 1048576) :
    Calls Try.prog 12 #[.agg #[.int .i64 tn, .int .i64 init, .slice At nt ct, .slice Ao no co]] w fun e w' => ∃ gs, e = .returned (.pointer (some ⟨gs, 0, none⟩)) ∧ Se w' w.heap.size gs init th ou 0 0 (z8' 32) 0 ∧ Below w.heap.size w w' := by
  obtain ⟨v, hv⟩ : ∃ v, v = w.alloc (.cells #[.int .i64 tn, .int .i64 init, .slice At nt ct, .slice Ao no co] 24) := ⟨_, rfl⟩
  have b1 : Blk v w.heap.size 24 #[.int .i64 tn, .int .i64 init, .slice At nt ct, .slice Ao no co] := by rw [hv]; exact Blk.new _ _ _
  have hbv : Below w.heap.size w v := by rw [hv]; exact below_alloc _ _
  have hz := hbv.size
  have hz1 : v.heap.size = w.heap.size + 1 := by rw [hv, World.size_alloc]
  have HV := Lib.hid hv
  have HB1 := Lib.hid b1
  have HT := Lib.hid (ht.below (hbv.mono hB))
  have HO := Lib.hid (ho.below (hbv.mono hB))
  have hB2 := buildSe
  have HZ1 := Lib.hid hz1
  clear hv b1 ht ho hz1
  go_enter Try.func12, Try.ntmps12
  go_wp2_with fail
  rw [← HV.out]
  refine Code.wp_mono (Q := Exit.then (fun a' W7 => ∃ A5 c5 A8 c8, (∃ y3 y4 y5 y6 y7 y8 y9 y10 : Value, a' = { tmps := #[.agg #[.int .i64 tn, .int .i64 init, .slice At nt ct, .slice Ao no co], .pointer (some ⟨w.heap.size, 0, none⟩), .pointer none, y3, y4, y5, y6, y7, y8, y9, y10, undef, undef, undef], defers := [] }) ∧ Blk W7 w.heap.size 24 #[.int .i64 tn, .int .i64 init, .slice A5 nt c5, .slice A8 no c8] ∧ OwB W7 v.heap.size A5 nt c5 th ∧ OwB W7 v.heap.size A8 no c8 ou ∧ Below w.heap.size v W7) (fun _ _ _ => False)) ?_ ?_
  rotate_left
  · refine (wpIn_wide (n := 4)).1 ?_
    refine wpIn_region_rel free_wide rfl 7 (fun W W' => Below W.heap.size W W') (fun W => Below v.heap.size v W)
      [Det (.pointer (some ⟨w.heap.size, 2, none⟩)), Det (.slice At nt ct), RelO v.heap.size nt th, Det (.pointer (some ⟨w.heap.size, 3, none⟩)), Det (.slice Ao no co), RelO v.heap.size no ou, Det (.pointer (some ⟨w.heap.size, 2, none⟩)), Any, Det (.pointer (some ⟨w.heap.size, 3, none⟩)), Any]
      [[], [(0, some 3)], [(1, some 4)], [], [(3, some 6)], [(4, some 7)], [], [(6, some 9), (2, some 5)], [], [(8, some 10), (5, some 8)]]
      [[], [0], [0, 1], [], [3], [0, 1, 2, 3, 4], [0, 1, 2, 3, 4], [0, 1, 2, 3, 4, 5, 6], [0, 1, 2, 3, 4, 5, 6, 7], [0, 1, 2, 3, 4, 5, 6, 7, 8]]
      [(0, some 3), (1, some 4), (2, some 5), (3, some 6), (4, some 7), (5, some 8), (6, some 9), (7, none), (8, some 10), (9, none)] (by kernel_rfl) (by kernel_rfl) (by kernel_rfl) (fun W W' h1 h2 => h1.trans (h2.mono h1.size)) ((Below.refl _ _).drew) ?_ ?_ ?_
    · exact (AllMono.cons Det.later (AllMono.cons Det.later (AllMono.cons RelO.later (AllMono.cons Det.later (AllMono.cons Det.later (AllMono.cons RelO.later (AllMono.cons Det.later (AllMono.cons Any.later (AllMono.cons Det.later (AllMono.cons Any.later AllMono.nil))))))))))
    · refine AllOb.cons ?_ (AllOb.cons ?_ (AllOb.cons ?_ (AllOb.cons ?_ (AllOb.cons ?_ (AllOb.cons ?_ (AllOb.cons ?_ (AllOb.nil)))))))
      · intro uF W hC' hU aF hF
        have hC : Below v.heap.size v W := hC'
        clear hC'
        simp only [puts] at hF
        subst hF
        go_wp2_with (fail)
        exact ⟨rfl, rfl, (Below.refl _ _), rfl⟩
      · intro uF W hC' hU aF hF
        have hC : Below v.heap.size v W := hC'
        clear hC'
        have h3 : (Det (.pointer (some ⟨w.heap.size, 2, none⟩))) (uF 0) W := hU.1
        clear hU
        simp only [puts, Act.put, List.setIfInBounds_toArray, List.set_cons_zero, List.set_cons_succ] at hF
        generalize uF 0 = x3 at h3 hF
        obtain rfl : x3 = (.pointer (some ⟨w.heap.size, 2, none⟩)) := h3
        subst hF
        have d1 : W.cell? ⟨w.heap.size, 2, none⟩ = some (.slice At nt ct) := by rw [(HB1.out.below hC HB1.out.lt).cell]; rfl
        go_wp2_with (fail)
        exact ⟨rfl, rfl, (Below.refl _ _), rfl⟩
      · intro uF W hC' hU aF hF
        have hC : Below v.heap.size v W := hC'
        clear hC'
        have h4 : (Det (.slice At nt ct)) (uF 1) W := hU.1
        clear hU
        simp only [puts, Act.put, List.setIfInBounds_toArray, List.set_cons_zero, List.set_cons_succ] at hF
        generalize uF 1 = x4 at h4 hF
        obtain rfl : x4 = (.slice At nt ct) := h4
        subst hF
        go_wp2_with ((go_at_call 30; refine (clone_c ((HT.out.below (hC.mono (Nat.le_trans hB hz))).more (Nat.le_trans hB (Nat.le_trans hz hC.size))) (Nat.le_refl _) (by omega)).mono ?_; rintro e W1 ⟨A1, c1, rfl, h1, hb, -⟩))
        exact ⟨rfl, rfl, hb, ⟨_, _, rfl, Row.base_le h1 hC.size⟩⟩
      · intro uF W hC' hU aF hF
        have hC : Below v.heap.size v W := hC'
        clear hC'
        simp only [puts] at hF
        subst hF
        go_wp2_with (fail)
        exact ⟨rfl, rfl, (Below.refl _ _), rfl⟩
      · intro uF W hC' hU aF hF
        have hC : Below v.heap.size v W := hC'
        clear hC'
        have h6 : (Det (.pointer (some ⟨w.heap.size, 3, none⟩))) (uF 3) W := hU.1
        clear hU
        simp only [puts, Act.put, List.setIfInBounds_toArray, List.set_cons_zero, List.set_cons_succ] at hF
        generalize uF 3 = x6 at h6 hF
        obtain rfl : x6 = (.pointer (some ⟨w.heap.size, 3, none⟩)) := h6
        subst hF
        have d1 : W.cell? ⟨w.heap.size, 3, none⟩ = some (.slice Ao no co) := by rw [(HB1.out.below hC HB1.out.lt).cell]; rfl
        go_wp2_with (fail)
        exact ⟨rfl, rfl, (Below.refl _ _), rfl⟩
      · intro uF W hC' hU aF hF
        have hC : Below v.heap.size v W := hC'
        clear hC'
        have h7 : (Det (.slice Ao no co)) (uF 4) W := hU.1
        clear hU
        simp only [puts, Act.put, List.setIfInBounds_toArray, List.set_cons_zero, List.set_cons_succ] at hF
        generalize uF 4 = x7 at h7 hF
        obtain rfl : x7 = (.slice Ao no co) := h7
        subst hF
        go_wp2_with ((go_at_call 30; refine (clone_c ((HO.out.below (hC.mono (Nat.le_trans hB hz))).more (Nat.le_trans hB (Nat.le_trans hz hC.size))) (Nat.le_refl _) (by omega)).mono ?_; rintro e W1 ⟨A1, c1, rfl, h1, hb, -⟩))
        exact ⟨rfl, rfl, hb, ⟨_, _, rfl, Row.base_le h1 hC.size⟩⟩
      · intro uF W hC' hU aF hF
        have hC : Below v.heap.size v W := hC'
        clear hC'
        simp only [puts] at hF
        subst hF
        go_wp2_with (fail)
        exact ⟨rfl, rfl, (Below.refl _ _), rfl⟩
    intro uF W6 hC' hU aF hF
    have hCW6 : Below v.heap.size v W6 := hC'
    clear hC'
    have h5 : (RelO v.heap.size nt th) (uF 2) W6 := hU.2.2.1
    have h8 : (RelO v.heap.size no ou) (uF 5) W6 := hU.2.2.2.2.2.1
    have h9 : (Det (.pointer (some ⟨w.heap.size, 2, none⟩))) (uF 6) W6 := hU.2.2.2.2.2.2.1
    clear hU
    simp only [List.take_succ_cons, List.take_zero, puts, Act.put, List.setIfInBounds_toArray, List.set_cons_zero, List.set_cons_succ] at hF
    generalize uF 0 = x3 at hF
    generalize uF 1 = x4 at hF
    generalize uF 2 = x5 at h5 hF
    generalize uF 3 = x6 at hF
    generalize uF 4 = x7 at hF
    generalize uF 5 = x8 at h8 hF
    generalize uF 6 = x9 at h9 hF
    obtain ⟨A5, c5, rfl, s5⟩ := h5
    obtain ⟨A8, c8, rfl, s8⟩ := h8
    obtain rfl : x9 = (.pointer (some ⟨w.heap.size, 2, none⟩)) := h9
    subst hF
    simp only [List.drop_succ_cons, List.drop_zero]
    refine wpListIn_of free_wide (fun ⟨_, _, h⟩ => h) rfl ?_
    have b6 := HB1.out.below hCW6 HB1.out.lt
    have d26 : W6.cell? ⟨w.heap.size, 2, none⟩ = some (.slice At nt ct) := by rw [b6.cell]; rfl
    have f26 := b6.frozen 2
    have hz6 := hCW6.size
    obtain ⟨V7, hV7⟩ : ∃ V7, V7 = W6.setCell ⟨w.heap.size, 2, none⟩ (.slice A5 nt c5) := ⟨_, rfl⟩
    have b7 : Blk V7 w.heap.size 24 #[.int .i64 tn, .int .i64 init, .slice A5 nt c5, .slice Ao no co] := by rw [hV7]; exact b6.set_ 2 _
    have d37 : V7.cell? ⟨w.heap.size, 3, none⟩ = some (.slice Ao no co) := by rw [b7.cell]; rfl
    have f37 := b7.frozen 3
    have hs7 : ∀ (v' : Value), V7.setCell ⟨w.heap.size, 3, none⟩ v' = (W6.setCell ⟨w.heap.size, 2, none⟩ (.slice A5 nt c5)).setCell ⟨w.heap.size, 3, none⟩ v' := fun v' => by rw [hV7]
    have b8 : Blk (V7.setCell ⟨w.heap.size, 3, none⟩ (.slice A8 no c8)) w.heap.size 24 #[.int .i64 tn, .int .i64 init, .slice A5 nt c5, .slice A8 no c8] := b7.set_ 3 _
    have hw7 : Below w.heap.size v V7 := by rw [hV7]; exact (hCW6.mono hz).setCell (p := ⟨w.heap.size, 2, none⟩) (Nat.le_refl _) _
    have hw8 : Below w.heap.size v (V7.setCell ⟨w.heap.size, 3, none⟩ (.slice A8 no c8)) := hw7.setCell (p := ⟨w.heap.size, 3, none⟩) (Nat.le_refl _) _
    have keep : ∀ {A : Option Addr} {n c : Nat} {bs : List UInt8}, OwB W6 v.heap.size A n c bs → OwB (V7.setCell ⟨w.heap.size, 3, none⟩ (.slice A8 no c8)) v.heap.size A n c bs := fun {A n c bs} hr => by
      have hne : ∀ {W : World}, OwB W v.heap.size A n c bs → wrote A c = none ∨ wrote A c ≠ some w.heap.size := fun {W} hr => not_wrote' hr (.inr (by have := HZ1.out; omega))
      have h1 : OwB V7 v.heap.size A n c bs := by rw [hV7]; exact Row.keepRow hr (grownBy_setCell _ _ 2 _) (hne hr)
      exact Row.keepRow h1 (grownBy_setCell _ _ 3 _) (hne h1)
    have o5 := keep s5
    have o8 := keep s8
    rw [hV7] at d37 f37
    rw [hs7] at b8 hw8 o5 o8
    have HQ := Lib.hid (And.intro b8 (And.intro hw8 (And.intro o5 o8)))
    clear hV7 b7 b8 hw7 hw8 o5 o8 hs7 keep b6 s5 s8
    go_wp2_with fail
    obtain ⟨q1, q2, q3, q4⟩ := HQ.out
    exact ⟨A5, c5, A8, c8, ⟨_, _, _, _, _, _, _, _, rfl⟩, q1, q3, q4, q2⟩
  rintro e a' W7 hh
  cases e with
  | normal =>
    obtain ⟨A5, c5, A8, c8, ⟨y3, y4, y5, y6, y7, y8, y9, y10, rfl⟩, b1, o5, o8, hb7⟩ := hh
    have hz7 := hb7.size
    have b39 := Blk.new W7 74 (sess tn init A5 nt c5 A8 no c8 0 0 (z8' 32) 0).toArray
    have hw7 := hbv.trans hb7
    go_wp2_with (first
      | ((with_reducible show wpList _ _ _ (Oper.mk (some 11) (Op.load 24 _) _ _ _ _ :: _) _ _); refine wpList_load_whole rfl 24 (.tmp 1) rfl w.heap.size rfl #[.int .i64 tn, .int .i64 init, .slice A5 nt c5, .slice A8 no c8] aggSec rfl _ b1 ?_)
      | ((with_reducible show wpList _ _ _ (Oper.mk (some 13) (Op.box _ _) _ _ _ _ :: _) _ _); refine wpList_box_agg rfl 74 (.tmp 12) rfl (sess tn init A5 nt c5 A8 no c8 0 0 (z8' 32) 0).toArray rfl ?_))
    go_ret
    refine ⟨W7.heap.size, rfl, ⟨⟨tn, A5, nt, c5, A8, no, c8, b39, ?_, ?_⟩, len_z8' 32, hw7.size⟩, hw7.alloc hw7.size _⟩
    · exact Row.base_le (OwB.below o5 (below_alloc _ _)) hz
    · exact Row.base_le (OwB.below o8 (below_alloc _ _)) hz
  | _ => exact hh.elim
/-! ## The draw of a number -/
def drawOf (d : Int) : List UInt8 := UInt8.ofNat (d % 256).toNat :: UInt8.ofNat (d / 256 % 256).toNat :: 1 :: List.replicate 29 0
theorem len_drawOf (d : Int) : (drawOf d).length = 32 := by simp [drawOf]
theorem aggSum : AggT Try.prog 34 32 := agg44
theorem buildSum (a b : Int) (w : World) : (Instr.build 34 #[(0, .int .u8 a), (1, .int .u8 b), (2, .int .u8 1)]).run Try.prog w = .ok (.agg (Value.int .u8 a :: .int .u8 b :: (1 :: List.replicate 29 (0 : UInt8)).map b8).toArray) w := by kernel_rfl
theorem b8_mod (d : Int) : b8 (UInt8.ofNat (d % 256).toNat) = .int .u8 (d % 256) := by
  have h : ((UInt8.ofNat (d % 256).toNat).toNat : Int) = d % 256 := by rw [UInt8.toNat_ofNat']; omega
  rw [b8, h]
theorem draw_arr (d : Int) : (Value.int .u8 (d % 256) :: .int .u8 (d / 256 % 256) :: (1 :: List.replicate 29 (0 : UInt8)).map b8).toArray = arr8 (drawOf d) := by
  simp only [arr8, drawOf, List.map_cons, b8_mod]
set_option maxHeartbeats 4000000 in
theorem draw_c (k n x d : Int) (A : Option Addr) (m c : Nat) (o : Bool) (w : World) :
    Calls Try.prog 13 #[.agg #[.int .i64 k, .int .i64 n, .int .i64 x, .slice A m c, .int .i64 d, .bool o]] w fun e w' => e = .returned (.agg (arr8 (drawOf d))) ∧ Below w.heap.size w w' := by
  obtain ⟨v, hv⟩ : ∃ v, v = w.alloc (.cells #[.int .i64 k, .int .i64 n, .int .i64 x, .slice A m c, .int .i64 d, .bool o] 38) := ⟨_, rfl⟩
  have b1 : Blk v w.heap.size 38 #[.int .i64 k, .int .i64 n, .int .i64 x, .slice A m c, .int .i64 d, .bool o] := by rw [hv]; exact Blk.new _ _ _
  have hbv : Below w.heap.size w v := by rw [hv]; exact below_alloc _ _
  have hz1 : v.heap.size = w.heap.size + 1 := by rw [hv, World.size_alloc]
  obtain ⟨u, hu⟩ : ∃ u, u = v.alloc (.cells (arr8 (z8' 32)) 34) := ⟨_, rfl⟩
  have b2 : Blk u v.heap.size 34 (arr8 (z8' 32)) := by rw [hu]; exact Blk.new _ _ _
  have b1u : Blk u w.heap.size 38 #[.int .i64 k, .int .i64 n, .int .i64 x, .slice A m c, .int .i64 d, .bool o] := by rw [hu]; exact b1.alloc _
  have hbu : Below w.heap.size w u := by rw [hu]; exact hbv.alloc hbv.size _
  have d1 : u.cell? ⟨w.heap.size, 4, none⟩ = some (.int .i64 d) := by rw [b1u.cell]; rfl
  have hone : ∀ v ∈ (Value.int .u8 (d % 256) :: .int .u8 (d / 256 % 256) :: (1 :: List.replicate 29 (0 : UInt8)).map b8), v.oneCell' = true := by
    intro v hv
    rcases List.mem_cons.1 hv with rfl | hv
    · rfl
    · rcases List.mem_cons.1 hv with rfl | hv
      · rfl
      · exact b8_one _ v hv
  have hBD : ∀ W, (Instr.build 34 #[(0, .int .u8 (d % 256)), (1, .int .u8 (d / 256 % 256)), (2, .int .u8 1)]).run Try.prog W = .ok (.agg (arr8 (drawOf d))) W := fun W => by rw [buildSum, draw_arr]
  have HV := Lib.hid hv
  have HU := Lib.hid hu
  have HB2 := Lib.hid b2
  have hzu := hbu.size
  have hzv := hbv.size
  have HZ1 := Lib.hid hz1
  clear hv hu b2 b1 hz1
  go_enter Try.func13, Try.ntmps13
  go_wp2_with (first
    | ((with_reducible show wpList _ _ _ (Oper.mk (some 2) (Op.alloc _) _ _ _ _ :: _) _ _); refine wpList_alloc_agg rfl 34 rfl (arr8 (z8' 32)) zero44 ?_; rw [← HV.out, ← HU.out])
    | ((with_reducible show wpList _ _ _ (Oper.mk none (Op.store 34 (.tmp 2) _) _ _ _ _ :: _) _ _); refine wpList_store_whole rfl 34 (.tmp 2) (.tmp 10) rfl v.heap.size rfl (Value.int .u8 (d % 256) :: .int .u8 (d / 256 % 256) :: (1 :: List.replicate 29 (0 : UInt8)).map b8) rfl agg44 rfl _ _ HB2.out (by rw [size_arr8, len_z8']) hone ?_; intro w8 k8 g8 s8; rw [draw_arr] at k8))
  exact bodyPost_ret (results_cell_one rfl _ v.heap.size _ (arr8 (drawOf d)) agg44 (by rw [size_arr8, len_drawOf]) rfl k8) rfl ⟨rfl, hbu.grown g8 hzu (fun k hk => by cases hk; exact hzv)⟩
end Go.Proofs.Ytiadfbcdopfibaa

