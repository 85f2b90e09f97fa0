/-
  queue: push, pop and own (printed by wip/gen_ring.py).
-/
import Derived.Test.YtkiiobfomnggcaaRingM
import Derived.Test.YtkiiobfomnggcaaClone
import Derived.Test.YtkiiobfomnggcaaErr
namespace Go.Proofs.Ytkiiobfomnggcaa
open Go.RowKit
set_option linter.unusedVariables false
set_option linter.unusedSimpArgs false
set_option maxRecDepth 100000

/-- A command that waits and holds no bytes. -/
def wrow (i n : Int) : List Value := [.int .i64 i, .int .i64 n, .int .i64 0, .int .i64 0, .int .i64 0, .int .i64 0, .slice none 0 0, .int .i64 0, .int .i64 0, .int .i64 0, .int .i64 0, .int .i64 0, .bool false]
theorem wrow_ok (i n : Int) : (wrow i n).length = 13 ∧ ∀ v ∈ wrow i n, v.oneCell' = true := ⟨rfl, by simp [wrow, Value.oneCell']⟩
theorem zeroW : (Try.prog.info? 48).bind (·.zero) = some (.agg #[.int .i64 0, .int .i64 0, .int .i64 0, .int .i64 0, .int .i64 0, .int .i64 0, .slice none 0 0, .int .i64 0, .int .i64 0, .int .i64 0, .int .i64 0, .int .i64 0, .bool false]) := by kernel_rfl
theorem buildW (i n : Int) (w : World) : (Instr.build 48 #[(0, .int .i64 i), (1, .int .i64 n)]).run Try.prog w = .ok (.agg #[.int .i64 i, .int .i64 n, .int .i64 0, .int .i64 0, .int .i64 0, .int .i64 0, .slice none 0 0, .int .i64 0, .int .i64 0, .int .i64 0, .int .i64 0, .int .i64 0, .bool false]) w := by kernel_rfl
theorem buildW0 (i : Int) (w : World) : (Instr.build 48 #[(0, .int .i64 i)]).run Try.prog w = .ok (.agg #[.int .i64 i, .int .i64 0, .int .i64 0, .int .i64 0, .int .i64 0, .int .i64 0, .slice none 0 0, .int .i64 0, .int .i64 0, .int .i64 0, .int .i64 0, .int .i64 0, .bool false]) w := by kernel_rfl
theorem buildW1 (n : Int) (w : World) : (Instr.build 48 #[(1, .int .i64 n)]).run Try.prog w = .ok (.agg #[.int .i64 0, .int .i64 n, .int .i64 0, .int .i64 0, .int .i64 0, .int .i64 0, .slice none 0 0, .int .i64 0, .int .i64 0, .int .i64 0, .int .i64 0, .int .i64 0, .bool false]) w := by kernel_rfl
theorem buildWZ (w : World) : (Instr.build 48 #[]).run Try.prog w = .ok (.agg #[.int .i64 0, .int .i64 0, .int .i64 0, .int .i64 0, .int .i64 0, .int .i64 0, .slice none 0 0, .int .i64 0, .int .i64 0, .int .i64 0, .int .i64 0, .int .i64 0, .bool false]) w := by kernel_rfl

set_option maxHeartbeats 4000000 in
theorem push_c {w : World} {base gq gs n f k : Nat} {rows : List (List Value)} (h : Rg w gq gs n f k rows) (hbq : base ≤ gq) (hbs : base ≤ gs) (hk : k < n) {r : List Value} (hr : r.length = 13 ∧ ∀ v ∈ r, v.oneCell' = true) (j : Nat) (hj : j = (f + k) % n) :
    Calls Try.prog 32 #[.pointer (some ⟨gq, 0, none⟩), .agg r.toArray] w fun e w' => (∃ v, e = .returned v) ∧ Rg w' gq gs n f (k + 1) (rows.set j r) ∧ Below base w w' ∧ Fr [gq, gs] w w' := by
  have hn8 := h.le8
  have hgq := h.bq.lt
  have hgs := h.bs.lt
  have hne := h.ne
  have hjn : j < n := by rw [hj]; exact Nat.mod_lt _ (by omega)
  obtain ⟨v, hv⟩ : ∃ v, v = w.alloc (.cells r.toArray 48) := ⟨_, rfl⟩
  have b3 : Blk v w.heap.size 48 r.toArray := by rw [hv]; exact Blk.new _ _ _
  have hbv : Below w.heap.size w v := by rw [hv]; exact below_alloc _ _
  have hz := hbv.size
  have HH := Lib.hid (h.below hbv)
  have HB3 := Lib.hid b3
  have HV := Lib.hid hv
  have HR := Lib.hid hr
  have HJ := Lib.hid hj
  clear hv h b3 hr hj
  go_enter Try.func32, Try.ntmps32
  go_wp2_with fail
  rw [← HV.out]
  refine Code.wp_mono (Q := Exit.then (fun a' w' => (∃ y4 y5 y6 y7 y8 y9 y10 y11 : Value, a' = { tmps := #[.pointer (some ⟨gq, 0, none⟩), .agg r.toArray, undef, .pointer (some ⟨w.heap.size, 0, none⟩), y4, y5, y6, y7, y8, y9, y10, y11, undef, undef, undef, undef, undef, undef, undef], defers := [] }) ∧ Rg w' gq gs n f k (rows.set j r) ∧ Below base v w' ∧ Fr [gq, gs] v w') (fun _ _ _ => False)) ?_ ?_
  rotate_left
  · refine (wpIn_wide (n := 4)).1 ?_
    refine wpIn_region_rel free_wide rfl 8 (fun W W' => Below W.heap.size W W') (fun W => Below v.heap.size v W)
      [Det (.pointer (some ⟨gq, 0, none⟩)), Det (.pointer (some ⟨gq, 0, none⟩)), Det (.pointer (some ⟨gq, 0, none⟩)), Det (.pointer (some ⟨gq, 2, none⟩)), Det (.int .i64 (k : Int)), Det (.pointer (some ⟨gs, 13 * j, none⟩)), Det (.agg r.toArray), Det (.pointer (some ⟨gs, 13 * j, none⟩)), Any]
      [[], [], [(1, some 5)], [(2, some 6)], [(3, some 7)], [(0, some 4), (4, some 8)], [], [(5, some 9)], [(7, some 11), (6, some 10)]]
      [[], [], [1], [1, 2], [1, 2, 3], [0, 1, 2, 3, 4], [], [0, 1, 2, 3, 4, 5, 6], [0, 1, 2, 3, 4, 5, 6, 7]]
      [(0, some 4), (1, some 5), (2, some 6), (3, some 7), (4, some 8), (5, some 9), (6, some 10), (7, some 11), (8, none)] (by kernel_rfl) (by kernel_rfl) (by kernel_rfl) (fun W W' h1 h2 => h1.trans (h2.mono h1.size)) ((Below.refl _ _).drew) ?_ ?_ ?_
    · exact (AllMono.cons Det.later (AllMono.cons Det.later (AllMono.cons Det.later (AllMono.cons Det.later (AllMono.cons Det.later (AllMono.cons Det.later (AllMono.cons Det.later (AllMono.cons Det.later (AllMono.cons Any.later AllMono.nil)))))))))
    · refine AllOb.cons ?_ (AllOb.cons ?_ (AllOb.cons ?_ (AllOb.cons ?_ (AllOb.cons ?_ (AllOb.cons ?_ (AllOb.cons ?_ (AllOb.cons ?_ (AllOb.nil))))))))
      · intro uF W hC' hU aF hF
        have hC : Below v.heap.size v W := hC'
        clear hC'
        simp only [puts] at hF
        subst hF
        go_wp2_with (fail)
        exact ⟨rfl, rfl, (Below.refl _ _), rfl⟩
      · intro uF W hC' hU aF hF
        have hC : Below v.heap.size v W := hC'
        clear hC'
        simp only [puts] at hF
        subst hF
        go_wp2_with (fail)
        exact ⟨rfl, rfl, (Below.refl _ _), rfl⟩
      · intro uF W hC' hU aF hF
        have hC : Below v.heap.size v W := hC'
        clear hC'
        have h5 : (Det (.pointer (some ⟨gq, 0, none⟩))) (uF 1) W := hU.1
        clear hU
        simp only [puts, Act.put, List.setIfInBounds_toArray, List.set_cons_zero, List.set_cons_succ] at hF
        generalize uF 1 = x5 at h5 hF
        obtain rfl : x5 = (.pointer (some ⟨gq, 0, none⟩)) := h5
        subst hF
        go_wp2_with (fail)
        exact ⟨rfl, rfl, (Below.refl _ _), rfl⟩
      · intro uF W hC' hU aF hF
        have hC : Below v.heap.size v W := hC'
        clear hC'
        have h6 : (Det (.pointer (some ⟨gq, 0, none⟩))) (uF 2) W := hU.1
        clear hU
        simp only [puts, Act.put, List.setIfInBounds_toArray, List.set_cons_zero, List.set_cons_succ] at hF
        generalize uF 2 = x6 at h6 hF
        obtain rfl : x6 = (.pointer (some ⟨gq, 0, none⟩)) := h6
        subst hF
        go_wp2_with (fail)
        exact ⟨rfl, rfl, (Below.refl _ _), rfl⟩
      · intro uF W hC' hU aF hF
        have hC : Below v.heap.size v W := hC'
        clear hC'
        have h7 : (Det (.pointer (some ⟨gq, 2, none⟩))) (uF 3) W := hU.1
        clear hU
        simp only [puts, Act.put, List.setIfInBounds_toArray, List.set_cons_zero, List.set_cons_succ] at hF
        generalize uF 3 = x7 at h7 hF
        obtain rfl : x7 = (.pointer (some ⟨gq, 2, none⟩)) := h7
        subst hF
        have d2 := (HH.out.below hC).c2
        go_wp2_with (fail)
        exact ⟨rfl, rfl, (Below.refl _ _), rfl⟩
      · intro uF W hC' hU aF hF
        have hC : Below v.heap.size v W := hC'
        clear hC'
        have h4 : (Det (.pointer (some ⟨gq, 0, none⟩))) (uF 0) W := hU.1
        have h8 : (Det (.int .i64 (k : Int))) (uF 4) W := hU.2.1
        clear hU
        simp only [puts, Act.put, List.setIfInBounds_toArray, List.set_cons_zero, List.set_cons_succ] at hF
        generalize uF 0 = x4 at h4 hF
        generalize uF 4 = x8 at h8 hF
        obtain rfl : x4 = (.pointer (some ⟨gq, 0, none⟩)) := h4
        obtain rfl : x8 = (.int .i64 (k : Int)) := h8
        subst hF
        go_wp2_with ((go_at_call 38; refine (at_c (HH.out.below hC) k (by omega) j HJ.out).mono ?_; rintro e W1 ⟨rfl, hb⟩))
        exact ⟨rfl, rfl, hb, rfl⟩
      · intro uF W hC' hU aF hF
        have hC : Below v.heap.size v W := hC'
        clear hC'
        simp only [puts] at hF
        subst hF
        go_wp2_with (((with_reducible show wpList _ _ _ (Oper.mk (some 10) (Op.load 48 _) _ _ _ _ :: _) _ _); refine wpList_load_whole (by rfl) 48 (.tmp 3) rfl w.heap.size rfl r.toArray aggW (by simpa using HR.out.1) _ (HB3.out.below hC HB3.out.lt) ?_))
        exact ⟨rfl, rfl, (Below.refl _ _), rfl⟩
      · intro uF W hC' hU aF hF
        have hC : Below v.heap.size v W := hC'
        clear hC'
        have h9 : (Det (.pointer (some ⟨gs, 13 * j, none⟩))) (uF 5) W := hU.1
        clear hU
        simp only [puts, Act.put, List.setIfInBounds_toArray, List.set_cons_zero, List.set_cons_succ] at hF
        generalize uF 5 = x9 at h9 hF
        obtain rfl : x9 = (.pointer (some ⟨gs, 13 * j, none⟩)) := h9
        subst hF
        go_wp2_with (fail)
        exact ⟨rfl, rfl, (Below.refl _ _), rfl⟩
    intro uF W5 hC' hU aF hF
    have hCW5 : Below v.heap.size v W5 := hC'
    clear hC'
    have h10 : (Det (.agg r.toArray)) (uF 6) W5 := hU.2.2.2.2.2.2.1
    have h11 : (Det (.pointer (some ⟨gs, 13 * j, none⟩))) (uF 7) W5 := hU.2.2.2.2.2.2.2.1
    clear hU
    simp only [List.take_succ_cons, List.take_zero, puts, Act.put, List.setIfInBounds_toArray, List.set_cons_zero, List.set_cons_succ] at hF
    generalize uF 0 = x4 at hF
    generalize uF 1 = x5 at hF
    generalize uF 2 = x6 at hF
    generalize uF 3 = x7 at hF
    generalize uF 4 = x8 at hF
    generalize uF 5 = x9 at hF
    generalize uF 6 = x10 at h10 hF
    generalize uF 7 = x11 at h11 hF
    obtain rfl : x10 = (.agg r.toArray) := h10
    obtain rfl : x11 = (.pointer (some ⟨gs, 13 * j, none⟩)) := h11
    subst hF
    simp only [List.drop_succ_cons, List.drop_zero]
    have HW := HH.out.below hCW5
    refine wpListIn_of free_wide (fun ⟨_, _, h⟩ => h) rfl ?_
    refine wpList_store_agg rfl 48 (.tmp 11) (.tmp 10) rfl gs (13 * j) rfl r rfl aggW HR.out.1 _ _ HW.bs (by rw [List.size_toArray, HW.row.len, HW.len, HR.out.1]; omega) HR.out.2 ?_
    intro W6 hb6 hg6 hs6
    rw [HW.row.spl (by rw [HW.len]; exact hjn) HR.out.1] at hb6
    exact wpList_nil ⟨⟨_, _, _, _, _, _, _, _, rfl⟩, ⟨HW.bq.grown hg6 (by simp; omega), hb6, by rw [List.length_set]; exact HW.len, HW.row.set j HR.out, HW.fl, HW.kl, HW.le8⟩, ((hCW5.mono (by omega)).grown hg6 (by have := hCW5.size; omega) (fun k hk => by cases hk; exact hbs)), (Fr.below hCW5).grown hg6 (.inl (by simp))⟩
  rintro e a' W6 h
  cases e with
  | normal =>
    obtain ⟨⟨y4, y5, y6, y7, y8, y9, y10, y11, rfl⟩, h6, hb6, hfr6⟩ := h
    have d2 := h6.c2
    have f2 := h6.bq.frozen 2
    have hk8 : (k : Int) < 8 := by omega
    have hk0 : (0 : Int) ≤ (k : Int) := by omega
    have e1 : Blk (W6.setCell ⟨gq, 2, none⟩ (.int .i64 ((k : Int) + 1))) gq 83 #[.slice (some ⟨gs, 0, none⟩) n n, .int .i64 (f : Int), .int .i64 ((k : Int) + 1)] := by simpa using h6.bq.set_ 2 (.int .i64 ((k : Int) + 1))
    have e2 : Rg (W6.setCell ⟨gq, 2, none⟩ (.int .i64 ((k : Int) + 1))) gq gs n f (k + 1) (rows.set j r) := ⟨e1, h6.bs.far (by show gs ≠ gq; omega) _, h6.len, h6.row, h6.fl, hk, h6.le8⟩
    have e3 : Below base w (W6.setCell ⟨gq, 2, none⟩ (.int .i64 ((k : Int) + 1))) := ((hbv.mono (by omega)).trans hb6).setCell (p := ⟨gq, 2, none⟩) hbq _
    have HFR := Lib.hid (show Fr [gq, gs] w (W6.setCell ⟨gq, 2, none⟩ (.int .i64 ((k : Int) + 1))) from ((Fr.below hbv).trans hfr6).grown (grownBy_setCell _ gq 2 _) (.inl (by simp)))
    have HE2 := Lib.hid e2
    have HE3 := Lib.hid e3
    clear e1 e2 e3 h6 hb6 hfr6
    go_wp2_with fail
    show bodyPost _ _ _ Exit.normal _ _
    go_end0
    exact ⟨⟨_, rfl⟩, HE2.out, HE3.out, HFR.out⟩
  | _ => exact h.elim

set_option maxHeartbeats 4000000 in
theorem pop_c {w : World} {base gq gs n f k : Nat} {rows : List (List Value)} (h : Rg w gq gs n f k rows) (hbq : base ≤ gq) (hbs : base ≤ gs) (hk : 0 < k) {r : List Value} (hr : rows[f]? = some r) (f' : Nat) (hf' : f' = (f + 1) % n) :
    Calls Try.prog 34 #[.pointer (some ⟨gq, 0, none⟩)] w fun e w' => e = .returned (.agg r.toArray) ∧ Rg w' gq gs n f' (k - 1) rows ∧ Below base w w' ∧ Fr [gq] w w' := by
  have hn8 := h.le8
  have hgq := h.bq.lt
  have hgs := h.bs.lt
  have hne := h.ne
  have hfn := h.fl
  have hkn := h.kl
  have hfn' : f' < n := by rw [hf']; exact Nat.mod_lt _ (by omega)
  have hr13 := h.row r (List.mem_of_getElem? hr)
  have hj0 : f = (f + 0) % n := by rw [Nat.add_zero, Nat.mod_eq_of_lt hfn]
  have htm : ((f : Int) + 1).tmod (n : Int) = (f' : Int) := by rw [Int.tmod_eq_emod_of_nonneg (by omega), hf']; rfl
  have hed : ((f : Int) + 1) % (n : Int) = (f' : Int) := by rw [hf']; rfl
  have hn0 : ¬ (n : Int) = 0 := by omega
  have hf8 : (f : Int) < 8 := by omega
  have hf0 : (0 : Int) ≤ (f : Int) := by omega
  have hk8 : (k : Int) ≤ 8 := by omega
  have hk0 : (0 : Int) < (k : Int) := by omega
  have hkc : ((k : Int) - 1) = ((k - 1 : Nat) : Int) := by omega
  obtain ⟨v, hv⟩ : ∃ v, v = w.alloc (.cells #[.int .i64 0, .int .i64 0, .int .i64 0, .int .i64 0, .int .i64 0, .int .i64 0, .slice none 0 0, .int .i64 0, .int .i64 0, .int .i64 0, .int .i64 0, .int .i64 0, .bool false] 48) := ⟨_, rfl⟩
  have b2 : Blk v w.heap.size 48 #[.int .i64 0, .int .i64 0, .int .i64 0, .int .i64 0, .int .i64 0, .int .i64 0, .slice none 0 0, .int .i64 0, .int .i64 0, .int .i64 0, .int .i64 0, .int .i64 0, .bool false] := by rw [hv]; exact Blk.new _ _ _
  have hbv : Below w.heap.size w v := by rw [hv]; exact below_alloc _ _
  have hz := hbv.size
  have HH := Lib.hid (h.below hbv)
  have HV := Lib.hid hv
  have HR := Lib.hid hr
  have HR13 := Lib.hid hr13
  have HJ0 := Lib.hid hj0
  have HKC := Lib.hid hkc
  clear hv h hr hr13 hj0 hf' hkc
  go_enter Try.func34, Try.ntmps34
  go_wp2_with (first
    | ((with_reducible show wpList _ _ _ (Oper.mk (some 2) (Op.alloc _) _ _ _ _ :: _) _ _); refine wpList_alloc_agg rfl 48 rfl #[.int .i64 0, .int .i64 0, .int .i64 0, .int .i64 0, .int .i64 0, .int .i64 0, .slice none 0 0, .int .i64 0, .int .i64 0, .int .i64 0, .int .i64 0, .int .i64 0, .bool false] zeroW ?_; rw [← HV.out])
    | (go_at_call 38; refine (at_c HH.out 0 (by omega) f HJ0.out).mono ?_; rintro e w2 ⟨rfl, hb2⟩; have h2 := HH.out.below hb2; have b22 := b2.below hb2 b2.lt; have hw2 := hbv.trans (hb2.mono hz); have hz2 := hw2.size; have bn := Blk.new w2 48 #[.int .i64 0, .int .i64 0, .int .i64 0, .int .i64 0, .int .i64 0, .int .i64 0, .slice none 0 0, .int .i64 0, .int .i64 0, .int .i64 0, .int .i64 0, .int .i64 0, .bool false]; have hgq2 := h2.bq.lt; have hgs2 := h2.bs.lt; have HH2 := Lib.hid h2; clear h2)
    | ((with_reducible show wpList _ _ _ (Oper.mk (some 7) (Op.load 48 _) _ _ _ _ :: _) _ _); refine wpList_load_agg rfl 48 (.tmp 6) rfl gs (13 * f) rfl r.toArray aggW (by simpa using HR13.out.1) (fun j v hv => by rw [HH2.out.bs.cell]; exact HH2.out.row.get HR.out (by simpa using hv)) ?_)
    | ((with_reducible show wpList _ _ _ (Oper.mk (some 3) (Op.alloc _) _ _ _ _ :: _) _ _); refine wpList_alloc_agg rfl 48 rfl #[.int .i64 0, .int .i64 0, .int .i64 0, .int .i64 0, .int .i64 0, .int .i64 0, .slice none 0 0, .int .i64 0, .int .i64 0, .int .i64 0, .int .i64 0, .int .i64 0, .bool false] zeroW ?_)
    | ((with_reducible show wpList _ _ _ (Oper.mk none (Op.store 48 (.tmp 3) _) _ _ _ _ :: _) _ _); refine wpList_store_whole rfl 48 (.tmp 3) (.tmp 7) rfl w2.heap.size rfl r rfl aggW HR13.out.1 _ _ bn rfl HR13.out.2 ?_; intro w3 b3 g3 s3; have h23 : Below w2.heap.size w2 w3 := (below_alloc _ _).grown g3 (by simp) (fun k hk => by cases hk; exact Nat.le_refl _); have hw3 := hw2.trans (h23.mono hz2); have hz3 := hw3.size; have HH3 := Lib.hid (HH2.out.below h23); have b23 := b22.below h23 b22.lt; clear g3 s3))
  have hgq3 := HH3.out.bq.lt
  have HB3 := Lib.hid b3
  have HB2 := Lib.hid b23
  have hd23 : w.heap.size < w2.heap.size := by have := b22.lt; omega
  clear b3 b23 b22 b2 bn
  refine Code.wp_mono (Q := Exit.then (fun a' V6 => (∃ y8 y9 y10 y11 y12 y13 y14 y15 y16 y17 y18 y19 y20 y21 : Value, a' = { tmps := #[.pointer (some ⟨gq, 0, none⟩), undef, .pointer (some ⟨w.heap.size, 0, none⟩), .pointer (some ⟨w2.heap.size, 0, none⟩), .pointer (some ⟨gq, 0, none⟩), .pointer (some ⟨gs, 13 * f, none⟩), .pointer (some ⟨gs, 13 * f, none⟩), .agg r.toArray, y8, y9, y10, y11, y12, y13, y14, y15, y16, y17, y18, y19, y20, y21, undef, undef, undef, undef, undef, undef, undef, undef], defers := [] }) ∧ Rg V6 gq gs n f' k rows ∧ Below base w V6 ∧ Fr [gq] w V6 ∧ Blk V6 w2.heap.size 48 r.toArray ∧ Blk V6 w.heap.size 48 #[.int .i64 0, .int .i64 0, .int .i64 0, .int .i64 0, .int .i64 0, .int .i64 0, .slice none 0 0, .int .i64 0, .int .i64 0, .int .i64 0, .int .i64 0, .int .i64 0, .bool false]) (fun _ _ _ => False)) ?_ ?_
  rotate_left
  · refine (wpIn_wide (n := 4)).1 ?_
    refine wpIn_region_rel free_wide rfl 14 (fun W W' => Below W.heap.size W W') (fun W => Below w3.heap.size w3 W)
      [Det (.pointer (some ⟨gq, 0, none⟩)), Det (.pointer (some ⟨gq, 0, none⟩)), Det (.pointer (some ⟨gq, 0, none⟩)), Det (.pointer (some ⟨gq, 1, none⟩)), Det (.int .i64 (f : Int)), Det (.int .i64 ((f : Int) + 1)), Det (.pointer (some ⟨gq, 0, none⟩)), Det (.pointer (some ⟨gq, 0, none⟩)), Det (.pointer (some ⟨gq, 0, none⟩)), Det (.slice (some ⟨gs, 0, none⟩) n n), Det (.int .i64 (n : Int)), Det (.int .i64 (f' : Int)), Det (.pointer (some ⟨gq, 0, none⟩)), Det (.pointer (some ⟨gq, 1, none⟩)), Any]
      [[], [], [(1, some 9)], [(2, some 10)], [(3, some 11)], [(4, some 12)], [], [(6, some 14)], [(7, some 15)], [(8, some 16)], [(9, some 17)], [(5, some 13), (10, some 18)], [(0, some 8)], [(12, some 20)], [(13, some 21), (11, some 19)]]
      [[], [], [1], [1, 2], [1, 2, 3], [1, 2, 3, 4], [], [6], [6, 7], [6, 7, 8], [6, 7, 8, 9], [1, 2, 3, 4, 5, 6, 7, 8, 9, 10], [0, 1, 2, 3, 4, 5, 6, 7, 8, 9, 10, 11], [0, 1, 2, 3, 4, 5, 6, 7, 8, 9, 10, 11, 12], [0, 1, 2, 3, 4, 5, 6, 7, 8, 9, 10, 11, 12, 13]]
      [(0, some 8), (1, some 9), (2, some 10), (3, some 11), (4, some 12), (5, some 13), (6, some 14), (7, some 15), (8, some 16), (9, some 17), (10, some 18), (11, some 19), (12, some 20), (13, some 21), (14, none)] (by kernel_rfl) (by kernel_rfl) (by kernel_rfl) (fun W W' h1 h2 => h1.trans (h2.mono h1.size)) ((Below.refl _ _).drew) ?_ ?_ ?_
    · exact (AllMono.cons Det.later (AllMono.cons Det.later (AllMono.cons Det.later (AllMono.cons Det.later (AllMono.cons Det.later (AllMono.cons Det.later (AllMono.cons Det.later (AllMono.cons Det.later (AllMono.cons Det.later (AllMono.cons Det.later (AllMono.cons Det.later (AllMono.cons Det.later (AllMono.cons Det.later (AllMono.cons Det.later (AllMono.cons Any.later AllMono.nil)))))))))))))))
    · refine AllOb.cons ?_ (AllOb.cons ?_ (AllOb.cons ?_ (AllOb.cons ?_ (AllOb.cons ?_ (AllOb.cons ?_ (AllOb.cons ?_ (AllOb.cons ?_ (AllOb.cons ?_ (AllOb.cons ?_ (AllOb.cons ?_ (AllOb.cons ?_ (AllOb.cons ?_ (AllOb.cons ?_ (AllOb.nil))))))))))))))
      · intro uF W hC' hU aF hF
        have hC : Below w3.heap.size w3 W := hC'
        clear hC'
        simp only [puts] at hF
        subst hF
        go_wp2_with (fail)
        exact ⟨rfl, rfl, (Below.refl _ _), rfl⟩
      · intro uF W hC' hU aF hF
        have hC : Below w3.heap.size w3 W := hC'
        clear hC'
        simp only [puts] at hF
        subst hF
        go_wp2_with (fail)
        exact ⟨rfl, rfl, (Below.refl _ _), rfl⟩
      · intro uF W hC' hU aF hF
        have hC : Below w3.heap.size w3 W := hC'
        clear hC'
        have h9 : (Det (.pointer (some ⟨gq, 0, none⟩))) (uF 1) W := hU.1
        clear hU
        simp only [puts, Act.put, List.setIfInBounds_toArray, List.set_cons_zero, List.set_cons_succ] at hF
        generalize uF 1 = x9 at h9 hF
        obtain rfl : x9 = (.pointer (some ⟨gq, 0, none⟩)) := h9
        subst hF
        go_wp2_with (fail)
        exact ⟨rfl, rfl, (Below.refl _ _), rfl⟩
      · intro uF W hC' hU aF hF
        have hC : Below w3.heap.size w3 W := hC'
        clear hC'
        have h10 : (Det (.pointer (some ⟨gq, 0, none⟩))) (uF 2) W := hU.1
        clear hU
        simp only [puts, Act.put, List.setIfInBounds_toArray, List.set_cons_zero, List.set_cons_succ] at hF
        generalize uF 2 = x10 at h10 hF
        obtain rfl : x10 = (.pointer (some ⟨gq, 0, none⟩)) := h10
        subst hF
        go_wp2_with (fail)
        exact ⟨rfl, rfl, (Below.refl _ _), rfl⟩
      · intro uF W hC' hU aF hF
        have hC : Below w3.heap.size w3 W := hC'
        clear hC'
        have h11 : (Det (.pointer (some ⟨gq, 1, none⟩))) (uF 3) W := hU.1
        clear hU
        simp only [puts, Act.put, List.setIfInBounds_toArray, List.set_cons_zero, List.set_cons_succ] at hF
        generalize uF 3 = x11 at h11 hF
        obtain rfl : x11 = (.pointer (some ⟨gq, 1, none⟩)) := h11
        subst hF
        have d1 := (HH3.out.below hC).c1
        go_wp2_with (fail)
        exact ⟨rfl, rfl, (Below.refl _ _), rfl⟩
      · intro uF W hC' hU aF hF
        have hC : Below w3.heap.size w3 W := hC'
        clear hC'
        have h12 : (Det (.int .i64 (f : Int))) (uF 4) W := hU.1
        clear hU
        simp only [puts, Act.put, List.setIfInBounds_toArray, List.set_cons_zero, List.set_cons_succ] at hF
        generalize uF 4 = x12 at h12 hF
        obtain rfl : x12 = (.int .i64 (f : Int)) := h12
        subst hF
        go_wp2_with (fail)
        exact ⟨rfl, rfl, (Below.refl _ _), rfl⟩
      · intro uF W hC' hU aF hF
        have hC : Below w3.heap.size w3 W := hC'
        clear hC'
        simp only [puts] at hF
        subst hF
        go_wp2_with (fail)
        exact ⟨rfl, rfl, (Below.refl _ _), rfl⟩
      · intro uF W hC' hU aF hF
        have hC : Below w3.heap.size w3 W := hC'
        clear hC'
        have h14 : (Det (.pointer (some ⟨gq, 0, none⟩))) (uF 6) W := hU.1
        clear hU
        simp only [puts, Act.put, List.setIfInBounds_toArray, List.set_cons_zero, List.set_cons_succ] at hF
        generalize uF 6 = x14 at h14 hF
        obtain rfl : x14 = (.pointer (some ⟨gq, 0, none⟩)) := h14
        subst hF
        go_wp2_with (fail)
        exact ⟨rfl, rfl, (Below.refl _ _), rfl⟩
      · intro uF W hC' hU aF hF
        have hC : Below w3.heap.size w3 W := hC'
        clear hC'
        have h15 : (Det (.pointer (some ⟨gq, 0, none⟩))) (uF 7) W := hU.1
        clear hU
        simp only [puts, Act.put, List.setIfInBounds_toArray, List.set_cons_zero, List.set_cons_succ] at hF
        generalize uF 7 = x15 at h15 hF
        obtain rfl : x15 = (.pointer (some ⟨gq, 0, none⟩)) := h15
        subst hF
        go_wp2_with (fail)
        exact ⟨rfl, rfl, (Below.refl _ _), rfl⟩
      · intro uF W hC' hU aF hF
        have hC : Below w3.heap.size w3 W := hC'
        clear hC'
        have h16 : (Det (.pointer (some ⟨gq, 0, none⟩))) (uF 8) W := hU.1
        clear hU
        simp only [puts, Act.put, List.setIfInBounds_toArray, List.set_cons_zero, List.set_cons_succ] at hF
        generalize uF 8 = x16 at h16 hF
        obtain rfl : x16 = (.pointer (some ⟨gq, 0, none⟩)) := h16
        subst hF
        have d0 := (HH3.out.below hC).c0
        go_wp2_with (fail)
        exact ⟨rfl, rfl, (Below.refl _ _), rfl⟩
      · intro uF W hC' hU aF hF
        have hC : Below w3.heap.size w3 W := hC'
        clear hC'
        have h17 : (Det (.slice (some ⟨gs, 0, none⟩) n n)) (uF 9) W := hU.1
        clear hU
        simp only [puts, Act.put, List.setIfInBounds_toArray, List.set_cons_zero, List.set_cons_succ] at hF
        generalize uF 9 = x17 at h17 hF
        obtain rfl : x17 = (.slice (some ⟨gs, 0, none⟩) n n) := h17
        subst hF
        go_wp2_with (fail)
        exact ⟨rfl, rfl, (Below.refl _ _), rfl⟩
      · intro uF W hC' hU aF hF
        have hC : Below w3.heap.size w3 W := hC'
        clear hC'
        have h13 : (Det (.int .i64 ((f : Int) + 1))) (uF 5) W := hU.1
        have h18 : (Det (.int .i64 (n : Int))) (uF 10) W := hU.2.1
        clear hU
        simp only [puts, Act.put, List.setIfInBounds_toArray, List.set_cons_zero, List.set_cons_succ] at hF
        generalize uF 5 = x13 at h13 hF
        generalize uF 10 = x18 at h18 hF
        obtain rfl : x13 = (.int .i64 ((f : Int) + 1)) := h13
        obtain rfl : x18 = (.int .i64 (n : Int)) := h18
        subst hF
        go_wp2_with (fail)
        exact ⟨rfl, rfl, (Below.refl _ _), rfl⟩
      · intro uF W hC' hU aF hF
        have hC : Below w3.heap.size w3 W := hC'
        clear hC'
        have h8 : (Det (.pointer (some ⟨gq, 0, none⟩))) (uF 0) W := hU.1
        clear hU
        simp only [puts, Act.put, List.setIfInBounds_toArray, List.set_cons_zero, List.set_cons_succ] at hF
        generalize uF 0 = x8 at h8 hF
        obtain rfl : x8 = (.pointer (some ⟨gq, 0, none⟩)) := h8
        subst hF
        go_wp2_with (fail)
        exact ⟨rfl, rfl, (Below.refl _ _), rfl⟩
      · intro uF W hC' hU aF hF
        have hC : Below w3.heap.size w3 W := hC'
        clear hC'
        have h20 : (Det (.pointer (some ⟨gq, 0, none⟩))) (uF 12) W := hU.1
        clear hU
        simp only [puts, Act.put, List.setIfInBounds_toArray, List.set_cons_zero, List.set_cons_succ] at hF
        generalize uF 12 = x20 at h20 hF
        obtain rfl : x20 = (.pointer (some ⟨gq, 0, none⟩)) := h20
        subst hF
        go_wp2_with (fail)
        exact ⟨rfl, rfl, (Below.refl _ _), rfl⟩
    intro uF W5 hC' hU aF hF
    have hCW5 : Below w3.heap.size w3 W5 := hC'
    clear hC'
    have h19 : (Det (.int .i64 (f' : Int))) (uF 11) W5 := hU.2.2.2.2.2.2.2.2.2.2.2.1
    have h21 : (Det (.pointer (some ⟨gq, 1, none⟩))) (uF 13) W5 := hU.2.2.2.2.2.2.2.2.2.2.2.2.2.1
    clear hU
    simp only [List.take_succ_cons, List.take_zero, puts, Act.put, List.setIfInBounds_toArray, List.set_cons_zero, List.set_cons_succ] at hF
    generalize uF 0 = x8 at hF
    generalize uF 1 = x9 at hF
    generalize uF 2 = x10 at hF
    generalize uF 3 = x11 at hF
    generalize uF 4 = x12 at hF
    generalize uF 5 = x13 at hF
    generalize uF 6 = x14 at hF
    generalize uF 7 = x15 at hF
    generalize uF 8 = x16 at hF
    generalize uF 9 = x17 at hF
    generalize uF 10 = x18 at hF
    generalize uF 11 = x19 at h19 hF
    generalize uF 12 = x20 at hF
    generalize uF 13 = x21 at h21 hF
    obtain rfl : x19 = (.int .i64 (f' : Int)) := h19
    obtain rfl : x21 = (.pointer (some ⟨gq, 1, none⟩)) := h21
    subst hF
    simp only [List.drop_succ_cons, List.drop_zero]
    have HW := HH3.out.below hCW5
    have d15 : W5.cell? ⟨gq, 1, none⟩ = some (.int .i64 (f : Int)) := HW.c1
    have f15 := HW.bq.frozen 1
    refine wpListIn_of free_wide (fun ⟨_, _, h⟩ => h) rfl ?_
    go_wp2_with fail
    obtain ⟨V6, hV6⟩ : ∃ V6, V6 = W5.setCell ⟨gq, 1, none⟩ (.int .i64 (f' : Int)) := ⟨_, rfl⟩
    have h6 : Rg V6 gq gs n f' k rows := by
      rw [hV6]
      exact ⟨by simpa using HW.bq.set_ 1 (.int .i64 (f' : Int)), HW.bs.far (by show gs ≠ gq; omega) _, HW.len, HW.row, hfn', HW.kl, HW.le8⟩
    have hz5 := hCW5.size
    have hb5 : Below base w V6 := by rw [hV6]; exact ((hw3.mono (by omega)).trans (hCW5.mono (by omega))).setCell (p := ⟨gq, 1, none⟩) hbq _
    have b36 : Blk V6 w2.heap.size 48 r.toArray := by rw [hV6]; exact (HB3.out.below hCW5 HB3.out.lt).far (by show w2.heap.size ≠ gq; omega) _
    have b26 : Blk V6 w.heap.size 48 #[.int .i64 0, .int .i64 0, .int .i64 0, .int .i64 0, .int .i64 0, .int .i64 0, .slice none 0 0, .int .i64 0, .int .i64 0, .int .i64 0, .int .i64 0, .int .i64 0, .bool false] := by rw [hV6]; exact (HB2.out.below hCW5 HB2.out.lt).far (by show w.heap.size ≠ gq; omega) _
    have hfr : Fr [gq] w V6 := by rw [hV6]; exact ((Fr.below hw3).trans (Fr.below hCW5)).grown (grownBy_setCell _ gq 1 _) (.inl (by simp))
    rw [← hV6]
    exact ⟨⟨_, _, _, _, _, _, _, _, _, _, _, _, _, _, rfl⟩, h6, hb5, hfr, b36, b26⟩
  rintro e a' V6 h
  cases e with
  | normal =>
    obtain ⟨⟨y8, y9, y10, y11, y12, y13, y14, y15, y16, y17, y18, y19, y20, y21, rfl⟩, h6, hb5, hfr, b36, b26⟩ := h
    have d26 : V6.cell? ⟨gq, 2, none⟩ = some (.int .i64 (k : Int)) := h6.c2
    have f26 := h6.bq.frozen 2
    have H6 := Lib.hid h6
    have HB5 := Lib.hid hb5
    have HFR := Lib.hid hfr
    have HB36 := Lib.hid b36
    have HB26 := Lib.hid b26
    clear h6 hb5 b36 b26 hfr
    go_wp2_with (first
      | ((with_reducible show wpList _ _ _ (Oper.mk (some 29) (Op.load 48 _) _ _ _ _ :: _) _ _); obtain ⟨V7, hV7⟩ : ∃ V7, V7 = V6.setCell ⟨gq, 2, none⟩ (.int .i64 ((k : Int) - 1)) := ⟨_, rfl⟩; rw [← hV7]; have h7 : Rg V7 gq gs n f' (k - 1) rows := (by rw [hV7]; exact ⟨by rw [← HKC.out]; simpa using H6.out.bq.set_ 2 (.int .i64 ((k : Int) - 1)), H6.out.bs.far (by show gs ≠ gq; omega) _, H6.out.len, H6.out.row, hfn', by omega, H6.out.le8⟩); have hb7 : Below base w V7 := (by rw [hV7]; exact HB5.out.setCell (p := ⟨gq, 2, none⟩) hbq _); have b37 : Blk V7 w2.heap.size 48 r.toArray := (by rw [hV7]; exact HB36.out.far (by show w2.heap.size ≠ gq; omega) _); have b27 : Blk V7 w.heap.size 48 #[.int .i64 0, .int .i64 0, .int .i64 0, .int .i64 0, .int .i64 0, .int .i64 0, .slice none 0 0, .int .i64 0, .int .i64 0, .int .i64 0, .int .i64 0, .int .i64 0, .bool false] := (by rw [hV7]; exact HB26.out.far (by show w.heap.size ≠ gq; omega) _); have HF7 := Lib.hid (show Fr [gq] w V7 by rw [hV7]; exact HFR.out.grown (grownBy_setCell _ gq 2 _) (.inl (by simp))); clear hV7; refine wpList_load_whole rfl 48 (.tmp 3) rfl w2.heap.size rfl r.toArray aggW (by simpa using HR13.out.1) _ b37 ?_)
      | ((with_reducible show wpList _ _ _ (Oper.mk none (Op.store 48 (.tmp 2) _) _ _ _ _ :: _) _ _); refine wpList_store_whole rfl 48 (.tmp 2) (.tmp 29) rfl w.heap.size rfl r rfl aggW HR13.out.1 _ _ b27 rfl HR13.out.2 ?_; intro w8 b8 g8 s8))
    refine bodyPost_ret (results_cell_one rfl _ w.heap.size _ r.toArray aggW (by simpa using HR13.out.1) rfl b8) rfl ⟨rfl, ?_, ?_, HF7.out.grown g8 (.inr (Nat.le_refl _))⟩
    · exact ⟨h7.bq.grown g8 (by simp; omega), h7.bs.grown g8 (by simp; omega), h7.len, h7.row, h7.fl, h7.kl, h7.le8⟩
    · exact hb7.grown g8 (by have := hb7.size; omega) (fun k hk => by cases hk; omega)
  | _ => exact h.elim

theorem clone_nil (w : World) : Calls Try.prog 29 #[.slice none 0 0] w fun e w' => e = .returned (.slice none 0 0) ∧ w = w' := by
  have hq : ∀ W, (binOp .eql 22 (.slice none 0 0) (.slice none 0 0)).run Try.prog W = .ok (.bool true) W := fun W => by kernel_rfl
  go_enter Try.func29, Try.ntmps29
  go_wp2_with fail
  go_ret
  exact ⟨rfl, rfl⟩

set_option maxHeartbeats 4000000 in
theorem own_c (i n : Int) (w : World) :
    Calls Try.prog 33 #[.agg (wrow i n).toArray] w fun e w' => e = .returned (.agg (wrow i n).toArray) ∧ Below w.heap.size w w' := by
  show Calls _ _ #[.agg #[.int .i64 i, .int .i64 n, .int .i64 0, .int .i64 0, .int .i64 0, .int .i64 0, .slice none 0 0, .int .i64 0, .int .i64 0, .int .i64 0, .int .i64 0, .int .i64 0, .bool false]] _ fun e w' => e = .returned (.agg #[.int .i64 i, .int .i64 n, .int .i64 0, .int .i64 0, .int .i64 0, .int .i64 0, .slice none 0 0, .int .i64 0, .int .i64 0, .int .i64 0, .int .i64 0, .int .i64 0, .bool false]) ∧ _
  obtain ⟨v, hv⟩ : ∃ v, v = (w.alloc (.cells #[.int .i64 i, .int .i64 n, .int .i64 0, .int .i64 0, .int .i64 0, .int .i64 0, .slice none 0 0, .int .i64 0, .int .i64 0, .int .i64 0, .int .i64 0, .int .i64 0, .bool false] 48)).alloc (.cells #[.int .i64 0, .int .i64 0, .int .i64 0, .int .i64 0, .int .i64 0, .int .i64 0, .slice none 0 0, .int .i64 0, .int .i64 0, .int .i64 0, .int .i64 0, .int .i64 0, .bool false] 48) := ⟨_, rfl⟩
  have b1 : Blk v w.heap.size 48 #[.int .i64 i, .int .i64 n, .int .i64 0, .int .i64 0, .int .i64 0, .int .i64 0, .slice none 0 0, .int .i64 0, .int .i64 0, .int .i64 0, .int .i64 0, .int .i64 0, .bool false] := by rw [hv]; exact (Blk.new _ _ _).alloc _
  have b2 : Blk v (w.heap.size + 1) 48 #[.int .i64 0, .int .i64 0, .int .i64 0, .int .i64 0, .int .i64 0, .int .i64 0, .slice none 0 0, .int .i64 0, .int .i64 0, .int .i64 0, .int .i64 0, .int .i64 0, .bool false] := by
    have := Blk.new (w.alloc (.cells #[.int .i64 i, .int .i64 n, .int .i64 0, .int .i64 0, .int .i64 0, .int .i64 0, .slice none 0 0, .int .i64 0, .int .i64 0, .int .i64 0, .int .i64 0, .int .i64 0, .bool false] 48)) 48 #[.int .i64 0, .int .i64 0, .int .i64 0, .int .i64 0, .int .i64 0, .int .i64 0, .slice none 0 0, .int .i64 0, .int .i64 0, .int .i64 0, .int .i64 0, .int .i64 0, .bool false]
    rw [World.size_alloc] at this
    rw [hv]; exact this
  have hbv : Below w.heap.size w v := by rw [hv]; exact ((Below.refl _ _).alloc (Nat.le_refl _) _).alloc (by simp) _
  have hz := hbv.size
  have d6 : v.cell? ⟨w.heap.size, 6, none⟩ = some (.slice none 0 0) := by rw [b1.cell]; rfl
  have f6 := b1.frozen 6
  obtain ⟨V5, hV5⟩ : ∃ V5, V5 = v.setCell ⟨w.heap.size, 6, none⟩ (.slice none 0 0) := ⟨_, rfl⟩
  have b15 : Blk V5 w.heap.size 48 #[.int .i64 i, .int .i64 n, .int .i64 0, .int .i64 0, .int .i64 0, .int .i64 0, .slice none 0 0, .int .i64 0, .int .i64 0, .int .i64 0, .int .i64 0, .int .i64 0, .bool false] := by rw [hV5]; simpa using b1.set_ 6 (.slice none 0 0)
  have b25 : Blk V5 (w.heap.size + 1) 48 #[.int .i64 0, .int .i64 0, .int .i64 0, .int .i64 0, .int .i64 0, .int .i64 0, .slice none 0 0, .int .i64 0, .int .i64 0, .int .i64 0, .int .i64 0, .int .i64 0, .bool false] := by rw [hV5]; exact b2.far (by show w.heap.size + 1 ≠ w.heap.size; omega) _
  have hb5 : Below w.heap.size w V5 := by rw [hV5]; exact hbv.setCell (p := ⟨w.heap.size, 6, none⟩) (Nat.le_refl _) _
  have HV := Lib.hid hv
  have HV5 := Lib.hid hV5
  clear hv hV5 b1 b2
  go_enter Try.func33, Try.ntmps33
  go_wp2_with (first
    | ((with_reducible show wpList _ _ _ (Oper.mk (some 2) (Op.alloc _) _ _ _ _ :: _) _ _); refine wpList_alloc_agg rfl 48 rfl #[.int .i64 0, .int .i64 0, .int .i64 0, .int .i64 0, .int .i64 0, .int .i64 0, .slice none 0 0, .int .i64 0, .int .i64 0, .int .i64 0, .int .i64 0, .int .i64 0, .bool false] zeroW ?_; rw [← HV.out])
    | (go_at_call 29; refine (clone_nil v).mono ?_; rintro e w2 ⟨rfl, rfl⟩)
    | ((with_reducible show wpList _ _ _ (Oper.mk (some 9) (Op.load 48 _) _ _ _ _ :: _) _ _); rw [← HV5.out]; refine wpList_load_whole rfl 48 (.tmp 1) rfl w.heap.size rfl #[.int .i64 i, .int .i64 n, .int .i64 0, .int .i64 0, .int .i64 0, .int .i64 0, .slice none 0 0, .int .i64 0, .int .i64 0, .int .i64 0, .int .i64 0, .int .i64 0, .bool false] aggW rfl _ b15 ?_)
    | ((with_reducible show wpList _ _ _ (Oper.mk none (Op.store 48 (.tmp 2) _) _ _ _ _ :: _) _ _); refine wpList_store_whole rfl 48 (.tmp 2) (.tmp 9) rfl (w.heap.size + 1) rfl [.int .i64 i, .int .i64 n, .int .i64 0, .int .i64 0, .int .i64 0, .int .i64 0, .slice none 0 0, .int .i64 0, .int .i64 0, .int .i64 0, .int .i64 0, .int .i64 0, .bool false] rfl aggW rfl _ _ b25 rfl (by simp [Value.oneCell']) ?_; intro w8 b8 g8 s8))
  refine bodyPost_ret (results_cell_one rfl _ (w.heap.size + 1) _ #[.int .i64 i, .int .i64 n, .int .i64 0, .int .i64 0, .int .i64 0, .int .i64 0, .slice none 0 0, .int .i64 0, .int .i64 0, .int .i64 0, .int .i64 0, .int .i64 0, .bool false] aggW rfl rfl b8) rfl ⟨rfl, ?_⟩
  exact hb5.grown g8 hb5.size (fun k hk => by cases hk; omega)

/-! ## A queue and what waits in it -/
/-- The queue at gq holds at most n that wait; these wait. -/
def Qs (w : World) (base gq n : Nat) (xs : List (List Value)) : Prop := ∃ gs f k rows, Rg w gq gs n f k rows ∧ base ≤ gq ∧ base ≤ gs ∧ xs = view n f k rows
theorem Qs.below {w w' : World} {base gq n : Nat} {xs : List (List Value)} (h : Qs w base gq n xs) (hb : Below w.heap.size w w') : Qs w' base gq n xs :=
  let ⟨gs, f, k, rows, h, h1, h2, h3⟩ := h
  ⟨gs, f, k, rows, h.below hb, h1, h2, h3⟩
theorem Qs.le {w : World} {base gq n : Nat} {xs : List (List Value)} (h : Qs w base gq n xs) : xs.length ≤ n ∧ n ≤ 8 ∧ base < w.heap.size := by
  obtain ⟨gs, f, k, rows, h, h1, h2, rfl⟩ := h
  rw [len_view]
  have := h.bq.lt
  exact ⟨h.kl, h.le8, by omega⟩

theorem len_c {w : World} {base gq n : Nat} {xs : List (List Value)} (h : Qs w base gq n xs) :
    Calls Try.prog 18 #[.pointer (some ⟨gq, 0, none⟩)] w fun e w' => e = .returned (.int .i64 (xs.length : Int)) ∧ w = w' := by
  obtain ⟨gs, f, k, rows, h, h1, h2, rfl⟩ := h
  rw [len_view]
  have d2 := h.c2
  go_enter Try.func18, Try.ntmps18
  go_wp2_with fail
  go_ret
  exact ⟨rfl, rfl⟩
theorem len_nil (w : World) : Calls Try.prog 18 #[.pointer none] w fun e w' => e = .returned (.int .i64 0) ∧ w = w' := by
  go_enter Try.func18, Try.ntmps18
  go_wp2_with fail
  go_ret
  exact ⟨rfl, rfl⟩

set_option maxHeartbeats 4000000 in
theorem take_no {w : World} (p : Value) (hp : Calls Try.prog 18 #[p] (w.alloc (.cells #[.int .i64 0, .int .i64 0, .int .i64 0, .int .i64 0, .int .i64 0, .int .i64 0, .slice none 0 0, .int .i64 0, .int .i64 0, .int .i64 0, .int .i64 0, .int .i64 0, .bool false] 48)) fun e w' => e = .returned (.int .i64 0) ∧ w.alloc (.cells #[.int .i64 0, .int .i64 0, .int .i64 0, .int .i64 0, .int .i64 0, .int .i64 0, .slice none 0 0, .int .i64 0, .int .i64 0, .int .i64 0, .int .i64 0, .int .i64 0, .bool false] 48) = w') :
    Calls Try.prog 17 #[p] w fun e w' => e = .returned (.tuple #[.agg #[.int .i64 0, .int .i64 0, .int .i64 0, .int .i64 0, .int .i64 0, .int .i64 0, .slice none 0 0, .int .i64 0, .int .i64 0, .int .i64 0, .int .i64 0, .int .i64 0, .bool false], .bool false]) ∧ Below w.heap.size w w' := by
  have b2 := Blk.new w 48 #[.int .i64 0, .int .i64 0, .int .i64 0, .int .i64 0, .int .i64 0, .int .i64 0, .slice none 0 0, .int .i64 0, .int .i64 0, .int .i64 0, .int .i64 0, .int .i64 0, .bool false]
  have hb := below_alloc w (.cells #[.int .i64 0, .int .i64 0, .int .i64 0, .int .i64 0, .int .i64 0, .int .i64 0, .slice none 0 0, .int .i64 0, .int .i64 0, .int .i64 0, .int .i64 0, .int .i64 0, .bool false] 48)
  go_enter Try.func17, Try.ntmps17
  go_wp2_with (first
    | ((with_reducible show wpList _ _ _ (Oper.mk (some 2) (Op.alloc _) _ _ _ _ :: _) _ _); refine wpList_alloc_agg rfl 48 rfl #[.int .i64 0, .int .i64 0, .int .i64 0, .int .i64 0, .int .i64 0, .int .i64 0, .slice none 0 0, .int .i64 0, .int .i64 0, .int .i64 0, .int .i64 0, .int .i64 0, .bool false] zeroW ?_)
    | (go_at_call 18; refine hp.mono ?_; rintro e w2 ⟨rfl, rfl⟩)
    | ((with_reducible show wpList _ _ _ (Oper.mk (some 7) (Op.build _ _) _ _ _ _ :: _) _ _); refine wpList_build rfl 48 _ rfl #[] (by simp only [List.map_toArray, List.map_nil]) _ (buildWZ _) ?_)
    | ((with_reducible show wpList _ _ _ (Oper.mk none (Op.store 48 (.tmp 2) _) _ _ _ _ :: _) _ _); refine wpList_store_whole rfl 48 (.tmp 2) (.tmp 7) rfl w.heap.size rfl [.int .i64 0, .int .i64 0, .int .i64 0, .int .i64 0, .int .i64 0, .int .i64 0, .slice none 0 0, .int .i64 0, .int .i64 0, .int .i64 0, .int .i64 0, .int .i64 0, .bool false] rfl aggW rfl _ _ b2 rfl (by simp [Value.oneCell']) ?_; intro w8 b8 g8 s8))
  refine bodyPost_ret (results_cell_tmp rfl _ w.heap.size _ #[.int .i64 0, .int .i64 0, .int .i64 0, .int .i64 0, .int .i64 0, .int .i64 0, .slice none 0 0, .int .i64 0, .int .i64 0, .int .i64 0, .int .i64 0, .int .i64 0, .bool false] aggW rfl rfl b8) rfl ⟨rfl, ?_⟩
  exact hb.grown g8 (by simp) (fun k hk => by cases hk; exact Nat.le_refl _)

set_option maxHeartbeats 4000000 in
theorem take_c {w : World} {base gq n : Nat} {r : List Value} {xs : List (List Value)} (h : Qs w base gq n (r :: xs)) :
    Calls Try.prog 17 #[.pointer (some ⟨gq, 0, none⟩)] w fun e w' => e = .returned (.tuple #[.agg r.toArray, .bool true]) ∧ Qs w' base gq n xs ∧ Below base w w' ∧ Ty w w' := by
  have hll := h.le.1
  have hn8 := h.le.2.1
  simp only [List.length_cons] at hll
  have h0 := h
  obtain ⟨gs, f, k, rows, hR, hbq, hbs, hvw⟩ := h
  obtain ⟨v, hv⟩ : ∃ v, v = w.alloc (.cells #[.int .i64 0, .int .i64 0, .int .i64 0, .int .i64 0, .int .i64 0, .int .i64 0, .slice none 0 0, .int .i64 0, .int .i64 0, .int .i64 0, .int .i64 0, .int .i64 0, .bool false] 48) := ⟨_, rfl⟩
  have b2 : Blk v w.heap.size 48 #[.int .i64 0, .int .i64 0, .int .i64 0, .int .i64 0, .int .i64 0, .int .i64 0, .slice none 0 0, .int .i64 0, .int .i64 0, .int .i64 0, .int .i64 0, .int .i64 0, .bool false] := by rw [hv]; exact Blk.new _ _ _
  have hbv : Below w.heap.size w v := by rw [hv]; exact below_alloc _ _
  have hz := hbv.size
  have hk : k = xs.length + 1 := by rw [← len_view n f k rows, ← hvw]; rfl
  obtain ⟨r', hr'⟩ : ∃ r', rows[f]? = some r' := ⟨rows[f]'(by rw [hR.len]; exact hR.fl), List.getElem?_eq_getElem _⟩
  have hr13 := hR.row r' (List.mem_of_getElem? hr')
  have hpop := view_pop hR.len hR.fl (by omega) (k := k) hr'
  rw [← hvw] at hpop
  injection hpop with e1 e2
  subst e1
  have hgq := hR.bq.lt
  have hgs := hR.bs.lt
  have hxi : ¬ ((xs.length : Int) + 1 = 0) := by omega
  have hll' : (((r :: xs).length : Nat) : Int) = (xs.length : Int) + 1 := by simp
  have hxb : ((xs.length : Int) + 1 == 0) = false := by simp; omega
  have HV := Lib.hid hv
  have HR0 := Lib.hid hR
  have HR := Lib.hid (hR.below hbv)
  have HQ := Lib.hid (h0.below hbv)
  have HR' := Lib.hid hr'
  have HE2 := Lib.hid e2
  have HK := Lib.hid hk
  have HR13 := Lib.hid hr13
  clear hv hR h0 hr' e2 hk hvw hr13
  go_enter Try.func17, Try.ntmps17
  go_wp2_with (first
    | ((with_reducible show wpList _ _ _ (Oper.mk (some 2) (Op.alloc _) _ _ _ _ :: _) _ _); refine wpList_alloc_agg rfl 48 rfl #[.int .i64 0, .int .i64 0, .int .i64 0, .int .i64 0, .int .i64 0, .int .i64 0, .slice none 0 0, .int .i64 0, .int .i64 0, .int .i64 0, .int .i64 0, .int .i64 0, .bool false] zeroW ?_; rw [← HV.out])
    | (go_at_call 18; refine (len_c HQ.out).mono ?_; rintro e w2 ⟨rfl, rfl⟩; rw [hll'])
    | (go_at_call 34; refine (pop_c (base := base) HR.out hbq hbs (by have := HK.out; omega) HR'.out _ rfl).mono ?_; rintro e w3 ⟨rfl, h3, hb3, hf3⟩; have b23 := hf3.blk b2 (by simp; omega); have hz3 := hf3.1)
    | ((with_reducible show wpList _ _ _ (Oper.mk none (Op.store 48 (.tmp 2) _) _ _ _ _ :: _) _ _); refine wpList_store_whole rfl 48 (.tmp 2) (.tmp 11) rfl w.heap.size rfl r rfl aggW HR13.out.1 _ _ b23 rfl HR13.out.2 ?_; intro w8 b8 g8 s8))
  refine bodyPost_ret (results_cell_tmp rfl _ w.heap.size _ r.toArray aggW (by simpa using HR13.out.1) rfl b8) rfl ⟨rfl, ?_, ?_, ?_⟩
  · refine ⟨gs, _, k - 1, rows, ⟨h3.bq.grown g8 (by simp; omega), h3.bs.grown g8 (by simp; omega), h3.len, h3.row, h3.fl, h3.kl, h3.le8⟩, hbq, hbs, HE2.out⟩
  · exact ((hbv.mono (by omega)).trans hb3).grown g8 (by omega) (fun k hk => by cases hk; omega)
  · exact Ty.of HR0.out (((Fr.below hbv).trans (hf3.more (by simp))).grown g8 (.inr (Nat.le_refl _)))

/-! ## Put -/
set_option maxHeartbeats 4000000 in
theorem put_nil (i m : Int) (w : World) :
    Calls Try.prog 16 #[.pointer none, .agg (wrow i m).toArray] w fun e w' => e = .returned (.iface 59 (.int .i64 8)) ∧ Below w.heap.size w w' := by
  have hbv := below_alloc w (.cells (wrow i m).toArray 48)
  obtain ⟨v, hv⟩ : ∃ v, v = w.alloc (.cells (wrow i m).toArray 48) := ⟨_, rfl⟩
  have HV := Lib.hid hv
  rw [← hv] at hbv
  clear hv
  go_enter Try.func16, Try.ntmps16
  go_wp2_with fail
  rw [← HV.out]
  refine wp_region_rel (fun W W' => Below W.heap.size W W') (fun W => Below v.heap.size v W)
    [Det (.pointer none), Det (.bool true), Det (.bool true), Any, Any, Any, Any, Any, Any, Any, Any, Any, Any, Any, Any, Det (.bool true)]
    [[], [(0, some 5)], [(1, some 6)], [(2, some 7)], [(3, some 8), (2, some 7)], [(4, some 9), (2, some 7)], [(5, some 10), (2, some 7)], [(6, some 11), (2, some 7)], [(2, some 7)], [(8, some 13), (2, some 7)], [(9, some 14), (2, some 7)], [(10, some 15), (2, some 7)], [(11, some 16), (2, some 7)], [(12, some 17), (2, some 7)], [(7, some 12), (13, some 18), (2, some 7)], [(2, some 7), (14, some 19)]]
    [[], [0], [0, 1], [0, 1, 2], [0, 1, 2, 3], [0, 1, 2, 3, 4], [0, 1, 2, 3, 4, 5], [0, 1, 2, 3, 4, 5, 6], [0, 1, 2], [0, 1, 2, 8], [0, 1, 2, 8, 9], [0, 1, 2, 8, 9, 10], [0, 1, 2, 8, 9, 10, 11], [0, 1, 2, 8, 9, 10, 11, 12], [0, 1, 2, 3, 4, 5, 6, 7, 8, 9, 10, 11, 12, 13], [0, 1, 2, 3, 4, 5, 6, 7, 8, 9, 10, 11, 12, 13, 14]]
    [(0, some 5), (1, some 6), (2, some 7), (3, some 8), (4, some 9), (5, some 10), (6, some 11), (7, some 12), (8, some 13), (9, some 14), (10, some 15), (11, some 16), (12, some 17), (13, some 18), (14, some 19), (15, some 20)] (by kernel_rfl) (by kernel_rfl) (fun W W' h1 h2 => h1.trans (h2.mono h1.size)) ((Below.refl _ _).drew) ?_ ?_ ?_
  · exact (AllMono.cons Det.later (AllMono.cons Det.later (AllMono.cons Det.later (AllMono.cons Any.later (AllMono.cons Any.later (AllMono.cons Any.later (AllMono.cons Any.later (AllMono.cons Any.later (AllMono.cons Any.later (AllMono.cons Any.later (AllMono.cons Any.later (AllMono.cons Any.later (AllMono.cons Any.later (AllMono.cons Any.later (AllMono.cons Any.later (AllMono.cons Det.later AllMono.nil))))))))))))))))
  · refine AllOb.cons ?_ (AllOb.cons ?_ (AllOb.cons ?_ (AllOb.cons ?_ (AllOb.cons ?_ (AllOb.cons ?_ (AllOb.cons ?_ (AllOb.cons ?_ (AllOb.cons ?_ (AllOb.cons ?_ (AllOb.cons ?_ (AllOb.cons ?_ (AllOb.cons ?_ (AllOb.cons ?_ (AllOb.cons ?_ (AllOb.cons ?_ (AllOb.nil))))))))))))))))
    · intro uF W hC' hU aF hF
      have hC : Below v.heap.size v W := hC'
      clear hC'
      simp only [puts] at hF
      subst hF
      go_wp2_with (fail)
      exact ⟨rfl, rfl, (Below.refl _ _), rfl⟩
    · intro uF W hC' hU aF hF
      have hC : Below v.heap.size v W := hC'
      clear hC'
      have h5 : (Det (.pointer none)) (uF 0) W := hU.1
      clear hU
      simp only [puts, Act.put, List.setIfInBounds_toArray, List.set_cons_zero, List.set_cons_succ] at hF
      generalize uF 0 = x5 at h5 hF
      obtain rfl : x5 = (.pointer none) := h5
      subst hF
      go_wp2_with (fail)
      exact ⟨rfl, rfl, (Below.refl _ _), rfl⟩
    · intro uF W hC' hU aF hF
      have hC : Below v.heap.size v W := hC'
      clear hC'
      have h6 : (Det (.bool true)) (uF 1) W := hU.1
      clear hU
      simp only [puts, Act.put, List.setIfInBounds_toArray, List.set_cons_zero, List.set_cons_succ] at hF
      generalize uF 1 = x6 at h6 hF
      obtain rfl : x6 = (.bool true) := h6
      subst hF
      go_wp2_with (fail)
      exact ⟨rfl, rfl, (Below.refl _ _), rfl⟩
    · intro uF W hC' hU aF hF
      have hC : Below v.heap.size v W := hC'
      clear hC'
      have h7 : (Det (.bool true)) (uF 2) W := hU.1
      clear hU
      simp only [puts, Act.put, List.setIfInBounds_toArray, List.set_cons_zero, List.set_cons_succ] at hF
      generalize uF 2 = x7 at h7 hF
      obtain rfl : x7 = (.bool true) := h7
      subst hF
      go_wp2_with (fail)
      exact ⟨rfl, rfl, (Below.refl _ _), trivial⟩
    · intro uF W hC' hU aF hF
      have hC : Below v.heap.size v W := hC'
      clear hC'
      have h8 : Any (uF 3) W := hU.1
      have h7 : (Det (.bool true)) (uF 2) W := hU.2.1
      clear hU
      simp only [puts, Act.put, List.setIfInBounds_toArray, List.set_cons_zero, List.set_cons_succ] at hF
      generalize uF 3 = x8 at h8 hF
      generalize uF 2 = x7 at h7 hF
      obtain rfl : x7 = (.bool true) := h7
      subst hF
      go_wp2_with (fail)
      exact ⟨rfl, rfl, (Below.refl _ _), trivial⟩
    · intro uF W hC' hU aF hF
      have hC : Below v.heap.size v W := hC'
      clear hC'
      have h9 : Any (uF 4) W := hU.1
      have h7 : (Det (.bool true)) (uF 2) W := hU.2.1
      clear hU
      simp only [puts, Act.put, List.setIfInBounds_toArray, List.set_cons_zero, List.set_cons_succ] at hF
      generalize uF 4 = x9 at h9 hF
      generalize uF 2 = x7 at h7 hF
      obtain rfl : x7 = (.bool true) := h7
      subst hF
      go_wp2_with (fail)
      exact ⟨rfl, rfl, (Below.refl _ _), trivial⟩
    · intro uF W hC' hU aF hF
      have hC : Below v.heap.size v W := hC'
      clear hC'
      have h10 : Any (uF 5) W := hU.1
      have h7 : (Det (.bool true)) (uF 2) W := hU.2.1
      clear hU
      simp only [puts, Act.put, List.setIfInBounds_toArray, List.set_cons_zero, List.set_cons_succ] at hF
      generalize uF 5 = x10 at h10 hF
      generalize uF 2 = x7 at h7 hF
      obtain rfl : x7 = (.bool true) := h7
      subst hF
      go_wp2_with (fail)
      exact ⟨rfl, rfl, (Below.refl _ _), trivial⟩
    · intro uF W hC' hU aF hF
      have hC : Below v.heap.size v W := hC'
      clear hC'
      have h11 : Any (uF 6) W := hU.1
      have h7 : (Det (.bool true)) (uF 2) W := hU.2.1
      clear hU
      simp only [puts, Act.put, List.setIfInBounds_toArray, List.set_cons_zero, List.set_cons_succ] at hF
      generalize uF 6 = x11 at h11 hF
      generalize uF 2 = x7 at h7 hF
      obtain rfl : x7 = (.bool true) := h7
      subst hF
      go_wp2_with (fail)
      exact ⟨rfl, rfl, (Below.refl _ _), trivial⟩
    · intro uF W hC' hU aF hF
      have hC : Below v.heap.size v W := hC'
      clear hC'
      have h7 : (Det (.bool true)) (uF 2) W := hU.1
      clear hU
      simp only [puts, Act.put, List.setIfInBounds_toArray, List.set_cons_zero, List.set_cons_succ] at hF
      generalize uF 2 = x7 at h7 hF
      obtain rfl : x7 = (.bool true) := h7
      subst hF
      go_wp2_with (fail)
      exact ⟨rfl, rfl, (Below.refl _ _), trivial⟩
    · intro uF W hC' hU aF hF
      have hC : Below v.heap.size v W := hC'
      clear hC'
      have h13 : Any (uF 8) W := hU.1
      have h7 : (Det (.bool true)) (uF 2) W := hU.2.1
      clear hU
      simp only [puts, Act.put, List.setIfInBounds_toArray, List.set_cons_zero, List.set_cons_succ] at hF
      generalize uF 8 = x13 at h13 hF
      generalize uF 2 = x7 at h7 hF
      obtain rfl : x7 = (.bool true) := h7
      subst hF
      go_wp2_with (fail)
      exact ⟨rfl, rfl, (Below.refl _ _), trivial⟩
    · intro uF W hC' hU aF hF
      have hC : Below v.heap.size v W := hC'
      clear hC'
      have h14 : Any (uF 9) W := hU.1
      have h7 : (Det (.bool true)) (uF 2) W := hU.2.1
      clear hU
      simp only [puts, Act.put, List.setIfInBounds_toArray, List.set_cons_zero, List.set_cons_succ] at hF
      generalize uF 9 = x14 at h14 hF
      generalize uF 2 = x7 at h7 hF
      obtain rfl : x7 = (.bool true) := h7
      subst hF
      go_wp2_with (fail)
      exact ⟨rfl, rfl, (Below.refl _ _), trivial⟩
    · intro uF W hC' hU aF hF
      have hC : Below v.heap.size v W := hC'
      clear hC'
      have h15 : Any (uF 10) W := hU.1
      have h7 : (Det (.bool true)) (uF 2) W := hU.2.1
      clear hU
      simp only [puts, Act.put, List.setIfInBounds_toArray, List.set_cons_zero, List.set_cons_succ] at hF
      generalize uF 10 = x15 at h15 hF
      generalize uF 2 = x7 at h7 hF
      obtain rfl : x7 = (.bool true) := h7
      subst hF
      go_wp2_with (fail)
      exact ⟨rfl, rfl, (Below.refl _ _), trivial⟩
    · intro uF W hC' hU aF hF
      have hC : Below v.heap.size v W := hC'
      clear hC'
      have h16 : Any (uF 11) W := hU.1
      have h7 : (Det (.bool true)) (uF 2) W := hU.2.1
      clear hU
      simp only [puts, Act.put, List.setIfInBounds_toArray, List.set_cons_zero, List.set_cons_succ] at hF
      generalize uF 11 = x16 at h16 hF
      generalize uF 2 = x7 at h7 hF
      obtain rfl : x7 = (.bool true) := h7
      subst hF
      go_wp2_with (fail)
      exact ⟨rfl, rfl, (Below.refl _ _), trivial⟩
    · intro uF W hC' hU aF hF
      have hC : Below v.heap.size v W := hC'
      clear hC'
      have h17 : Any (uF 12) W := hU.1
      have h7 : (Det (.bool true)) (uF 2) W := hU.2.1
      clear hU
      simp only [puts, Act.put, List.setIfInBounds_toArray, List.set_cons_zero, List.set_cons_succ] at hF
      generalize uF 12 = x17 at h17 hF
      generalize uF 2 = x7 at h7 hF
      obtain rfl : x7 = (.bool true) := h7
      subst hF
      go_wp2_with (fail)
      exact ⟨rfl, rfl, (Below.refl _ _), trivial⟩
    · intro uF W hC' hU aF hF
      have hC : Below v.heap.size v W := hC'
      clear hC'
      have h12 : Any (uF 7) W := hU.1
      have h18 : Any (uF 13) W := hU.2.1
      have h7 : (Det (.bool true)) (uF 2) W := hU.2.2.1
      clear hU
      simp only [puts, Act.put, List.setIfInBounds_toArray, List.set_cons_zero, List.set_cons_succ] at hF
      generalize uF 7 = x12 at h12 hF
      generalize uF 13 = x18 at h18 hF
      generalize uF 2 = x7 at h7 hF
      obtain rfl : x7 = (.bool true) := h7
      subst hF
      go_wp2_with (fail)
      exact ⟨rfl, rfl, (Below.refl _ _), trivial⟩
    · intro uF W hC' hU aF hF
      have hC : Below v.heap.size v W := hC'
      clear hC'
      have h7 : (Det (.bool true)) (uF 2) W := hU.1
      have h19 : Any (uF 14) W := hU.2.1
      clear hU
      simp only [puts, Act.put, List.setIfInBounds_toArray, List.set_cons_zero, List.set_cons_succ] at hF
      generalize uF 2 = x7 at h7 hF
      generalize uF 14 = x19 at h19 hF
      obtain rfl : x7 = (.bool true) := h7
      subst hF
      go_wp2_with (fail)
      exact ⟨rfl, rfl, (Below.refl _ _), rfl⟩
  intro uF W5 hC' hU aF hF
  have hCW5 : Below v.heap.size v W5 := hC'
  clear hC'
  have h20 : (Det (.bool true)) (uF 15) W5 := hU.2.2.2.2.2.2.2.2.2.2.2.2.2.2.2.1
  clear hU
  simp only [puts, Act.put, List.setIfInBounds_toArray, List.set_cons_zero, List.set_cons_succ] at hF
  generalize uF 0 = x5 at hF
  generalize uF 1 = x6 at hF
  generalize uF 2 = x7 at hF
  generalize uF 3 = x8 at hF
  generalize uF 4 = x9 at hF
  generalize uF 5 = x10 at hF
  generalize uF 6 = x11 at hF
  generalize uF 7 = x12 at hF
  generalize uF 8 = x13 at hF
  generalize uF 9 = x14 at hF
  generalize uF 10 = x15 at hF
  generalize uF 11 = x16 at hF
  generalize uF 12 = x17 at hF
  generalize uF 13 = x18 at hF
  generalize uF 14 = x19 at hF
  generalize uF 15 = x20 at h20 hF
  obtain rfl : x20 = (.bool true) := h20
  subst hF
  go_wp2_with fail
  go_ret
  exact ⟨rfl, hbv.trans (hCW5.mono hbv.size)⟩

set_option maxHeartbeats 4000000 in
theorem put_full {w : World} {base gq n : Nat} {xs : List (List Value)} (h : Qs w base gq n xs) (hx : xs.length = n) (i m : Int) :
    Calls Try.prog 16 #[.pointer (some ⟨gq, 0, none⟩), .agg (wrow i m).toArray] w fun e w' => e = .returned (.iface 59 (.int .i64 8)) ∧ Below w.heap.size w w' := by
  obtain ⟨gs, f, k, rows, hR, hbq, hbs, rfl⟩ := h
  rw [len_view] at hx
  subst hx
  obtain ⟨v, hv⟩ : ∃ v, v = w.alloc (.cells (wrow i m).toArray 48) := ⟨_, rfl⟩
  have hbv : Below w.heap.size w v := by rw [hv]; exact below_alloc _ _
  have HR := Lib.hid (hR.below hbv)
  have HV := Lib.hid hv
  clear hv hR
  go_enter Try.func16, Try.ntmps16
  go_wp2_with fail
  rw [← HV.out]
  refine wp_region_rel (fun W W' => Below W.heap.size W W') (fun W => Below v.heap.size v W)
    [Det (.pointer (some ⟨gq, 0, none⟩)), Det (.bool false), Det (.bool false), Det (.pointer (some ⟨gq, 0, none⟩)), Det (.pointer (some ⟨gq, 0, none⟩)), Det (.pointer (some ⟨gq, 0, none⟩)), Det (.pointer (some ⟨gq, 2, none⟩)), Det (.int .i64 (k : Int)), Det (.pointer (some ⟨gq, 0, none⟩)), Det (.pointer (some ⟨gq, 0, none⟩)), Det (.pointer (some ⟨gq, 0, none⟩)), Det (.pointer (some ⟨gq, 0, none⟩)), Det (.slice (some ⟨gs, 0, none⟩) k k), Det (.int .i64 (k : Int)), Det (.bool true), Det (.bool true)]
    [[], [(0, some 5)], [(1, some 6)], [(2, some 7)], [(3, some 8), (2, some 7)], [(4, some 9), (2, some 7)], [(5, some 10), (2, some 7)], [(6, some 11), (2, some 7)], [(2, some 7)], [(8, some 13), (2, some 7)], [(9, some 14), (2, some 7)], [(10, some 15), (2, some 7)], [(11, some 16), (2, some 7)], [(12, some 17), (2, some 7)], [(7, some 12), (13, some 18), (2, some 7)], [(2, some 7), (14, some 19)]]
    [[], [0], [0, 1], [0, 1, 2], [0, 1, 2, 3], [0, 1, 2, 3, 4], [0, 1, 2, 3, 4, 5], [0, 1, 2, 3, 4, 5, 6], [0, 1, 2], [0, 1, 2, 8], [0, 1, 2, 8, 9], [0, 1, 2, 8, 9, 10], [0, 1, 2, 8, 9, 10, 11], [0, 1, 2, 8, 9, 10, 11, 12], [0, 1, 2, 3, 4, 5, 6, 7, 8, 9, 10, 11, 12, 13], [0, 1, 2, 3, 4, 5, 6, 7, 8, 9, 10, 11, 12, 13, 14]]
    [(0, some 5), (1, some 6), (2, some 7), (3, some 8), (4, some 9), (5, some 10), (6, some 11), (7, some 12), (8, some 13), (9, some 14), (10, some 15), (11, some 16), (12, some 17), (13, some 18), (14, some 19), (15, some 20)] (by kernel_rfl) (by kernel_rfl) (fun W W' h1 h2 => h1.trans (h2.mono h1.size)) ((Below.refl _ _).drew) ?_ ?_ ?_
  · exact (AllMono.cons Det.later (AllMono.cons Det.later (AllMono.cons Det.later (AllMono.cons Det.later (AllMono.cons Det.later (AllMono.cons Det.later (AllMono.cons Det.later (AllMono.cons Det.later (AllMono.cons Det.later (AllMono.cons Det.later (AllMono.cons Det.later (AllMono.cons Det.later (AllMono.cons Det.later (AllMono.cons Det.later (AllMono.cons Det.later (AllMono.cons Det.later AllMono.nil))))))))))))))))
  · refine AllOb.cons ?_ (AllOb.cons ?_ (AllOb.cons ?_ (AllOb.cons ?_ (AllOb.cons ?_ (AllOb.cons ?_ (AllOb.cons ?_ (AllOb.cons ?_ (AllOb.cons ?_ (AllOb.cons ?_ (AllOb.cons ?_ (AllOb.cons ?_ (AllOb.cons ?_ (AllOb.cons ?_ (AllOb.cons ?_ (AllOb.cons ?_ (AllOb.nil))))))))))))))))
    · intro uF W hC' hU aF hF
      have hC : Below v.heap.size v W := hC'
      clear hC'
      simp only [puts] at hF
      subst hF
      go_wp2_with (fail)
      exact ⟨rfl, rfl, (Below.refl _ _), rfl⟩
    · intro uF W hC' hU aF hF
      have hC : Below v.heap.size v W := hC'
      clear hC'
      have h5 : (Det (.pointer (some ⟨gq, 0, none⟩))) (uF 0) W := hU.1
      clear hU
      simp only [puts, Act.put, List.setIfInBounds_toArray, List.set_cons_zero, List.set_cons_succ] at hF
      generalize uF 0 = x5 at h5 hF
      obtain rfl : x5 = (.pointer (some ⟨gq, 0, none⟩)) := h5
      subst hF
      go_wp2_with (fail)
      exact ⟨rfl, rfl, (Below.refl _ _), rfl⟩
    · intro uF W hC' hU aF hF
      have hC : Below v.heap.size v W := hC'
      clear hC'
      have h6 : (Det (.bool false)) (uF 1) W := hU.1
      clear hU
      simp only [puts, Act.put, List.setIfInBounds_toArray, List.set_cons_zero, List.set_cons_succ] at hF
      generalize uF 1 = x6 at h6 hF
      obtain rfl : x6 = (.bool false) := h6
      subst hF
      go_wp2_with (fail)
      exact ⟨rfl, rfl, (Below.refl _ _), rfl⟩
    · intro uF W hC' hU aF hF
      have hC : Below v.heap.size v W := hC'
      clear hC'
      have h7 : (Det (.bool false)) (uF 2) W := hU.1
      clear hU
      simp only [puts, Act.put, List.setIfInBounds_toArray, List.set_cons_zero, List.set_cons_succ] at hF
      generalize uF 2 = x7 at h7 hF
      obtain rfl : x7 = (.bool false) := h7
      subst hF
      go_wp2_with (fail)
      exact ⟨rfl, rfl, (Below.refl _ _), rfl⟩
    · intro uF W hC' hU aF hF
      have hC : Below v.heap.size v W := hC'
      clear hC'
      have h8 : (Det (.pointer (some ⟨gq, 0, none⟩))) (uF 3) W := hU.1
      have h7 : (Det (.bool false)) (uF 2) W := hU.2.1
      clear hU
      simp only [puts, Act.put, List.setIfInBounds_toArray, List.set_cons_zero, List.set_cons_succ] at hF
      generalize uF 3 = x8 at h8 hF
      generalize uF 2 = x7 at h7 hF
      obtain rfl : x8 = (.pointer (some ⟨gq, 0, none⟩)) := h8
      obtain rfl : x7 = (.bool false) := h7
      subst hF
      go_wp2_with (fail)
      exact ⟨rfl, rfl, (Below.refl _ _), rfl⟩
    · intro uF W hC' hU aF hF
      have hC : Below v.heap.size v W := hC'
      clear hC'
      have h9 : (Det (.pointer (some ⟨gq, 0, none⟩))) (uF 4) W := hU.1
      have h7 : (Det (.bool false)) (uF 2) W := hU.2.1
      clear hU
      simp only [puts, Act.put, List.setIfInBounds_toArray, List.set_cons_zero, List.set_cons_succ] at hF
      generalize uF 4 = x9 at h9 hF
      generalize uF 2 = x7 at h7 hF
      obtain rfl : x9 = (.pointer (some ⟨gq, 0, none⟩)) := h9
      obtain rfl : x7 = (.bool false) := h7
      subst hF
      go_wp2_with (fail)
      exact ⟨rfl, rfl, (Below.refl _ _), rfl⟩
    · intro uF W hC' hU aF hF
      have hC : Below v.heap.size v W := hC'
      clear hC'
      have h10 : (Det (.pointer (some ⟨gq, 0, none⟩))) (uF 5) W := hU.1
      have h7 : (Det (.bool false)) (uF 2) W := hU.2.1
      clear hU
      simp only [puts, Act.put, List.setIfInBounds_toArray, List.set_cons_zero, List.set_cons_succ] at hF
      generalize uF 5 = x10 at h10 hF
      generalize uF 2 = x7 at h7 hF
      obtain rfl : x10 = (.pointer (some ⟨gq, 0, none⟩)) := h10
      obtain rfl : x7 = (.bool false) := h7
      subst hF
      go_wp2_with (fail)
      exact ⟨rfl, rfl, (Below.refl _ _), rfl⟩
    · intro uF W hC' hU aF hF
      have hC : Below v.heap.size v W := hC'
      clear hC'
      have h11 : (Det (.pointer (some ⟨gq, 2, none⟩))) (uF 6) W := hU.1
      have h7 : (Det (.bool false)) (uF 2) W := hU.2.1
      clear hU
      simp only [puts, Act.put, List.setIfInBounds_toArray, List.set_cons_zero, List.set_cons_succ] at hF
      generalize uF 6 = x11 at h11 hF
      generalize uF 2 = x7 at h7 hF
      obtain rfl : x11 = (.pointer (some ⟨gq, 2, none⟩)) := h11
      obtain rfl : x7 = (.bool false) := h7
      subst hF
      have d2 := (HR.out.below hC).c2
      go_wp2_with (fail)
      exact ⟨rfl, rfl, (Below.refl _ _), rfl⟩
    · intro uF W hC' hU aF hF
      have hC : Below v.heap.size v W := hC'
      clear hC'
      have h7 : (Det (.bool false)) (uF 2) W := hU.1
      clear hU
      simp only [puts, Act.put, List.setIfInBounds_toArray, List.set_cons_zero, List.set_cons_succ] at hF
      generalize uF 2 = x7 at h7 hF
      obtain rfl : x7 = (.bool false) := h7
      subst hF
      go_wp2_with (fail)
      exact ⟨rfl, rfl, (Below.refl _ _), rfl⟩
    · intro uF W hC' hU aF hF
      have hC : Below v.heap.size v W := hC'
      clear hC'
      have h13 : (Det (.pointer (some ⟨gq, 0, none⟩))) (uF 8) W := hU.1
      have h7 : (Det (.bool false)) (uF 2) W := hU.2.1
      clear hU
      simp only [puts, Act.put, List.setIfInBounds_toArray, List.set_cons_zero, List.set_cons_succ] at hF
      generalize uF 8 = x13 at h13 hF
      generalize uF 2 = x7 at h7 hF
      obtain rfl : x13 = (.pointer (some ⟨gq, 0, none⟩)) := h13
      obtain rfl : x7 = (.bool false) := h7
      subst hF
      go_wp2_with (fail)
      exact ⟨rfl, rfl, (Below.refl _ _), rfl⟩
    · intro uF W hC' hU aF hF
      have hC : Below v.heap.size v W := hC'
      clear hC'
      have h14 : (Det (.pointer (some ⟨gq, 0, none⟩))) (uF 9) W := hU.1
      have h7 : (Det (.bool false)) (uF 2) W := hU.2.1
      clear hU
      simp only [puts, Act.put, List.setIfInBounds_toArray, List.set_cons_zero, List.set_cons_succ] at hF
      generalize uF 9 = x14 at h14 hF
      generalize uF 2 = x7 at h7 hF
      obtain rfl : x14 = (.pointer (some ⟨gq, 0, none⟩)) := h14
      obtain rfl : x7 = (.bool false) := h7
      subst hF
      go_wp2_with (fail)
      exact ⟨rfl, rfl, (Below.refl _ _), rfl⟩
    · intro uF W hC' hU aF hF
      have hC : Below v.heap.size v W := hC'
      clear hC'
      have h15 : (Det (.pointer (some ⟨gq, 0, none⟩))) (uF 10) W := hU.1
      have h7 : (Det (.bool false)) (uF 2) W := hU.2.1
      clear hU
      simp only [puts, Act.put, List.setIfInBounds_toArray, List.set_cons_zero, List.set_cons_succ] at hF
      generalize uF 10 = x15 at h15 hF
      generalize uF 2 = x7 at h7 hF
      obtain rfl : x15 = (.pointer (some ⟨gq, 0, none⟩)) := h15
      obtain rfl : x7 = (.bool false) := h7
      subst hF
      go_wp2_with (fail)
      exact ⟨rfl, rfl, (Below.refl _ _), rfl⟩
    · intro uF W hC' hU aF hF
      have hC : Below v.heap.size v W := hC'
      clear hC'
      have h16 : (Det (.pointer (some ⟨gq, 0, none⟩))) (uF 11) W := hU.1
      have h7 : (Det (.bool false)) (uF 2) W := hU.2.1
      clear hU
      simp only [puts, Act.put, List.setIfInBounds_toArray, List.set_cons_zero, List.set_cons_succ] at hF
      generalize uF 11 = x16 at h16 hF
      generalize uF 2 = x7 at h7 hF
      obtain rfl : x16 = (.pointer (some ⟨gq, 0, none⟩)) := h16
      obtain rfl : x7 = (.bool false) := h7
      subst hF
      have d0 := (HR.out.below hC).c0
      go_wp2_with (fail)
      exact ⟨rfl, rfl, (Below.refl _ _), rfl⟩
    · intro uF W hC' hU aF hF
      have hC : Below v.heap.size v W := hC'
      clear hC'
      have h17 : (Det (.slice (some ⟨gs, 0, none⟩) k k)) (uF 12) W := hU.1
      have h7 : (Det (.bool false)) (uF 2) W := hU.2.1
      clear hU
      simp only [puts, Act.put, List.setIfInBounds_toArray, List.set_cons_zero, List.set_cons_succ] at hF
      generalize uF 12 = x17 at h17 hF
      generalize uF 2 = x7 at h7 hF
      obtain rfl : x17 = (.slice (some ⟨gs, 0, none⟩) k k) := h17
      obtain rfl : x7 = (.bool false) := h7
      subst hF
      go_wp2_with (fail)
      exact ⟨rfl, rfl, (Below.refl _ _), rfl⟩
    · intro uF W hC' hU aF hF
      have hC : Below v.heap.size v W := hC'
      clear hC'
      have h12 : (Det (.int .i64 (k : Int))) (uF 7) W := hU.1
      have h18 : (Det (.int .i64 (k : Int))) (uF 13) W := hU.2.1
      have h7 : (Det (.bool false)) (uF 2) W := hU.2.2.1
      clear hU
      simp only [puts, Act.put, List.setIfInBounds_toArray, List.set_cons_zero, List.set_cons_succ] at hF
      generalize uF 7 = x12 at h12 hF
      generalize uF 13 = x18 at h18 hF
      generalize uF 2 = x7 at h7 hF
      obtain rfl : x12 = (.int .i64 (k : Int)) := h12
      obtain rfl : x18 = (.int .i64 (k : Int)) := h18
      obtain rfl : x7 = (.bool false) := h7
      subst hF
      go_wp2_with (fail)
      exact ⟨rfl, rfl, (Below.refl _ _), rfl⟩
    · intro uF W hC' hU aF hF
      have hC : Below v.heap.size v W := hC'
      clear hC'
      have h7 : (Det (.bool false)) (uF 2) W := hU.1
      have h19 : (Det (.bool true)) (uF 14) W := hU.2.1
      clear hU
      simp only [puts, Act.put, List.setIfInBounds_toArray, List.set_cons_zero, List.set_cons_succ] at hF
      generalize uF 2 = x7 at h7 hF
      generalize uF 14 = x19 at h19 hF
      obtain rfl : x7 = (.bool false) := h7
      obtain rfl : x19 = (.bool true) := h19
      subst hF
      go_wp2_with (fail)
      exact ⟨rfl, rfl, (Below.refl _ _), rfl⟩
  intro uF W5 hC' hU aF hF
  have hCW5 : Below v.heap.size v W5 := hC'
  clear hC'
  have h20 : (Det (.bool true)) (uF 15) W5 := hU.2.2.2.2.2.2.2.2.2.2.2.2.2.2.2.1
  clear hU
  simp only [puts, Act.put, List.setIfInBounds_toArray, List.set_cons_zero, List.set_cons_succ] at hF
  generalize uF 0 = x5 at hF
  generalize uF 1 = x6 at hF
  generalize uF 2 = x7 at hF
  generalize uF 3 = x8 at hF
  generalize uF 4 = x9 at hF
  generalize uF 5 = x10 at hF
  generalize uF 6 = x11 at hF
  generalize uF 7 = x12 at hF
  generalize uF 8 = x13 at hF
  generalize uF 9 = x14 at hF
  generalize uF 10 = x15 at hF
  generalize uF 11 = x16 at hF
  generalize uF 12 = x17 at hF
  generalize uF 13 = x18 at hF
  generalize uF 14 = x19 at hF
  generalize uF 15 = x20 at h20 hF
  obtain rfl : x20 = (.bool true) := h20
  subst hF
  go_wp2_with fail
  go_ret
  exact ⟨rfl, hbv.trans (hCW5.mono hbv.size)⟩

set_option maxHeartbeats 4000000 in
theorem put_c {w : World} {base gq n : Nat} {xs : List (List Value)} (h : Qs w base gq n xs) (hx : xs.length < n) (i m : Int) :
    Calls Try.prog 16 #[.pointer (some ⟨gq, 0, none⟩), .agg (wrow i m).toArray] w fun e w' => e = .returned .nilIface ∧ Qs w' base gq n (xs ++ [wrow i m]) ∧ Below base w w' ∧ Ty w w' := by
  obtain ⟨gs, f, k, rows, hR, hbq, hbs, rfl⟩ := h
  rw [len_view] at hx
  have hn8 := hR.le8
  have hgq := hR.bq.lt
  have hkn : ((k : Int) == (n : Int)) = false := by simp; omega
  have hkn' : ¬ (k : Int) = (n : Int) := by omega
  obtain ⟨v, hv⟩ : ∃ v, v = w.alloc (.cells (wrow i m).toArray 48) := ⟨_, rfl⟩
  have hbv : Below w.heap.size w v := by rw [hv]; exact below_alloc _ _
  have b3 : Blk v w.heap.size 48 (wrow i m).toArray := by rw [hv]; exact Blk.new _ _ _
  have hz := hbv.size
  have HR0 := Lib.hid hR
  have HR := Lib.hid (hR.below hbv)
  have HB3 := Lib.hid b3
  have HV := Lib.hid hv
  clear hv hR b3
  go_enter Try.func16, Try.ntmps16
  go_wp2_with fail
  rw [← HV.out]
  refine wp_region_rel (fun W W' => Below W.heap.size W W') (fun W => Below v.heap.size v W)
    [Det (.pointer (some ⟨gq, 0, none⟩)), Det (.bool false), Det (.bool false), Det (.pointer (some ⟨gq, 0, none⟩)), Det (.pointer (some ⟨gq, 0, none⟩)), Det (.pointer (some ⟨gq, 0, none⟩)), Det (.pointer (some ⟨gq, 2, none⟩)), Det (.int .i64 (k : Int)), Det (.pointer (some ⟨gq, 0, none⟩)), Det (.pointer (some ⟨gq, 0, none⟩)), Det (.pointer (some ⟨gq, 0, none⟩)), Det (.pointer (some ⟨gq, 0, none⟩)), Det (.slice (some ⟨gs, 0, none⟩) n n), Det (.int .i64 (n : Int)), Det (.bool false), Det (.bool false)]
    [[], [(0, some 5)], [(1, some 6)], [(2, some 7)], [(3, some 8), (2, some 7)], [(4, some 9), (2, some 7)], [(5, some 10), (2, some 7)], [(6, some 11), (2, some 7)], [(2, some 7)], [(8, some 13), (2, some 7)], [(9, some 14), (2, some 7)], [(10, some 15), (2, some 7)], [(11, some 16), (2, some 7)], [(12, some 17), (2, some 7)], [(7, some 12), (13, some 18), (2, some 7)], [(2, some 7), (14, some 19)]]
    [[], [0], [0, 1], [0, 1, 2], [0, 1, 2, 3], [0, 1, 2, 3, 4], [0, 1, 2, 3, 4, 5], [0, 1, 2, 3, 4, 5, 6], [0, 1, 2], [0, 1, 2, 8], [0, 1, 2, 8, 9], [0, 1, 2, 8, 9, 10], [0, 1, 2, 8, 9, 10, 11], [0, 1, 2, 8, 9, 10, 11, 12], [0, 1, 2, 3, 4, 5, 6, 7, 8, 9, 10, 11, 12, 13], [0, 1, 2, 3, 4, 5, 6, 7, 8, 9, 10, 11, 12, 13, 14]]
    [(0, some 5), (1, some 6), (2, some 7), (3, some 8), (4, some 9), (5, some 10), (6, some 11), (7, some 12), (8, some 13), (9, some 14), (10, some 15), (11, some 16), (12, some 17), (13, some 18), (14, some 19), (15, some 20)] (by kernel_rfl) (by kernel_rfl) (fun W W' h1 h2 => h1.trans (h2.mono h1.size)) ((Below.refl _ _).drew) ?_ ?_ ?_
  · exact (AllMono.cons Det.later (AllMono.cons Det.later (AllMono.cons Det.later (AllMono.cons Det.later (AllMono.cons Det.later (AllMono.cons Det.later (AllMono.cons Det.later (AllMono.cons Det.later (AllMono.cons Det.later (AllMono.cons Det.later (AllMono.cons Det.later (AllMono.cons Det.later (AllMono.cons Det.later (AllMono.cons Det.later (AllMono.cons Det.later (AllMono.cons Det.later AllMono.nil))))))))))))))))
  · refine AllOb.cons ?_ (AllOb.cons ?_ (AllOb.cons ?_ (AllOb.cons ?_ (AllOb.cons ?_ (AllOb.cons ?_ (AllOb.cons ?_ (AllOb.cons ?_ (AllOb.cons ?_ (AllOb.cons ?_ (AllOb.cons ?_ (AllOb.cons ?_ (AllOb.cons ?_ (AllOb.cons ?_ (AllOb.cons ?_ (AllOb.cons ?_ (AllOb.nil))))))))))))))))
    · intro uF W hC' hU aF hF
      have hC : Below v.heap.size v W := hC'
      clear hC'
      simp only [puts] at hF
      subst hF
      go_wp2_with (fail)
      exact ⟨rfl, rfl, (Below.refl _ _), rfl⟩
    · intro uF W hC' hU aF hF
      have hC : Below v.heap.size v W := hC'
      clear hC'
      have h5 : (Det (.pointer (some ⟨gq, 0, none⟩))) (uF 0) W := hU.1
      clear hU
      simp only [puts, Act.put, List.setIfInBounds_toArray, List.set_cons_zero, List.set_cons_succ] at hF
      generalize uF 0 = x5 at h5 hF
      obtain rfl : x5 = (.pointer (some ⟨gq, 0, none⟩)) := h5
      subst hF
      go_wp2_with (fail)
      exact ⟨rfl, rfl, (Below.refl _ _), rfl⟩
    · intro uF W hC' hU aF hF
      have hC : Below v.heap.size v W := hC'
      clear hC'
      have h6 : (Det (.bool false)) (uF 1) W := hU.1
      clear hU
      simp only [puts, Act.put, List.setIfInBounds_toArray, List.set_cons_zero, List.set_cons_succ] at hF
      generalize uF 1 = x6 at h6 hF
      obtain rfl : x6 = (.bool false) := h6
      subst hF
      go_wp2_with (fail)
      exact ⟨rfl, rfl, (Below.refl _ _), rfl⟩
    · intro uF W hC' hU aF hF
      have hC : Below v.heap.size v W := hC'
      clear hC'
      have h7 : (Det (.bool false)) (uF 2) W := hU.1
      clear hU
      simp only [puts, Act.put, List.setIfInBounds_toArray, List.set_cons_zero, List.set_cons_succ] at hF
      generalize uF 2 = x7 at h7 hF
      obtain rfl : x7 = (.bool false) := h7
      subst hF
      go_wp2_with (fail)
      exact ⟨rfl, rfl, (Below.refl _ _), rfl⟩
    · intro uF W hC' hU aF hF
      have hC : Below v.heap.size v W := hC'
      clear hC'
      have h8 : (Det (.pointer (some ⟨gq, 0, none⟩))) (uF 3) W := hU.1
      have h7 : (Det (.bool false)) (uF 2) W := hU.2.1
      clear hU
      simp only [puts, Act.put, List.setIfInBounds_toArray, List.set_cons_zero, List.set_cons_succ] at hF
      generalize uF 3 = x8 at h8 hF
      generalize uF 2 = x7 at h7 hF
      obtain rfl : x8 = (.pointer (some ⟨gq, 0, none⟩)) := h8
      obtain rfl : x7 = (.bool false) := h7
      subst hF
      go_wp2_with (fail)
      exact ⟨rfl, rfl, (Below.refl _ _), rfl⟩
    · intro uF W hC' hU aF hF
      have hC : Below v.heap.size v W := hC'
      clear hC'
      have h9 : (Det (.pointer (some ⟨gq, 0, none⟩))) (uF 4) W := hU.1
      have h7 : (Det (.bool false)) (uF 2) W := hU.2.1
      clear hU
      simp only [puts, Act.put, List.setIfInBounds_toArray, List.set_cons_zero, List.set_cons_succ] at hF
      generalize uF 4 = x9 at h9 hF
      generalize uF 2 = x7 at h7 hF
      obtain rfl : x9 = (.pointer (some ⟨gq, 0, none⟩)) := h9
      obtain rfl : x7 = (.bool false) := h7
      subst hF
      go_wp2_with (fail)
      exact ⟨rfl, rfl, (Below.refl _ _), rfl⟩
    · intro uF W hC' hU aF hF
      have hC : Below v.heap.size v W := hC'
      clear hC'
      have h10 : (Det (.pointer (some ⟨gq, 0, none⟩))) (uF 5) W := hU.1
      have h7 : (Det (.bool false)) (uF 2) W := hU.2.1
      clear hU
      simp only [puts, Act.put, List.setIfInBounds_toArray, List.set_cons_zero, List.set_cons_succ] at hF
      generalize uF 5 = x10 at h10 hF
      generalize uF 2 = x7 at h7 hF
      obtain rfl : x10 = (.pointer (some ⟨gq, 0, none⟩)) := h10
      obtain rfl : x7 = (.bool false) := h7
      subst hF
      go_wp2_with (fail)
      exact ⟨rfl, rfl, (Below.refl _ _), rfl⟩
    · intro uF W hC' hU aF hF
      have hC : Below v.heap.size v W := hC'
      clear hC'
      have h11 : (Det (.pointer (some ⟨gq, 2, none⟩))) (uF 6) W := hU.1
      have h7 : (Det (.bool false)) (uF 2) W := hU.2.1
      clear hU
      simp only [puts, Act.put, List.setIfInBounds_toArray, List.set_cons_zero, List.set_cons_succ] at hF
      generalize uF 6 = x11 at h11 hF
      generalize uF 2 = x7 at h7 hF
      obtain rfl : x11 = (.pointer (some ⟨gq, 2, none⟩)) := h11
      obtain rfl : x7 = (.bool false) := h7
      subst hF
      have d2 := (HR.out.below hC).c2
      go_wp2_with (fail)
      exact ⟨rfl, rfl, (Below.refl _ _), rfl⟩
    · intro uF W hC' hU aF hF
      have hC : Below v.heap.size v W := hC'
      clear hC'
      have h7 : (Det (.bool false)) (uF 2) W := hU.1
      clear hU
      simp only [puts, Act.put, List.setIfInBounds_toArray, List.set_cons_zero, List.set_cons_succ] at hF
      generalize uF 2 = x7 at h7 hF
      obtain rfl : x7 = (.bool false) := h7
      subst hF
      go_wp2_with (fail)
      exact ⟨rfl, rfl, (Below.refl _ _), rfl⟩
    · intro uF W hC' hU aF hF
      have hC : Below v.heap.size v W := hC'
      clear hC'
      have h13 : (Det (.pointer (some ⟨gq, 0, none⟩))) (uF 8) W := hU.1
      have h7 : (Det (.bool false)) (uF 2) W := hU.2.1
      clear hU
      simp only [puts, Act.put, List.setIfInBounds_toArray, List.set_cons_zero, List.set_cons_succ] at hF
      generalize uF 8 = x13 at h13 hF
      generalize uF 2 = x7 at h7 hF
      obtain rfl : x13 = (.pointer (some ⟨gq, 0, none⟩)) := h13
      obtain rfl : x7 = (.bool false) := h7
      subst hF
      go_wp2_with (fail)
      exact ⟨rfl, rfl, (Below.refl _ _), rfl⟩
    · intro uF W hC' hU aF hF
      have hC : Below v.heap.size v W := hC'
      clear hC'
      have h14 : (Det (.pointer (some ⟨gq, 0, none⟩))) (uF 9) W := hU.1
      have h7 : (Det (.bool false)) (uF 2) W := hU.2.1
      clear hU
      simp only [puts, Act.put, List.setIfInBounds_toArray, List.set_cons_zero, List.set_cons_succ] at hF
      generalize uF 9 = x14 at h14 hF
      generalize uF 2 = x7 at h7 hF
      obtain rfl : x14 = (.pointer (some ⟨gq, 0, none⟩)) := h14
      obtain rfl : x7 = (.bool false) := h7
      subst hF
      go_wp2_with (fail)
      exact ⟨rfl, rfl, (Below.refl _ _), rfl⟩
    · intro uF W hC' hU aF hF
      have hC : Below v.heap.size v W := hC'
      clear hC'
      have h15 : (Det (.pointer (some ⟨gq, 0, none⟩))) (uF 10) W := hU.1
      have h7 : (Det (.bool false)) (uF 2) W := hU.2.1
      clear hU
      simp only [puts, Act.put, List.setIfInBounds_toArray, List.set_cons_zero, List.set_cons_succ] at hF
      generalize uF 10 = x15 at h15 hF
      generalize uF 2 = x7 at h7 hF
      obtain rfl : x15 = (.pointer (some ⟨gq, 0, none⟩)) := h15
      obtain rfl : x7 = (.bool false) := h7
      subst hF
      go_wp2_with (fail)
      exact ⟨rfl, rfl, (Below.refl _ _), rfl⟩
    · intro uF W hC' hU aF hF
      have hC : Below v.heap.size v W := hC'
      clear hC'
      have h16 : (Det (.pointer (some ⟨gq, 0, none⟩))) (uF 11) W := hU.1
      have h7 : (Det (.bool false)) (uF 2) W := hU.2.1
      clear hU
      simp only [puts, Act.put, List.setIfInBounds_toArray, List.set_cons_zero, List.set_cons_succ] at hF
      generalize uF 11 = x16 at h16 hF
      generalize uF 2 = x7 at h7 hF
      obtain rfl : x16 = (.pointer (some ⟨gq, 0, none⟩)) := h16
      obtain rfl : x7 = (.bool false) := h7
      subst hF
      have d0 := (HR.out.below hC).c0
      go_wp2_with (fail)
      exact ⟨rfl, rfl, (Below.refl _ _), rfl⟩
    · intro uF W hC' hU aF hF
      have hC : Below v.heap.size v W := hC'
      clear hC'
      have h17 : (Det (.slice (some ⟨gs, 0, none⟩) n n)) (uF 12) W := hU.1
      have h7 : (Det (.bool false)) (uF 2) W := hU.2.1
      clear hU
      simp only [puts, Act.put, List.setIfInBounds_toArray, List.set_cons_zero, List.set_cons_succ] at hF
      generalize uF 12 = x17 at h17 hF
      generalize uF 2 = x7 at h7 hF
      obtain rfl : x17 = (.slice (some ⟨gs, 0, none⟩) n n) := h17
      obtain rfl : x7 = (.bool false) := h7
      subst hF
      go_wp2_with (fail)
      exact ⟨rfl, rfl, (Below.refl _ _), rfl⟩
    · intro uF W hC' hU aF hF
      have hC : Below v.heap.size v W := hC'
      clear hC'
      have h12 : (Det (.int .i64 (k : Int))) (uF 7) W := hU.1
      have h18 : (Det (.int .i64 (n : Int))) (uF 13) W := hU.2.1
      have h7 : (Det (.bool false)) (uF 2) W := hU.2.2.1
      clear hU
      simp only [puts, Act.put, List.setIfInBounds_toArray, List.set_cons_zero, List.set_cons_succ] at hF
      generalize uF 7 = x12 at h12 hF
      generalize uF 13 = x18 at h18 hF
      generalize uF 2 = x7 at h7 hF
      obtain rfl : x12 = (.int .i64 (k : Int)) := h12
      obtain rfl : x18 = (.int .i64 (n : Int)) := h18
      obtain rfl : x7 = (.bool false) := h7
      subst hF
      go_wp2_with (fail)
      exact ⟨rfl, rfl, (Below.refl _ _), rfl⟩
    · intro uF W hC' hU aF hF
      have hC : Below v.heap.size v W := hC'
      clear hC'
      have h7 : (Det (.bool false)) (uF 2) W := hU.1
      have h19 : (Det (.bool false)) (uF 14) W := hU.2.1
      clear hU
      simp only [puts, Act.put, List.setIfInBounds_toArray, List.set_cons_zero, List.set_cons_succ] at hF
      generalize uF 2 = x7 at h7 hF
      generalize uF 14 = x19 at h19 hF
      obtain rfl : x7 = (.bool false) := h7
      obtain rfl : x19 = (.bool false) := h19
      subst hF
      go_wp2_with (fail)
      exact ⟨rfl, rfl, (Below.refl _ _), rfl⟩
  intro uF W5 hC' hU aF hF
  have hCW5 : Below v.heap.size v W5 := hC'
  clear hC'
  have h20 : (Det (.bool false)) (uF 15) W5 := hU.2.2.2.2.2.2.2.2.2.2.2.2.2.2.2.1
  clear hU
  simp only [puts, Act.put, List.setIfInBounds_toArray, List.set_cons_zero, List.set_cons_succ] at hF
  generalize uF 0 = x5 at hF
  generalize uF 1 = x6 at hF
  generalize uF 2 = x7 at hF
  generalize uF 3 = x8 at hF
  generalize uF 4 = x9 at hF
  generalize uF 5 = x10 at hF
  generalize uF 6 = x11 at hF
  generalize uF 7 = x12 at hF
  generalize uF 8 = x13 at hF
  generalize uF 9 = x14 at hF
  generalize uF 10 = x15 at hF
  generalize uF 11 = x16 at hF
  generalize uF 12 = x17 at hF
  generalize uF 13 = x18 at hF
  generalize uF 14 = x19 at hF
  generalize uF 15 = x20 at h20 hF
  obtain rfl : x20 = (.bool false) := h20
  subst hF
  have hv5 := hbv.trans (hCW5.mono hz)
  have hz5 := hv5.size
  have HR5 := Lib.hid (HR.out.below hCW5)
  have HB35 := Lib.hid (HB3.out.below hCW5 HB3.out.lt)
  go_wp2_with fail
  refine (wpIn_wide (n := 4)).1 ?_
  refine wpIn_region_rel free_wide rfl 5 (fun W W' => Below W.heap.size W W') (fun W => Below W5.heap.size W5 W)
    [Det (.pointer (some ⟨gq, 0, none⟩)), Det (.pointer (some ⟨gq, 0, none⟩)), Det (.pointer (some ⟨gq, 0, none⟩)), Det (.agg (wrow i m).toArray), Det (.agg (wrow i m).toArray), Any]
    [[], [(0, some 22)], [(1, some 23)], [], [(3, some 25)], [(2, some 24), (4, some 26)]]
    [[], [0], [0, 1], [], [3], [0, 1, 2, 3, 4]]
    [(0, some 22), (1, some 23), (2, some 24), (3, some 25), (4, some 26), (5, some 27)] (by kernel_rfl) (by kernel_rfl) (by kernel_rfl) (fun W W' h1 h2 => h1.trans (h2.mono h1.size)) ((Below.refl _ _).drew) ?_ ?_ ?_
  · exact (AllMono.cons Det.later (AllMono.cons Det.later (AllMono.cons Det.later (AllMono.cons Det.later (AllMono.cons Det.later (AllMono.cons Any.later AllMono.nil))))))
  · refine AllOb.cons ?_ (AllOb.cons ?_ (AllOb.cons ?_ (AllOb.cons ?_ (AllOb.cons ?_ (AllOb.nil)))))
    · intro uF W hC' hU aF hF
      have hC : Below W5.heap.size W5 W := hC'
      clear hC'
      simp only [puts] at hF
      subst hF
      go_wp2_with (fail)
      exact ⟨rfl, rfl, (Below.refl _ _), rfl⟩
    · intro uF W hC' hU aF hF
      have hC : Below W5.heap.size W5 W := hC'
      clear hC'
      have h22 : (Det (.pointer (some ⟨gq, 0, none⟩))) (uF 0) W := hU.1
      clear hU
      simp only [puts, Act.put, List.setIfInBounds_toArray, List.set_cons_zero, List.set_cons_succ] at hF
      generalize uF 0 = x22 at h22 hF
      obtain rfl : x22 = (.pointer (some ⟨gq, 0, none⟩)) := h22
      subst hF
      go_wp2_with (fail)
      exact ⟨rfl, rfl, (Below.refl _ _), rfl⟩
    · intro uF W hC' hU aF hF
      have hC : Below W5.heap.size W5 W := hC'
      clear hC'
      have h23 : (Det (.pointer (some ⟨gq, 0, none⟩))) (uF 1) W := hU.1
      clear hU
      simp only [puts, Act.put, List.setIfInBounds_toArray, List.set_cons_zero, List.set_cons_succ] at hF
      generalize uF 1 = x23 at h23 hF
      obtain rfl : x23 = (.pointer (some ⟨gq, 0, none⟩)) := h23
      subst hF
      go_wp2_with (fail)
      exact ⟨rfl, rfl, (Below.refl _ _), rfl⟩
    · intro uF W hC' hU aF hF
      have hC : Below W5.heap.size W5 W := hC'
      clear hC'
      simp only [puts] at hF
      subst hF
      go_wp2_with (((with_reducible show wpList _ _ _ (Oper.mk (some 25) (Op.load 48 _) _ _ _ _ :: _) _ _); refine wpList_load_whole (by rfl) 48 (.tmp 3) rfl w.heap.size rfl (wrow i m).toArray aggW rfl _ (HB35.out.below hC HB35.out.lt) ?_))
      exact ⟨rfl, rfl, (Below.refl _ _), rfl⟩
    · intro uF W hC' hU aF hF
      have hC : Below W5.heap.size W5 W := hC'
      clear hC'
      have h25 : (Det (.agg (wrow i m).toArray)) (uF 3) W := hU.1
      clear hU
      simp only [puts, Act.put, List.setIfInBounds_toArray, List.set_cons_zero, List.set_cons_succ] at hF
      generalize uF 3 = x25 at h25 hF
      obtain rfl : x25 = (.agg (wrow i m).toArray) := h25
      subst hF
      go_wp2_with ((go_at_call 33; refine (own_c i m _).mono ?_; rintro e W1 ⟨rfl, hb⟩))
      exact ⟨rfl, rfl, hb, rfl⟩
  intro uF W6 hC' hU aF hF
  have hCW6 : Below W5.heap.size W5 W6 := hC'
  clear hC'
  have h24 : (Det (.pointer (some ⟨gq, 0, none⟩))) (uF 2) W6 := hU.2.2.1
  have h26 : (Det (.agg (wrow i m).toArray)) (uF 4) W6 := hU.2.2.2.2.1
  clear hU
  simp only [List.take_succ_cons, List.take_zero, puts, Act.put, List.setIfInBounds_toArray, List.set_cons_zero, List.set_cons_succ] at hF
  generalize uF 0 = x22 at hF
  generalize uF 1 = x23 at hF
  generalize uF 2 = x24 at h24 hF
  generalize uF 3 = x25 at hF
  generalize uF 4 = x26 at h26 hF
  obtain rfl : x24 = (.pointer (some ⟨gq, 0, none⟩)) := h24
  obtain rfl : x26 = (.agg (wrow i m).toArray) := h26
  subst hF
  simp only [List.drop_succ_cons, List.drop_zero]
  have hv6 := hv5.trans (hCW6.mono hz5)
  have hz6 := hv6.size
  have HR6 := Lib.hid (HR5.out.below hCW6)
  gi_wp2
  refine ⟨trivial, callsIn_wide.2 ((push_c (base := base) HR6.out hbq hbs hx (wrow_ok i m) _ rfl).mono ?_)⟩
  rintro e W7 ⟨⟨v7, rfl⟩, h7, hb7, hf7⟩
  have H7 := Lib.hid h7
  have HB7 := Lib.hid hb7
  have HF7 := Lib.hid hf7
  clear h7 hb7 hf7
  gi_wp2
  go_wp2_with fail
  go_ret
  refine ⟨rfl, ⟨gs, f, k + 1, _, H7.out, hbq, hbs, (view_push HR0.out.len hx _).symm⟩, (hv6.mono (by omega)).trans HB7.out, Ty.of HR0.out ((Fr.below hv6).trans HF7.out)⟩

/-! ## New -/
theorem ringB (A : Option Addr) (n c : Nat) (w : World) : (Instr.build 81 #[(0, .slice A n c)]).run Try.prog w = .ok (.agg #[.slice A n c, .int .i64 0, .int .i64 0]) w := by kernel_rfl
theorem queueB (A : Option Addr) (n c : Nat) (w : World) : (Instr.build 83 #[(0, .agg #[.slice A n c, .int .i64 0, .int .i64 0])]).run Try.prog w = .ok (.agg #[.slice A n c, .int .i64 0, .int .i64 0]) w := by kernel_rfl
theorem infoW : (Try.prog.info? 48).map (fun i => (i.size, i.bytes)) = some (13, 120) := by kernel_rfl
theorem madeW0 : madeCells (Value.cells (.agg #[.int .i64 0, .int .i64 0, .int .i64 0, .int .i64 0, .int .i64 0, .int .i64 0, .slice none 0 0, .int .i64 0, .int .i64 0, .int .i64 0, .int .i64 0, .int .i64 0, .bool false])) (0 * 13) = (List.replicate 0 (wrow 0 0)).flatten.toArray := by kernel_rfl
theorem madeW1 : madeCells (Value.cells (.agg #[.int .i64 0, .int .i64 0, .int .i64 0, .int .i64 0, .int .i64 0, .int .i64 0, .slice none 0 0, .int .i64 0, .int .i64 0, .int .i64 0, .int .i64 0, .int .i64 0, .bool false])) (1 * 13) = (List.replicate 1 (wrow 0 0)).flatten.toArray := by kernel_rfl
theorem madeW2 : madeCells (Value.cells (.agg #[.int .i64 0, .int .i64 0, .int .i64 0, .int .i64 0, .int .i64 0, .int .i64 0, .slice none 0 0, .int .i64 0, .int .i64 0, .int .i64 0, .int .i64 0, .int .i64 0, .bool false])) (2 * 13) = (List.replicate 2 (wrow 0 0)).flatten.toArray := by kernel_rfl
theorem madeW3 : madeCells (Value.cells (.agg #[.int .i64 0, .int .i64 0, .int .i64 0, .int .i64 0, .int .i64 0, .int .i64 0, .slice none 0 0, .int .i64 0, .int .i64 0, .int .i64 0, .int .i64 0, .int .i64 0, .bool false])) (3 * 13) = (List.replicate 3 (wrow 0 0)).flatten.toArray := by kernel_rfl
theorem madeW4 : madeCells (Value.cells (.agg #[.int .i64 0, .int .i64 0, .int .i64 0, .int .i64 0, .int .i64 0, .int .i64 0, .slice none 0 0, .int .i64 0, .int .i64 0, .int .i64 0, .int .i64 0, .int .i64 0, .bool false])) (4 * 13) = (List.replicate 4 (wrow 0 0)).flatten.toArray := by kernel_rfl
theorem madeW5 : madeCells (Value.cells (.agg #[.int .i64 0, .int .i64 0, .int .i64 0, .int .i64 0, .int .i64 0, .int .i64 0, .slice none 0 0, .int .i64 0, .int .i64 0, .int .i64 0, .int .i64 0, .int .i64 0, .bool false])) (5 * 13) = (List.replicate 5 (wrow 0 0)).flatten.toArray := by kernel_rfl
theorem madeW6 : madeCells (Value.cells (.agg #[.int .i64 0, .int .i64 0, .int .i64 0, .int .i64 0, .int .i64 0, .int .i64 0, .slice none 0 0, .int .i64 0, .int .i64 0, .int .i64 0, .int .i64 0, .int .i64 0, .bool false])) (6 * 13) = (List.replicate 6 (wrow 0 0)).flatten.toArray := by kernel_rfl
theorem madeW7 : madeCells (Value.cells (.agg #[.int .i64 0, .int .i64 0, .int .i64 0, .int .i64 0, .int .i64 0, .int .i64 0, .slice none 0 0, .int .i64 0, .int .i64 0, .int .i64 0, .int .i64 0, .int .i64 0, .bool false])) (7 * 13) = (List.replicate 7 (wrow 0 0)).flatten.toArray := by kernel_rfl
theorem madeW8 : madeCells (Value.cells (.agg #[.int .i64 0, .int .i64 0, .int .i64 0, .int .i64 0, .int .i64 0, .int .i64 0, .slice none 0 0, .int .i64 0, .int .i64 0, .int .i64 0, .int .i64 0, .int .i64 0, .bool false])) (8 * 13) = (List.replicate 8 (wrow 0 0)).flatten.toArray := by kernel_rfl
theorem madeW (n : Nat) (hn : n ≤ 8) : madeCells (Value.cells (.agg #[.int .i64 0, .int .i64 0, .int .i64 0, .int .i64 0, .int .i64 0, .int .i64 0, .slice none 0 0, .int .i64 0, .int .i64 0, .int .i64 0, .int .i64 0, .int .i64 0, .bool false])) (n * 13) = (List.replicate n (wrow 0 0)).flatten.toArray := by
  have h : n = 0 ∨ n = 1 ∨ n = 2 ∨ n = 3 ∨ n = 4 ∨ n = 5 ∨ n = 6 ∨ n = 7 ∨ n = 8 := by omega
  rcases h with rfl | rfl | rfl | rfl | rfl | rfl | rfl | rfl | rfl 
  · exact madeW0
  · exact madeW1
  · exact madeW2
  · exact madeW3
  · exact madeW4
  · exact madeW5
  · exact madeW6
  · exact madeW7
  · exact madeW8
theorem makeW (n : Nat) (hn : n ≤ 8) (W : World) : (Instr.makeSlice 79 (.int .i64 (n : Int)) (.int .i64 (n : Int))).run Try.prog W = .ok (.slice (some ⟨W.heap.size, 0, none⟩) n n) (W.alloc (.cells (List.replicate n (wrow 0 0)).flatten.toArray 48)) := by
  obtain ⟨i, hi, hz⟩ : ∃ i, Try.prog.info? 48 = some i ∧ (i.size, i.bytes) = (13, 120) := by
    have h := infoW
    cases hh : Try.prog.info? 48 with
    | none => rw [hh] at h; cases h
    | some i => rw [hh] at h; exact ⟨i, rfl, by simpa using h⟩
  have hz0 := zeroW
  rw [hi] at hz0
  simp only [Prod.mk.injEq] at hz
  obtain ⟨hz1, hz2⟩ := hz
  simp only [Option.bind_some] at hz0
  have hr := run_make_rowN (P := Try.prog) 79 48 i _ Try.underlying79 hi hz0 .i64 .i64 n n (Nat.le_refl _) (by rw [hz2]; omega) (by omega) W
  rw [hz1, madeW n hn] at hr
  exact hr

set_option maxHeartbeats 4000000 in
theorem new_c (n : Nat) (h1 : 1 ≤ n) (h8 : n ≤ 8) (w : World) :
    Calls Try.prog 15 #[.int .i64 (n : Int)] w fun e w' => ∃ gq, e = .returned (.tuple #[.pointer (some ⟨gq, 0, none⟩), .nilIface]) ∧ Qs w' w.heap.size gq n [] ∧ Below w.heap.size w w' := by
  obtain ⟨v, hv⟩ : ∃ v, v = (w.alloc (.cells (List.replicate n (wrow 0 0)).flatten.toArray 48)).alloc (.cells #[.slice (some ⟨w.heap.size, 0, none⟩) n n, .int .i64 0, .int .i64 0] 83) := ⟨_, rfl⟩
  have hmk := makeW n h8
  have hb1 := ringB (some ⟨w.heap.size, 0, none⟩) n n
  have hb2 := queueB (some ⟨w.heap.size, 0, none⟩) n n
  have hn1 : ¬ (n : Int) < 1 := by omega
  have hn8 : ¬ (8 : Int) < (n : Int) := by omega
  have bs : Blk v w.heap.size 48 (List.replicate n (wrow 0 0)).flatten.toArray := by rw [hv]; exact (Blk.new _ _ _).alloc _
  have bq : Blk v (w.heap.size + 1) 83 #[.slice (some ⟨w.heap.size, 0, none⟩) n n, .int .i64 0, .int .i64 0] := by
    have := Blk.new (w.alloc (.cells (List.replicate n (wrow 0 0)).flatten.toArray 48)) 83 #[.slice (some ⟨w.heap.size, 0, none⟩) n n, .int .i64 0, .int .i64 0]
    rw [World.size_alloc] at this
    rw [hv]; exact this
  have hbv : Below w.heap.size w v := by rw [hv]; exact ((Below.refl _ _).alloc (Nat.le_refl _) _).alloc (by simp) _
  have hq : Qs v w.heap.size (w.heap.size + 1) n [] := ⟨w.heap.size, 0, 0, List.replicate n (wrow 0 0), ⟨bq, bs, by simp, fun r hr => by rw [List.eq_of_mem_replicate hr]; exact wrow_ok 0 0, by omega, by omega, h8⟩, by omega, Nat.le_refl _, rfl⟩
  have HQ := Lib.hid hq
  have HV := Lib.hid hv
  clear hv hq bs bq
  go_enter Try.func15, Try.ntmps15
  go_wp2_with fail
  rw [← HV.out]
  go_ret2
  exact ⟨_, rfl, HQ.out, hbv⟩

/-! ## pop and push of what waits; Drop -/
theorem popQ {w : World} {base gq n : Nat} {r : List Value} {xs : List (List Value)} (h : Qs w base gq n (r :: xs)) :
    Calls Try.prog 34 #[.pointer (some ⟨gq, 0, none⟩)] w fun e w' => e = .returned (.agg r.toArray) ∧ Qs w' base gq n xs ∧ Below base w w' ∧ Ty w w' := by
  obtain ⟨gs, f, k, rows, hR, hbq, hbs, hvw⟩ := h
  have hk : k = xs.length + 1 := by rw [← len_view n f k rows, ← hvw]; rfl
  obtain ⟨r', hr'⟩ : ∃ r', rows[f]? = some r' := ⟨rows[f]'(by rw [hR.len]; exact hR.fl), List.getElem?_eq_getElem _⟩
  have hpop := view_pop hR.len hR.fl (by omega) (k := k) hr'
  rw [← hvw] at hpop
  injection hpop with e1 e2
  subst e1
  refine (pop_c (base := base) hR hbq hbs (by omega) hr' _ rfl).mono ?_
  rintro e w3 ⟨rfl, h3, hb3, hf3⟩
  exact ⟨rfl, ⟨gs, _, k - 1, rows, h3, hbq, hbs, e2⟩, hb3, Ty.of hR (hf3.more (by simp))⟩
theorem pushQ {w : World} {base gq n : Nat} {r : List Value} {xs : List (List Value)} (h : Qs w base gq n xs) (hx : xs.length < n) (hr : r.length = 13 ∧ ∀ v ∈ r, v.oneCell' = true) :
    Calls Try.prog 32 #[.pointer (some ⟨gq, 0, none⟩), .agg r.toArray] w fun e w' => (∃ v, e = .returned v) ∧ Qs w' base gq n (xs ++ [r]) ∧ Below base w w' ∧ Ty w w' := by
  obtain ⟨gs, f, k, rows, hR, hbq, hbs, rfl⟩ := h
  rw [len_view] at hx
  refine (push_c (base := base) hR hbq hbs hx hr _ rfl).mono ?_
  rintro e w3 ⟨hv, h3, hb3, hf3⟩
  exact ⟨hv, ⟨gs, f, k + 1, _, h3, hbq, hbs, (view_push hR.len hx _).symm⟩, hb3, Ty.of hR hf3⟩
def wrw (p : Int × Int) : List Value := wrow p.1 p.2
/-- What is left of those that wait, and what came first is tried. -/
def dropped (init : Int) (ps : List (Int × Int)) (i : Nat) : List (Int × Int) := ps.drop i ++ (ps.take i).filter (fun p => p.1 != init)

/-! ## alive -/
set_option maxHeartbeats 4000000 in
theorem alive_c (w : World) : Calls Try.prog 14 #[] w fun e w' => e = .returned (.bool true) ∧ Below w.heap.size w w' := by
  have hB1 := buildW0 1
  have hB2 := buildW0 2
  go_enter Try.func14, Try.ntmps14
  go_wp2_with (first
    | (go_at_call 15; refine (new_c 1 (by omega) (by omega) w).mono ?_; rintro e w1 ⟨gq, rfl, hq1, hb1⟩; have hz1 := hb1.size)
    | (go_at_call 16; (fail_if_success have hx := P1); refine (put_c hq1 (by simp) 1 0).mono ?_; rintro e w2 ⟨rfl, hq2, hb2, ht2⟩; have hw2 := hb1.trans hb2; have hz2 := hw2.size; have P1 := True.intro)
    | (go_at_call 16; have hprev := P1; clear hprev; refine (put_full hq2 (by simp) 2 0).mono ?_; rintro e w3 ⟨rfl, hb3⟩; have hw3 := hw2.trans (hb3.mono hz2); have hz3 := hw3.size; have hq3 := hq2.below hb3)
    | (go_at_call 17; refine (take_c (r := wrow 1 0) (xs := []) hq3).mono ?_; rintro e w4 ⟨rfl, hq4, hb4, ht4⟩; have hw4 := hw3.trans hb4; have hz4 := hw4.size; have bn := Blk.new w4 48 #[.int .i64 0, .int .i64 0, .int .i64 0, .int .i64 0, .int .i64 0, .int .i64 0, .slice none 0 0, .int .i64 0, .int .i64 0, .int .i64 0, .int .i64 0, .int .i64 0, .bool false])
    | ((with_reducible show wpList _ _ _ (Oper.mk (some 5) (Op.alloc _) _ _ _ _ :: _) _ _); refine wpList_alloc_agg rfl 48 rfl #[.int .i64 0, .int .i64 0, .int .i64 0, .int .i64 0, .int .i64 0, .int .i64 0, .slice none 0 0, .int .i64 0, .int .i64 0, .int .i64 0, .int .i64 0, .int .i64 0, .bool false] zeroW ?_)
    | ((with_reducible show wpList _ _ _ (Oper.mk none (Op.store 48 (.tmp 5) _) _ _ _ _ :: _) _ _); refine wpList_store_whole rfl 48 (.tmp 5) (.tmp 26) rfl w4.heap.size rfl (wrow 1 0) rfl aggW rfl _ _ bn rfl (wrow_ok _ _).2 ?_; intro w5 b5 g5 s5; have h45 : Below w4.heap.size w4 w5 := (below_alloc _ _).grown g5 (by simp) (fun k hk => by cases hk; exact Nat.le_refl _); have d5 : w5.cell? ⟨w4.heap.size, 0, none⟩ = some (.int .i64 1) := (by rw [b5.cell]; rfl); have hq5 := hq4.below h45; clear g5 s5)
    | (go_at_call 21; refine (is_err 8 8 rfl true rfl _).mono ?_; rintro e w' ⟨rfl, rfl⟩)
    | (go_at_call 18; refine (len_c hq5).mono ?_; rintro e w' ⟨rfl, rfl⟩))
  go_ret
  exact ⟨rfl, hw4.trans (h45.mono hz4)⟩
end Go.Proofs.Ytkiiobfomnggcaa

