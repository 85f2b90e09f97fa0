/-
  queue: Drop over commands with bytes, All's iterator, same (printed by wip/gen_qx.py).
-/
import Derived.WalkMore
import Derived.Test.YtkiiobfomnggcaaQW
import Derived.Test.YtkiiobfomnggcaaNum
namespace Go.Proofs.Ytkiiobfomnggcaa
open Go.RowKit Go.Shelf
set_option linter.unusedVariables false
set_option linter.unusedSimpArgs false
set_option maxRecDepth 100000

/-- A command that waits: the program's slice, the document's. -/
structure Wt where
  i : Int
  n : Int
  k : Int
  b : Int
  A : Option Addr
  m : Nat
  c : Nat
  A2 : Option Addr
  c2 : Nat
  bs : List UInt8
def Wt.row (p : Wt) : List Value := wrb p.i p.n p.k p.b p.A p.m p.c
def Wt.row2 (p : Wt) : List Value := wrb p.i p.n p.k p.b p.A2 p.m p.c2
theorem Wt.row_ok (p : Wt) : p.row.length = 13 ∧ ∀ v ∈ p.row, v.oneCell' = true := wrb_ok _ _ _ _ _ _ _
theorem Wt.row2_ok (p : Wt) : p.row2.length = 13 ∧ ∀ v ∈ p.row2, v.oneCell' = true := wrb_ok _ _ _ _ _ _ _
/-- What is left of those that wait, and what came first is tried. -/
def droppedW (init : Int) (ps : List Wt) (i : Nat) : List Wt := ps.drop i ++ (ps.take i).filter (fun p => p.i != init)

set_option maxHeartbeats 4000000 in
theorem dropW {w : World} {base gq n : Nat} {ps : List Wt} (init : Int) (h : Qs w base gq n (ps.map Wt.row)) :
    Calls Try.prog 19 #[.pointer (some ⟨gq, 0, none⟩), .int .i64 init] w fun e w' => e = .returned (.int .i64 ((ps.length : Int) - ((ps.filter (fun p => p.i != init)).length : Int))) ∧ Qs w' base gq n ((ps.filter (fun p => p.i != init)).map Wt.row) ∧ Below base w w' ∧ Ty w w' := by
  have hle := h.le
  rw [List.length_map] at hle
  have hll : (((ps.map Wt.row).length : Nat) : Int) = (ps.length : Int) := by rw [List.length_map]
  have HQ := Lib.hid h
  have HLL := Lib.hid hll
  clear h hll
  go_enter Try.func19, Try.ntmps19
  go_wp2_with (go_at_call 18; refine (len_c HQ.out).mono ?_; rintro e w2 ⟨rfl, rfl⟩; rw [HLL.out])
  go_loopw [10] (fun v10 wr' => ∃ i : Nat, i ≤ ps.length ∧ v10 = .int .i64 (i : Int) ∧ Qs wr' base gq n ((droppedW init ps i).map Wt.row) ∧ Below base w wr' ∧ Ty w wr') (fun v10 _ => ps.length - (intOf v10).toNat)
  case atStart => exact ⟨0, by omega, rfl, by simpa [droppedW] using HQ.out, Below.refl _ _, Ty.below (Below.refl _ _)⟩
  case round =>
    obtain ⟨i, hi, rfl, hq, hb, ht⟩ := hrel
    have hzb := hb.size
    by_cases hlt : i < ps.length
    · have hil : (i : Int) < (ps.length : Int) := by omega
      have hi8 : (i : Int) ≤ 8 := by omega
      have hi0 : (0 : Int) ≤ (i : Int) := by omega
      obtain ⟨p, hp⟩ : ∃ p, p = ps[i] := ⟨_, rfl⟩
      have hd : droppedW init ps i = p :: (ps.drop (i + 1) ++ (ps.take i).filter (fun p => p.i != init)) := by
        rw [droppedW, List.drop_eq_getElem_cons hlt, hp]; rfl
      have hn : droppedW init ps (i + 1) = (ps.drop (i + 1) ++ (ps.take i).filter (fun p => p.i != init)) ++ (if p.i = init then [] else [p]) := by
        rw [droppedW, List.take_succ_eq_append_getElem hlt, List.filter_append, ← hp, List.append_assoc]
        congr 2
        by_cases he : p.i = init
        · simp [he]
        · simp [he]
      rw [hd, List.map_cons] at hq
      have hxl : ((ps.drop (i + 1) ++ (ps.take i).filter (fun p => p.i != init)).map Wt.row).length < n := by have := hq.le.1; simp only [List.length_cons] at this; omega
      have HQ := Lib.hid hq
      have HB := Lib.hid hb
      have HT := Lib.hid ht
      have HN := Lib.hid hn
      have HX := Lib.hid hxl
      clear hq hb ht hp hd hn hxl
      by_cases he : p.i = init
      · have hne : (p.i != init) = false := by simp [he]
        have HE := Lib.hid he
        clear he
        go_wp2_with (first
          | (go_at_call 34; refine (popQ HQ.out).mono ?_; rintro e w3 ⟨rfl, h3, hb3, ht3⟩; have bn := Blk.new w3 48 #[.int .i64 0, .int .i64 0, .int .i64 0, .int .i64 0, .int .i64 0, .int .i64 0, .slice none 0 0, .int .i64 0, .int .i64 0, .int .i64 0, .int .i64 0, .int .i64 0, .bool false])
          | ((with_reducible show wpList _ _ _ (Oper.mk (some 6) (Op.alloc _) _ _ _ _ :: _) _ _); refine wpList_alloc_agg rfl 48 rfl #[.int .i64 0, .int .i64 0, .int .i64 0, .int .i64 0, .int .i64 0, .int .i64 0, .slice none 0 0, .int .i64 0, .int .i64 0, .int .i64 0, .int .i64 0, .int .i64 0, .bool false] zeroW ?_)
          | ((with_reducible show wpList _ _ _ (Oper.mk none (Op.store 48 (.tmp 6) _) _ _ _ _ :: _) _ _); refine wpList_store_whole rfl 48 (.tmp 6) (.tmp 15) rfl w3.heap.size rfl p.row rfl aggW rfl _ _ bn rfl p.row_ok.2 ?_; intro w4 b4 g4 s4; have h34 : Below w3.heap.size w3 w4 := (below_alloc _ _).grown g4 (by simp) (fun k hk => by cases hk; exact Nat.le_refl _); have d4 : w4.cell? ⟨w3.heap.size, 0, none⟩ = some (.int .i64 p.i) := (by rw [b4.cell]; rfl)))
        have hz3 := hb3.size
        refine ⟨⟨i + 1, by omega, by go_num, ?_, (HB.out.trans hb3).trans (h34.mono (by omega)), (HT.out.trans ht3).trans (Ty.below h34)⟩, by simp [intOf]; omega⟩
        rw [HN.out, if_pos HE.out, List.append_nil]
        exact h3.below h34
      · have hne : (p.i != init) = true := by simpa using he
        go_wp2_with (first
          | (go_at_call 34; refine (popQ HQ.out).mono ?_; rintro e w3 ⟨rfl, h3, hb3, ht3⟩; have bn := Blk.new w3 48 #[.int .i64 0, .int .i64 0, .int .i64 0, .int .i64 0, .int .i64 0, .int .i64 0, .slice none 0 0, .int .i64 0, .int .i64 0, .int .i64 0, .int .i64 0, .int .i64 0, .bool false])
          | ((with_reducible show wpList _ _ _ (Oper.mk (some 6) (Op.alloc _) _ _ _ _ :: _) _ _); refine wpList_alloc_agg rfl 48 rfl #[.int .i64 0, .int .i64 0, .int .i64 0, .int .i64 0, .int .i64 0, .int .i64 0, .slice none 0 0, .int .i64 0, .int .i64 0, .int .i64 0, .int .i64 0, .int .i64 0, .bool false] zeroW ?_)
          | ((with_reducible show wpList _ _ _ (Oper.mk none (Op.store 48 (.tmp 6) _) _ _ _ _ :: _) _ _); refine wpList_store_whole rfl 48 (.tmp 6) (.tmp 15) rfl w3.heap.size rfl p.row rfl aggW rfl _ _ bn rfl p.row_ok.2 ?_; intro w4 b4 g4 s4; have h34 : Below w3.heap.size w3 w4 := (below_alloc _ _).grown g4 (by simp) (fun k hk => by cases hk; exact Nat.le_refl _); have d4 : w4.cell? ⟨w3.heap.size, 0, none⟩ = some (.int .i64 p.i) := (by rw [b4.cell]; rfl)))
        have HB4 := Lib.hid b4
        have HQ3 := Lib.hid (h3.below h34)
        clear b4 g4 s4
        refine (wpIn_wide (n := 4)).1 ?_
        refine wpIn_region_rel free_wide rfl 4 (fun W W' => Below W.heap.size W W') (fun W => Below w4.heap.size w4 W)
          [Det (.pointer (some ⟨gq, 0, none⟩)), Det (.pointer (some ⟨gq, 0, none⟩)), Det (.pointer (some ⟨gq, 0, none⟩)), Det (.agg p.row.toArray), Any]
          [[], [(0, some 20)], [(1, some 21)], [], [(2, some 22), (3, some 23)]]
          [[], [0], [0, 1], [], [0, 1, 2, 3]]
          [(0, some 20), (1, some 21), (2, some 22), (3, some 23), (4, some 24)] (by kernel_rfl) (by kernel_rfl) (by kernel_rfl) (fun W W' h1 h2 => h1.trans (h2.mono h1.size)) ((Below.refl _ _).drew) ?_ ?_ ?_
        · exact (AllMono.cons Det.later (AllMono.cons Det.later (AllMono.cons Det.later (AllMono.cons Det.later (AllMono.cons Any.later AllMono.nil)))))
        · refine AllOb.cons ?_ (AllOb.cons ?_ (AllOb.cons ?_ (AllOb.cons ?_ (AllOb.nil))))
          · intro uF W hC' hU aF hF
            have hC : Below w4.heap.size w4 W := hC'
            clear hC'
            simp only [puts] at hF
            subst hF
            go_wp2_with (fail)
            exact ⟨rfl, rfl, (Below.refl _ _), rfl⟩
          · intro uF W hC' hU aF hF
            have hC : Below w4.heap.size w4 W := hC'
            clear hC'
            have h20 : (Det (.pointer (some ⟨gq, 0, none⟩))) (uF 0) W := hU.1
            clear hU
            simp only [puts, Act.put, List.setIfInBounds_toArray, List.set_cons_zero, List.set_cons_succ] at hF
            generalize uF 0 = x20 at h20 hF
            obtain rfl : x20 = (.pointer (some ⟨gq, 0, none⟩)) := h20
            subst hF
            go_wp2_with (fail)
            exact ⟨rfl, rfl, (Below.refl _ _), rfl⟩
          · intro uF W hC' hU aF hF
            have hC : Below w4.heap.size w4 W := hC'
            clear hC'
            have h21 : (Det (.pointer (some ⟨gq, 0, none⟩))) (uF 1) W := hU.1
            clear hU
            simp only [puts, Act.put, List.setIfInBounds_toArray, List.set_cons_zero, List.set_cons_succ] at hF
            generalize uF 1 = x21 at h21 hF
            obtain rfl : x21 = (.pointer (some ⟨gq, 0, none⟩)) := h21
            subst hF
            go_wp2_with (fail)
            exact ⟨rfl, rfl, (Below.refl _ _), rfl⟩
          · intro uF W hC' hU aF hF
            have hC : Below w4.heap.size w4 W := hC'
            clear hC'
            simp only [puts] at hF
            subst hF
            go_wp2_with (((with_reducible show wpList _ _ _ (Oper.mk (some 23) (Op.load 48 _) _ _ _ _ :: _) _ _); refine wpList_load_whole (by rfl) 48 (.tmp 6) rfl w3.heap.size rfl p.row.toArray aggW rfl _ (HB4.out.below hC HB4.out.lt) ?_))
            exact ⟨rfl, rfl, (Below.refl _ _), rfl⟩
        intro uF W5 hC' hU aF hF
        have hCW5 : Below w4.heap.size w4 W5 := hC'
        clear hC'
        have h22 : (Det (.pointer (some ⟨gq, 0, none⟩))) (uF 2) W5 := hU.2.2.1
        have h23 : (Det (.agg p.row.toArray)) (uF 3) W5 := hU.2.2.2.1
        clear hU
        simp only [List.take_succ_cons, List.take_zero, puts, Act.put, List.setIfInBounds_toArray, List.set_cons_zero, List.set_cons_succ] at hF
        generalize uF 0 = x20 at hF
        generalize uF 1 = x21 at hF
        generalize uF 2 = x22 at h22 hF
        generalize uF 3 = x23 at h23 hF
        obtain rfl : x22 = (.pointer (some ⟨gq, 0, none⟩)) := h22
        obtain rfl : x23 = (.agg p.row.toArray) := h23
        subst hF
        simp only [List.drop_succ_cons, List.drop_zero]
        have hQ5 := HQ3.out.below hCW5
        have hz3 := hb3.size
        have hz4 := h34.size
        gi_wp2
        refine ⟨trivial, callsIn_wide.2 ((pushQ hQ5 HX.out (p.row_ok)).mono ?_)⟩
        rintro e W7 ⟨⟨v7, rfl⟩, h7, hb7, ht7⟩
        have H7 := Lib.hid h7
        have HB7 := Lib.hid hb7
        have HT7 := Lib.hid ht7
        clear h7 hb7 ht7
        gi_wp2
        go_wp2_with fail
        refine ⟨⟨i + 1, by omega, by go_num, ?_, (((HB.out.trans hb3).trans (h34.mono (by omega))).trans (hCW5.mono (by omega))).trans HB7.out, (((HT.out.trans ht3).trans (Ty.below h34)).trans (Ty.below hCW5)).trans HT7.out⟩, by simp [intOf]; omega⟩
        rw [HN.out, if_neg he, List.map_append]
        exact H7.out
    · obtain rfl : i = ps.length := by omega
      have hil : ¬ ((ps.length : Nat) : Int) < (ps.length : Int) := by omega
      rw [show droppedW init ps ps.length = ps.filter (fun p => p.i != init) by simp [droppedW]] at hq
      have hfl : (((ps.filter (fun p => p.i != init)).map Wt.row).length : Int) = ((ps.filter (fun p => p.i != init)).length : Int) := by rw [List.length_map]
      have HQ := Lib.hid hq
      have HB := Lib.hid hb
      have HT := Lib.hid ht
      have HF := Lib.hid hfl
      have hf8 : (ps.filter (fun p => p.i != init)).length ≤ ps.length := List.length_filter_le _ _
      obtain ⟨fl, hfl2⟩ : ∃ fl, fl = (ps.filter (fun p => p.i != init)).length := ⟨_, rfl⟩
      rw [← hfl2] at hf8
      have HFL2 := Lib.hid hfl2
      clear hq hb ht hfl hfl2
      go_wp2_with (go_at_call 18; refine (len_c HQ.out).mono ?_; rintro e w2 ⟨rfl, rfl⟩; rw [HF.out, ← HFL2.out])
      go_ret
      exact ⟨by rw [← HFL2.out]; rfl, HQ.out, HB.out, HT.out⟩

/-! ## same -/
set_option maxHeartbeats 4000000 in
theorem rsame_c {w : World} {B B' : Nat} {A A' : Option Addr} {m c m' c' : Nat} {ds : List UInt8} (k b : Int) (h : SlB w B A m c ds) (h' : SlB w B' A' m' c' ds) (hB : B ≤ w.heap.size) (hB' : B' ≤ w.heap.size) :
    Calls Try.prog 36 #[.agg #[.int .i64 k, .int .i64 0, .int .i64 b, .int .i64 0, .slice A m c, .int .i64 0, .int .i64 0, .int .i64 0, .int .i64 0, .int .i64 0, .bool false], .agg #[.int .i64 k, .int .i64 0, .int .i64 b, .int .i64 0, .slice A' m' c', .int .i64 0, .int .i64 0, .int .i64 0, .int .i64 0, .int .i64 0, .bool false]] w fun e w' => e = .returned (.bool true) ∧ Below w.heap.size w w' := by
  have hw : ∀ o o', Below w.heap.size w ((w.alloc o).alloc o') := fun o o' => ((Below.refl _ _).alloc (Nat.le_refl _) _).alloc (by simp) _
  have E1 := fun o o' => h.below ((hw o o').mono hB)
  have E2 := fun o o' => h'.below ((hw o o').mono hB')
  clear h h'
  go_enter Try.func36, Try.ntmps36
  have S1 := fun o o' => (E1 o o').str
  have S2 := fun o o' => (E2 o o').str
  clear E1 E2
  go_wp2
  go_ret
  exact ⟨rfl, hw _ _⟩
theorem aggCmd : AggT Try.prog 46 11 := ⟨⟨_, Try.underlying46, rfl⟩, by kernel_rfl⟩
set_option maxHeartbeats 4000000 in
theorem sameW {w : World} {B B' : Nat} {A A' : Option Addr} {m c m' c' : Nat} {ds : List UInt8} (i n k b : Int) (h : SlB w B A m c ds) (h' : SlB w B' A' m' c' ds) (hB : B ≤ w.heap.size) (hB' : B' ≤ w.heap.size) :
    Calls Try.prog 26 #[.agg (wrb i n k b A m c).toArray, .agg (wrb i n k b A' m' c').toArray] w fun e w' => e = .returned (.bool true) ∧ Below w.heap.size w w' := by
  show Calls _ _ #[.agg #[.int .i64 i, .int .i64 n, .int .i64 k, .int .i64 0, .int .i64 b, .int .i64 0, .slice A m c, .int .i64 0, .int .i64 0, .int .i64 0, .int .i64 0, .int .i64 0, .bool false], .agg #[.int .i64 i, .int .i64 n, .int .i64 k, .int .i64 0, .int .i64 b, .int .i64 0, .slice A' m' c', .int .i64 0, .int .i64 0, .int .i64 0, .int .i64 0, .int .i64 0, .bool false]] _ _
  obtain ⟨v, hv⟩ : ∃ v, v = (w.alloc (.cells #[.int .i64 i, .int .i64 n, .int .i64 k, .int .i64 0, .int .i64 b, .int .i64 0, .slice A m c, .int .i64 0, .int .i64 0, .int .i64 0, .int .i64 0, .int .i64 0, .bool false] 48)).alloc (.cells #[.int .i64 i, .int .i64 n, .int .i64 k, .int .i64 0, .int .i64 b, .int .i64 0, .slice A' m' c', .int .i64 0, .int .i64 0, .int .i64 0, .int .i64 0, .int .i64 0, .bool false] 68) := ⟨_, rfl⟩
  have b1 : Blk v w.heap.size 48 #[.int .i64 i, .int .i64 n, .int .i64 k, .int .i64 0, .int .i64 b, .int .i64 0, .slice A m c, .int .i64 0, .int .i64 0, .int .i64 0, .int .i64 0, .int .i64 0, .bool false] := by rw [hv]; exact (Blk.new _ _ _).alloc _
  have b2 : Blk v (w.heap.size + 1) 68 #[.int .i64 i, .int .i64 n, .int .i64 k, .int .i64 0, .int .i64 b, .int .i64 0, .slice A' m' c', .int .i64 0, .int .i64 0, .int .i64 0, .int .i64 0, .int .i64 0, .bool false] := by
    have := Blk.new (w.alloc (.cells #[.int .i64 i, .int .i64 n, .int .i64 k, .int .i64 0, .int .i64 b, .int .i64 0, .slice A m c, .int .i64 0, .int .i64 0, .int .i64 0, .int .i64 0, .int .i64 0, .bool false] 48)) 68 #[.int .i64 i, .int .i64 n, .int .i64 k, .int .i64 0, .int .i64 b, .int .i64 0, .slice A' m' c', .int .i64 0, .int .i64 0, .int .i64 0, .int .i64 0, .int .i64 0, .bool false]
    rw [World.size_alloc] at this
    rw [hv]; exact this
  have hbv : Below w.heap.size w v := by rw [hv]; exact ((Below.refl _ _).alloc (Nat.le_refl _) _).alloc (by simp) _
  have hz := hbv.size
  have d10 : v.cell? ⟨w.heap.size, 0, none⟩ = some (.int .i64 i) := by rw [b1.cell]; rfl
  have d11 : v.cell? ⟨w.heap.size, 1, none⟩ = some (.int .i64 n) := by rw [b1.cell]; rfl
  have d20 : v.cell? ⟨w.heap.size + 1, 0, none⟩ = some (.int .i64 i) := by rw [b2.cell]; rfl
  have d21 : v.cell? ⟨w.heap.size + 1, 1, none⟩ = some (.int .i64 n) := by rw [b2.cell]; rfl
  have hi1 : (i == i) = true := by simp
  have hn1 : (n == n) = true := by simp
  have HS1 := Lib.hid (h.below (hbv.mono hB))
  have HS2 := Lib.hid (h'.below (hbv.mono hB'))
  have HV := Lib.hid hv
  have HB1 := Lib.hid b1
  have HB2 := Lib.hid b2
  clear hv b1 b2 h h'
  go_enter Try.func26, Try.ntmps26
  go_wp2_with (first
    | ((with_reducible show wpList _ _ _ (Oper.mk (some 5) _ _ _ _ _ :: _) _ _); rw [← HV.out]; fail_if_success rw [← HV.out]; fail)
    | ((with_reducible show wpList _ _ _ (Oper.mk (some 19) (Op.load _ _) _ _ _ _ :: _) _ _); refine wpList_load_agg (by rfl) 46 (.tmp 18) rfl w.heap.size 2 rfl #[.int .i64 k, .int .i64 0, .int .i64 b, .int .i64 0, .slice A m c, .int .i64 0, .int .i64 0, .int .i64 0, .int .i64 0, .int .i64 0, .bool false] aggCmd rfl (fun j v hv => by rw [HB1.out.cell]; rcases j with _ | _ | _ | _ | _ | _ | _ | _ | _ | _ | _ | j <;> first | exact hv | (simp at hv)) ?_)
    | ((with_reducible show wpList _ _ _ (Oper.mk (some 21) (Op.load _ _) _ _ _ _ :: _) _ _); refine wpList_load_agg (by rfl) 46 (.tmp 20) rfl (w.heap.size + 1) 2 rfl #[.int .i64 k, .int .i64 0, .int .i64 b, .int .i64 0, .slice A' m' c', .int .i64 0, .int .i64 0, .int .i64 0, .int .i64 0, .int .i64 0, .bool false] aggCmd rfl (fun j v hv => by rw [HB2.out.cell]; rcases j with _ | _ | _ | _ | _ | _ | _ | _ | _ | _ | _ | j <;> first | exact hv | (simp at hv)) ?_)
    | (go_at_call 36; refine (rsame_c k b HS1.out HS2.out (Nat.le_trans hB hz) (Nat.le_trans hB' hz)).mono ?_; rintro e w2 ⟨rfl, hb2⟩))
  go_ret
  exact ⟨rfl, hbv.trans (hb2.mono hz)⟩

/-! ## All's iterator -/
def nthW (ps : List Wt) (j : Nat) : Wt := (ps[j]?).getD ⟨0, 0, 0, 0, none, 0, 0, none, 0, []⟩
theorem nthW_some {ps : List Wt} {j : Nat} (h : j < ps.length) : ps[j]? = some (nthW ps j) := by rw [nthW, List.getElem?_eq_getElem h]; rfl
theorem nthW_mem {ps : List Wt} {j : Nat} (h : j < ps.length) : nthW ps j ∈ ps := List.mem_of_getElem? (nthW_some h)
def encW (ps : List Wt) (x : Nat × Option Addr × Nat) : Array Value := #[.int .i64 (x.1 : Int), .agg (wrb (nthW ps x.1).i (nthW ps x.1).n (nthW ps x.1).k (nthW ps x.1).b x.2.1 (nthW ps x.1).m x.2.2).toArray]
/-- What holds of a command that is handed out. -/
def GW (b : Nat) (ps : List Wt) (O : Nat → Prop) (pre : List (Nat × Option Addr × Nat)) (x : Nat × Option Addr × Nat) (W : World) : Prop :=
  x.1 = pre.length ∧ x.1 < ps.length ∧ OwB W b x.2.1 (nthW ps x.1).m x.2.2 (nthW ps x.1).bs ∧ ∀ g, wrote x.2.1 x.2.2 = some g → O g
theorem view_at {n f k : Nat} {rows : List (List Value)} (hl : rows.length = n) (hf : f < n) {ps : List Wt} (hv : view n f k rows = ps.map Wt.row) {j : Nat} (hj : j < ps.length) : rows[(f + j) % n]? = some (nthW ps j).row := by
  have hk : k = ps.length := by rw [← len_view n f k rows, hv, List.length_map]
  have h1 : (view n f k rows)[j]? = some (nthW ps j).row := by rw [hv, List.getElem?_map, nthW_some hj]; rfl
  have hn : (f + j) % n < rows.length := by rw [hl]; exact Nat.mod_lt _ (by omega)
  rw [view, List.getElem?_map, List.getElem?_range (by omega)] at h1
  simp only [Option.map_some, Option.some.injEq] at h1
  rw [List.getElem?_eq_getElem hn] at h1 ⊢
  rw [← h1]; rfl
theorem Rg.kept {w w' : World} {gq gs n f k : Nat} {rows : List (List Value)} {O O' : Nat → Prop} (h : Rg w gq gs n f k rows) (hk : Kept O O' w w') (h1 : ¬ O gq) (h2 : ¬ O gs) : Rg w' gq gs n f k rows :=
  ⟨hk.blk h.bq h1, hk.blk h.bs h2, h.len, h.row, h.fl, h.kl, h.le8⟩

set_option maxHeartbeats 4000000 in
theorem all_iter {w : World} {p1 gq gs n f k base : Nat} {rows : List (List Value)} {ps : List Wt} (b1 : Blk w p1 37 #[.pointer (some ⟨gq, 0, none⟩)]) (hR : Rg w gq gs n f k rows) (hv : view n f k rows = ps.map Wt.row) (hd : ∀ p ∈ ps, OwB w base p.A p.m p.c p.bs ∧ p.m ≤ 140737488351232) :
    IterG Try.prog 37 #[.pointer (some ⟨p1, 0, none⟩)] (encW ps) (fun q => q ≠ p1 ∧ q ≠ gq ∧ q ≠ gs ∧ ∀ p ∈ ps, wrote p.A p.c ≠ some q) (GW w.heap.size ps) (fun xs => xs.length = ps.length) (fun pre => pre.length ≤ ps.length) w := by
  intro l J Jx O W hW hJ hJx hJm hO hY h0
  refine callsIn_wide.2 ?_
  show Calls _ _ #[.func (.yield l) #[] #[], .pointer (some ⟨p1, 0, none⟩)] _ _
  have hk : k = ps.length := by rw [← len_view n f k rows, hv, List.length_map]
  have h8 := hR.le8
  have hkl := hR.kl
  have hfl := hR.fl
  have B1 := b1.below hW b1.lt
  have R1 := hR.below hW
  have hzW := hW.size
  have d1 : W.cell? ⟨p1, 0, none⟩ = some (.pointer (some ⟨gq, 0, none⟩)) := by rw [B1.cell]; rfl
  have HQ := Lib.hid (show Qs W 0 gq n (ps.map Wt.row) from ⟨gs, f, k, rows, R1, Nat.zero_le _, Nat.zero_le _, hv.symm⟩)
  have HLL := Lib.hid (show (((ps.map Wt.row).length : Nat) : Int) = (ps.length : Int) by rw [List.length_map])
  have HD := Lib.hid (show ∀ p ∈ ps, OwB W base p.A p.m p.c p.bs from fun p hp => (hd p hp).1.below hW)
  have HM := Lib.hid (show ∀ p ∈ ps, p.m ≤ 140737488351232 from fun p hp => (hd p hp).2)
  have HY := Lib.hid hY
  have HB1 := Lib.hid B1
  have HR1 := Lib.hid R1
  have HJ := Lib.hid hJ
  have HJM := Lib.hid hJm
  have HVW := Lib.hid hv
  have ho1 : ¬ O p1 := fun h => (hO _ h).1.1 rfl
  have ho2 : ¬ O gq := fun h => (hO _ h).1.2.1 rfl
  have ho3 : ¬ O gs := fun h => (hO _ h).1.2.2.1 rfl
  have HO4 := Lib.hid (show ∀ p ∈ ps, NotIn O p.A p.c from fun p hp g e h => (hO _ h).1.2.2.2 p hp e)
  clear hY b1 B1 R1 hR hJ hJm hO hd hv
  go_enter Try.func37, Try.ntmps37
  go_wp2_with fail
  go_step3
  go_wp2_with (go_at_call 18; refine (len_c HQ.out).mono ?_; rintro e w2 ⟨rfl, rfl⟩; rw [HLL.out])
  go_step3
  go_wp2_with (go_at_call 18; refine (len_c HQ.out).mono ?_; rintro e w2 ⟨rfl, rfl⟩; rw [HLL.out])
  go_loopw [6] (fun v6 wr => ∃ (j : Nat) (O : Nat → Prop) (pre : List (Nat × Option Addr × Nat)), pre.length = j ∧ j ≤ ps.length ∧ v6 = .int .i64 (j : Int) ∧
    J O pre wr ∧ ¬ O p1 ∧ ¬ O gq ∧ ¬ O gs ∧ (∀ p ∈ ps, NotIn O p.A p.c) ∧ Blk wr p1 37 #[.pointer (some ⟨gq, 0, none⟩)] ∧ Rg wr gq gs n f k rows ∧ (∀ p ∈ ps, OwB wr base p.A p.m p.c p.bs) ∧ W.heap.size ≤ wr.heap.size) (fun v6 _ => ps.length - (intOf v6).toNat)
  case atStart => exact ⟨0, O, [], rfl, by omega, rfl, h0, ho1, ho2, ho3, HO4.out, HB1.out, HR1.out, HD.out, Nat.le_refl _⟩
  case round =>
    clear HB1 HR1 HD HO4 HQ h0 ho1 ho2 ho3 d1
    obtain ⟨j, O, pre, hpre, hjl, rfl, hj, ho1, ho2, ho3, hO4, C1, CR, hD, hz⟩ := hrel
    have HO4 := Lib.hid hO4
    have HPRE := Lib.hid hpre
    have HC1 := Lib.hid C1
    have HCR := Lib.hid CR
    have HJ0 := Lib.hid hj
    have HD := Lib.hid hD
    have hj0 : (0 : Int) ≤ (j : Int) := by omega
    have hj8 : (j : Int) ≤ 8 := by omega
    have d1 : wr.cell? ⟨p1, 0, none⟩ = some (.pointer (some ⟨gq, 0, none⟩)) := by rw [C1.cell]; rfl
    clear hO4 hpre C1 CR hj hD
    by_cases hlt : j < ps.length
    · have hil : (j : Int) < (ps.length : Int) := by omega
      obtain ⟨p, hp⟩ : ∃ p, p = nthW ps j := ⟨_, rfl⟩
      have HROW := Lib.hid (show rows[(f + j) % n]? = some p.row by rw [hp]; exact view_at HCR.out.len hfl HVW.out hlt)
      have HPM := Lib.hid (show p ∈ ps by rw [hp]; exact nthW_mem hlt)
      have HP := Lib.hid hp
      have hpm := HM.out p HPM.out
      obtain ⟨jj, hjj⟩ : ∃ jj, jj = (f + j) % n := ⟨_, rfl⟩
      have HJJ := Lib.hid hjj
      clear hp hjj
      refine (wpIn_wide (n := 4)).1 ?_
      refine wpIn_seq_k fun K1 hK1 => ?_
      have HK1 := Lib.hid hK1
      clear hK1
      gi_wp2
      refine HK1.out _ _ ?_
      refine wpIn_seq_k fun K2 hK2 => ?_
      have HK2 := Lib.hid hK2
      clear hK2
      gi_wp2
      refine HK2.out _ _ ?_
      refine wpIn_seq_k fun K3 hK3 => ?_
      have HK3 := Lib.hid hK3
      clear hK3
      refine wpIn_block ?_
      refine wpIn_seq_k fun K4 hK4 => ?_
      have HK4 := Lib.hid hK4
      clear hK4
      gi_wp2
      refine HK4.out _ _ ?_
      refine wpIn_seq_k fun K5 hK5 => ?_
      have HK5 := Lib.hid hK5
      clear hK5
      refine wpIn_region_lit ?_
      refine wpListIn_cut free_wide 10 rfl ?_
      simp only [List.take_succ_cons, List.take_zero, List.drop_succ_cons, List.drop_zero]
      go_wp2_with (first
        | (go_at_call 38; refine (at_c HCR.out j (by omega) jj HJJ.out).mono ?_; rintro e W1 ⟨rfl, hb1⟩; have hz1 := hb1.size)
        | ((with_reducible show wpList _ _ _ (Oper.mk (some 17) (Op.load _ _) _ _ _ _ :: _) _ _); refine wpList_load_agg (by rfl) 48 (.tmp 16) rfl gs (13 * jj) rfl (wrb p.i p.n p.k p.b p.A p.m p.c).toArray aggW rfl (fun t v hv => by rw [(HCR.out.below hb1).bs.cell]; exact HCR.out.row.get (by rw [HJJ.out]; exact HROW.out) (by simpa [Wt.row] using hv)) ?_)
        | (go_at_call 33; refine (own_w p.i p.n p.k p.b ((HD.out p HPM.out).below hb1).sl (Nat.le_refl _) (by omega)).mono ?_; rintro e W5 ⟨A5, c5, rfl, ho5, hb5⟩))
      have hb15 : Below wr.heap.size wr W5 := hb1.trans (hb5.mono hz1)
      obtain ⟨gg, hgg, hgw⟩ : ∃ gg, wr.heap.size ≤ gg ∧ ∀ g, wrote A5 c5 = some g → g = gg := by
        rcases Row.wrote_lt ho5 with h1 | ⟨g, _, h1, hg, _⟩
        · exact ⟨wr.heap.size, Nat.le_refl _, fun g e => by rw [h1] at e; cases e⟩
        · exact ⟨g, by omega, fun g' e => by rw [h1] at e; cases e; rfl⟩
      have hj5 : J (fun k => O k ∨ k = gg) pre W5 := HJM.out O pre wr W5 gg HJ0.out hb15 hgg
      obtain ⟨fn, tmps, assign, body, hy, hR⟩ := HY.out (fun k => O k ∨ k = gg) pre (j, A5, c5) W5 hj5 ⟨HPRE.out.symm, hlt, by have := Row.base_le ho5 (Nat.le_trans hzW (Nat.le_trans hz hz1)); rw [← HP.out]; exact this, fun g e => .inr (hgw g e)⟩
      have k5 : Kept O (fun k => O k ∨ k = gg) wr W5 := (Kept.below hb15).gain gg hgg
      rw [encW] at hy
      simp only [← HP.out] at hy
      have HR := Lib.hid hR
      clear hR hj5 hgw ho5
      gi_wp2
      refine HR.out.mono ?_
      rintro e W3 (⟨rfl, O3, hJ3, hk3⟩ | ⟨rfl, _, hJx3⟩)
      · have kk := k5.trans hk3
        have E1 := Lib.hid (kk.blk HC1.out ho1)
        have ER := Lib.hid (HCR.out.kept kk ho2 ho3)
        have ED := Lib.hid (show ∀ p ∈ ps, OwB W3 base p.A p.m p.c p.bs from fun p hp => OwB.kept (HD.out p hp) kk (HO4.out p hp))
        have EO := Lib.hid (show ∀ p ∈ ps, NotIn O3 p.A p.c from fun p hp => NotIn.kept (HD.out p hp) kk (HO4.out p hp))
        have e1 := kk.far HC1.out.lt ho1
        have e2 := kk.far HCR.out.bq.lt ho2
        have e3 := kk.far HCR.out.bs.lt ho3
        have EJ := Lib.hid hJ3
        have ez := Nat.le_trans hz kk.size
        clear hJ3 hk3 kk k5
        gi_wp2
        refine HK5.out _ _ ?_
        gi_wp2
        refine HK3.out _ _ ?_
        gi_wp2
        exact ⟨⟨j + 1, O3, pre ++ [(j, A5, c5)], by rw [List.length_append, HPRE.out]; rfl, by omega, by go_num, EJ.out, e1, e2, e3, EO.out, E1.out, ER.out, ED.out, ez⟩, by simp [intOf]; omega⟩
      · gi_wp2
        refine HK5.out _ _ ?_
        gi_wp2
        go_wp2_with fail
        unfold Exit.noGoto
        go_end0
        exact ⟨⟨_, rfl⟩, .inr ⟨_, by rw [List.length_append, HPRE.out]; exact hlt, hJx3⟩⟩
    · obtain rfl : j = ps.length := by omega
      have hil : ¬ (ps.length : Int) < (ps.length : Int) := by omega
      go_wp2_with fail
      show bodyPost _ _ _ Exit.normal _ _
      go_end0
      exact ⟨⟨_, rfl⟩, .inl ⟨O, pre, HPRE.out, HJ0.out⟩⟩
end Go.Proofs.Ytkiiobfomnggcaa

