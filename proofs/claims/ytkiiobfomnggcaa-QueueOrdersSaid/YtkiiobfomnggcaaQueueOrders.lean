/-
  QueueOrders: in order, once, never more than the bound (printed by wip/gen_qord.py).
-/
import Derived.Test.YtkiiobfomnggcaaRingOps
namespace Go.Proofs.Ytkiiobfomnggcaa.queueOrders
open Go.RowKit
set_option linter.unusedVariables false
set_option linter.unusedSimpArgs false
set_option maxRecDepth 100000

theorem bools {w : World} {cs : List Value} (h : Rds w (.slice .bool 1 1) cs) : ∃ (A : Option Addr) (n c : Nat) (bs : List Bool), cs = [.slice A n c] ∧ Sl w w.heap.size 1 A n c (bs.map Value.bool) ∧ c ≤ 140737488351232 := by
  obtain ⟨A, n, c, rows, e, hc, hn, hr, hs⟩ := h
  have H : ∀ rows : List (List Value), (∀ r ∈ rows, r.length = 1 ∧ Rds w .bool r) → ∃ bs : List Bool, rows.flatten = bs.map Value.bool := by
    intro rows
    induction rows with
    | nil => exact fun _ => ⟨[], rfl⟩
    | cons r rows ih =>
      intro hr
      obtain ⟨bs, h1⟩ := ih (fun x hx => hr x (List.mem_cons_of_mem _ hx))
      obtain ⟨_, b, rfl⟩ := hr r (List.mem_cons_self ..)
      exact ⟨b :: bs, by rw [List.flatten_cons, h1]; rfl⟩
  obtain ⟨bs, hb⟩ := H rows hr
  rw [hb] at hs
  exact ⟨A, n, c, bs, e, hs, by omega⟩
theorem wrap_u64_nn (x : Int) : 0 ≤ IntKind.u64.wrap x := by rw [wrap_u64]; omega
/-- What waits: k numbers from f on. -/
def qx (f k : Nat) : List (List Value) := (List.range k).map fun t => wrow 0 ((f + t : Nat) : Int)
theorem len_qx (f k : Nat) : (qx f k).length = k := by simp [qx]
theorem qx_push {f k b : Nat} (h : b = f + k) : qx f k ++ [wrow 0 (b : Int)] = qx f (k + 1) := by rw [qx, qx, List.range_succ, List.map_append, h]; rfl
theorem qx_pop (f k : Nat) : qx f (k + 1) = wrow 0 (f : Int) :: qx (f + 1) k := by
  rw [qx, qx, List.range_succ_eq_map, List.map_cons, List.map_map]
  congr 1
  refine List.map_congr_left fun i _ => ?_
  simp only [Function.comp]
  congr 2
  omega

set_option maxHeartbeats 4000000 in
theorem walk (a0 : Int) (v1 : Value) (w : World) (x0 : (Lit.int .i64 a0).wf = true) (R1 : Rds w (.slice .bool 1 1) [v1]) :
    Calls Try.prog 4 #[.int .i64 a0, v1] w fun e w' => e = .returned (.bool true) ∧ Below w.heap.size w w' := by
  obtain ⟨A, m, c, bs, e1, hs, hc⟩ := bools R1
  obtain rfl : v1 = .slice A m c := by simpa using e1
  clear R1 e1
  have hlen : bs.length = m := by have := hs.1; simpa using this
  have hmc : m ≤ c := hs.2.1
  obtain ⟨u, hu⟩ : ∃ u : Nat, IntKind.u64.wrap a0 = (u : Int) := ⟨(IntKind.u64.wrap a0).toNat, by rw [Int.toNat_of_nonneg (wrap_u64_nn _)]⟩
  obtain ⟨kk, hkk⟩ : ∃ kk : Nat, kk = u % 8 := ⟨_, rfl⟩
  obtain ⟨n, hnn⟩ : ∃ n : Nat, n = 1 + kk := ⟨_, rfl⟩
  have hn1 : 1 ≤ n := by omega
  have hn8 : n ≤ 8 := by omega
  have htm : ((u : Int)).tmod 8 = (kk : Int) := by rw [Int.tmod_eq_emod_of_nonneg (by omega)]; omega
  have hmd : (u : Int) % 8 = (kk : Int) := by omega
  have hMi : 1 + (kk : Int) = (n : Int) := by omega
  have hu8 : (kk : Int) < 8 := by omega
  have hu0 : (0 : Int) ≤ (kk : Int) := by omega
  clear hkk hnn
  have HS := Lib.hid hs
  have HL := Lib.hid hlen
  clear hs hlen
  go_enter Try.func4, Try.ntmps4
  by_cases hbig : (400 : Int) < (m : Int)
  · go_wp2_with (go_at_call 14; refine (alive_c w).mono ?_; rintro e w1 ⟨rfl, hb1⟩; have hz1 := hb1.size)
    go_ret
    exact ⟨rfl, hb1⟩
  have hm400 : m ≤ 400 := by omega
  go_wp2_with (first
    | (go_at_call 14; refine (alive_c w).mono ?_; rintro e w1 ⟨rfl, hb1⟩; have hz1 := hb1.size)
    | (go_at_call 15; refine (new_c n hn1 hn8 w1).mono ?_; rintro e w2 ⟨gq, rfl, hq2, hb2⟩; have hw2 := hb1.trans (hb2.mono hz1); have hz2 := hw2.size; have HQ2 := Lib.hid hq2; have HW2 := Lib.hid hw2; clear hq2 hw2))
  go_loopw [7, 8, 33] (fun v7 v8 v33 wr => ∃ i f k b : Nat, i ≤ m ∧ b = f + k ∧ b ≤ i ∧ k ≤ n ∧ v33 = .int .i64 (i : Int) ∧ v7 = .int .i64 (f : Int) ∧ v8 = .int .i64 (b : Int) ∧ Qs wr w1.heap.size gq n (qx f k) ∧ Below w.heap.size w wr) (fun _ _ v33 _ => m - (intOf v33).toNat)
  case atStart => exact ⟨0, 0, 0, 0, by omega, rfl, by omega, by omega, rfl, rfl, rfl, HQ2.out, HW2.out⟩
  case round =>
    obtain ⟨i, f, k, b, hi, hb, hbi, hkn, rfl, rfl, rfl, hq, hw⟩ := hrel
    have hzw := hw.size
    have hi0 : (0 : Int) ≤ (i : Int) := by omega
    by_cases hlt : i < m
    · have hil : (i : Int) < (m : Int) := by omega
      have hib : (i : Int) ≤ 400 := by omega
      have hb0 : (0 : Int) ≤ (b : Int) := by omega
      have hbb : (b : Int) ≤ 400 := by omega
      have hf0 : (0 : Int) ≤ (f : Int) := by omega
      have hfb : (f : Int) ≤ 400 := by omega
      have hk0 : (0 : Int) ≤ (k : Int) := by omega
      have hkb : (k : Int) ≤ 8 := by omega
      obtain ⟨g0, off, rfl, hg0, hcells⟩ := HS.out.2.2.2 (by omega)
      obtain ⟨p, hp⟩ : ∃ p, bs[i]? = some p := ⟨bs[i]'(by rw [HL.out]; exact hlt), List.getElem?_eq_getElem _⟩
      have dp : wr.cell? ⟨g0, off + i, none⟩ = some (.bool p) := (hw.cell (p := ⟨g0, off + i, none⟩) hg0).trans (hcells i _ (by rw [List.getElem?_map, hp]; rfl))
      have hbf : (b : Int) - (f : Int) = (k : Int) := by omega
      have hkk1 : ((k : Int) != (k : Int)) = false := by simp
      have HQ := Lib.hid hq
      have HW := Lib.hid hw
      have HB := Lib.hid hb
      clear hq hw hcells hp hb
      cases p with
      | true =>
        have hB1 := buildW1 (b : Int)
        by_cases hkl : k < n
        · have hkl' : (k : Int) < (n : Int) := by omega
          have hbf2 : (b : Int) + 1 - (f : Int) = (k : Int) + 1 := by omega
          have hkc : (((k + 1 : Nat)) : Int) = (k : Int) + 1 := by omega
          have HKC := Lib.hid hkc
          have hkk2 : ((k : Int) + 1 != (k : Int) + 1) = false := by simp
          clear hkc
          go_wp2_with (first
            | (go_at_call 16; refine (put_c HQ.out (by rw [len_qx]; exact hkl) 0 (b : Int)).mono ?_; rintro e w4 ⟨rfl, hq4, hb4, ht4⟩; rw [qx_push HB.out] at hq4)
            | (go_at_call 18; refine (len_c hq4).mono ?_; rintro e w9 ⟨rfl, rfl⟩; rw [len_qx]; rw [HKC.out]))
          exact ⟨⟨i + 1, f, k + 1, b + 1, by omega, by have := HB.out; omega, by omega, by omega, by go_num, rfl, by go_num, hq4, HW.out.trans (hb4.mono hz1)⟩, by simp [intOf]; omega⟩
        · have hkl' : ¬ (k : Int) < (n : Int) := by omega
          go_wp2_with (first
            | (go_at_call 16; refine (put_full HQ.out (by rw [len_qx]; omega) 0 (b : Int)).mono ?_; rintro e w4 ⟨rfl, hb4⟩; have hq4 := HQ.out.below hb4)
            | (go_at_call 18; refine (len_c hq4).mono ?_; rintro e w9 ⟨rfl, rfl⟩; rw [len_qx]))
          exact ⟨⟨i + 1, f, k, b, by omega, HB.out, by omega, hkn, by go_num, rfl, rfl, hq4, HW.out.trans (hb4.mono hzw)⟩, by simp [intOf]; omega⟩
      | false =>
        by_cases hk1 : k = 0
        · have hkz : k = 0 := hk1
          obtain rfl := hkz
          have hnb : ¬ (f : Int) < (b : Int) := by omega
          have hbf0 : (b : Int) - (f : Int) = 0 := by omega
          clear hbf hkk1
          go_wp2_with (first
            | (go_at_call 17; refine (take_no (.pointer (some ⟨gq, 0, none⟩)) (len_c (HQ.out.below (below_alloc _ _)))).mono ?_; rintro e w4 ⟨rfl, hb4⟩; have bn := Blk.new w4 48 #[.int .i64 0, .int .i64 0, .int .i64 0, .int .i64 0, .int .i64 0, .int .i64 0, .slice none 0 0, .int .i64 0, .int .i64 0, .int .i64 0, .int .i64 0, .int .i64 0, .bool false])
            | ((with_reducible show wpList _ _ _ (Oper.mk (some 12) (Op.alloc _) _ _ _ _ :: _) _ _); refine wpList_alloc_agg rfl 48 rfl #[.int .i64 0, .int .i64 0, .int .i64 0, .int .i64 0, .int .i64 0, .int .i64 0, .slice none 0 0, .int .i64 0, .int .i64 0, .int .i64 0, .int .i64 0, .int .i64 0, .bool false] zeroW ?_)
            | ((with_reducible show wpList _ _ _ (Oper.mk none (Op.store 48 (.tmp 12) _) _ _ _ _ :: _) _ _); refine wpList_store_whole rfl 48 (.tmp 12) (.tmp 57) rfl w4.heap.size rfl [.int .i64 0, .int .i64 0, .int .i64 0, .int .i64 0, .int .i64 0, .int .i64 0, .slice none 0 0, .int .i64 0, .int .i64 0, .int .i64 0, .int .i64 0, .int .i64 0, .bool false] rfl aggW rfl _ _ bn rfl (by simp [Value.oneCell']) ?_; intro w5 b5 g5 s5; have h45 : Below w4.heap.size w4 w5 := (below_alloc _ _).grown g5 (by simp) (fun k hk => by cases hk; exact Nat.le_refl _); have hq5 := (HQ.out.below hb4).below h45; clear g5 s5)
            | (go_at_call 18; refine (len_c hq5).mono ?_; rintro e w9 ⟨rfl, rfl⟩; rw [len_qx]))
          exact ⟨⟨i + 1, f, 0, b, by omega, HB.out, by omega, hkn, by go_num, rfl, rfl, hq5, HW.out.trans ((hb4.trans (h45.mono hb4.size)).mono hzw)⟩, by simp [intOf]; omega⟩
        · obtain ⟨j, rfl⟩ : ∃ j, k = j + 1 := ⟨k - 1, by omega⟩
          have hnb : (f : Int) < (b : Int) := by omega
          have hbf3 : (b : Int) - ((f : Int) + 1) = (j : Int) := by omega
          have hjj : ((j : Int) != (j : Int)) = false := by simp
          have hff : ((f : Int) != (f : Int)) = false := by simp
          have hQ := HQ.out
          rw [qx_pop] at hQ
          have HQ1 := Lib.hid hQ
          clear hQ hbf hkk1
          go_wp2_with (first
            | (go_at_call 17; refine (take_c HQ1.out).mono ?_; rintro e w4 ⟨rfl, hq4, hb4, ht4⟩; have bn := Blk.new w4 48 #[.int .i64 0, .int .i64 0, .int .i64 0, .int .i64 0, .int .i64 0, .int .i64 0, .slice none 0 0, .int .i64 0, .int .i64 0, .int .i64 0, .int .i64 0, .int .i64 0, .bool false])
            | ((with_reducible show wpList _ _ _ (Oper.mk (some 12) (Op.alloc _) _ _ _ _ :: _) _ _); refine wpList_alloc_agg rfl 48 rfl #[.int .i64 0, .int .i64 0, .int .i64 0, .int .i64 0, .int .i64 0, .int .i64 0, .slice none 0 0, .int .i64 0, .int .i64 0, .int .i64 0, .int .i64 0, .int .i64 0, .bool false] zeroW ?_)
            | ((with_reducible show wpList _ _ _ (Oper.mk none (Op.store 48 (.tmp 12) _) _ _ _ _ :: _) _ _); refine wpList_store_whole rfl 48 (.tmp 12) (.tmp 57) rfl w4.heap.size rfl (wrow 0 (f : Int)) rfl aggW rfl _ _ bn rfl (wrow_ok _ _).2 ?_; intro w5 b5 g5 s5; have h45 : Below w4.heap.size w4 w5 := (below_alloc _ _).grown g5 (by simp) (fun k hk => by cases hk; exact Nat.le_refl _); have hq5 := hq4.below h45; have d5 : w5.cell? ⟨w4.heap.size, 1, none⟩ = some (.int .i64 (f : Int)) := (by rw [b5.cell]; rfl); clear g5 s5)
            | (go_at_call 18; refine (len_c hq5).mono ?_; rintro e w9 ⟨rfl, rfl⟩; rw [len_qx]))
          exact ⟨⟨i + 1, f + 1, j, b, by omega, by have := HB.out; omega, by omega, by omega, by go_num, by go_num, rfl, hq5, (HW.out.trans (hb4.mono hz1)).trans (h45.mono (by have := hb4.size; omega))⟩, by simp [intOf]; omega⟩
    · obtain rfl : i = m := by omega
      have hil : ¬ (i : Int) < (i : Int) := by omega
      have HW := Lib.hid hw
      clear hq hw
      go_wp2_with fail
      go_ret
      exact ⟨rfl, HW.out⟩
end Go.Proofs.Ytkiiobfomnggcaa.queueOrders
