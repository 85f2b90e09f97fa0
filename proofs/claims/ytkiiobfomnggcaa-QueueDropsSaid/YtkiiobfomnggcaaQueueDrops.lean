/-
  QueueDrops: of those that wait an initiator's go, the others stay in their order (printed by wip/gen_qdrop.py).
-/
import Derived.Test.YtkiiobfomnggcaaRingOps
namespace Go.Proofs.Ytkiiobfomnggcaa.queueDrops
open Go.RowKit
set_option linter.unusedVariables false
set_option linter.unusedSimpArgs false
set_option maxRecDepth 100000

theorem int_info : (Try.prog.info? 3).map (fun i => (i.zero, i.size, i.bytes)) = some (some (.int .i64 0), 1, 8) := by kernel_rfl
theorem wpList_appendI {ops : Array Oper} {rest : List Oper} {o : Oper} {a : Act} {Q : Exit → Act → World → Prop} {w : World} (hgd : o.guard = none) (s x : Operand)
    (ho : o.op = .call { callee := .builtin .append, args := #[s, x], argTypes := #[53, 53] })
    {base : Nat} {A : Option Addr} {n c : Nat} {xs : List Value} (hs : a.eval s = .slice A n c) (hown : Row w base 3 1 A n c xs)
    {B : Nat} {A2 : Option Addr} {c2 : Nat} {z : Int} (hx : a.eval x = .slice A2 1 c2) (hr : Sl w B 1 A2 1 c2 [.int .i64 z])
    (hn : n ≤ 1000) (hbase : base ≤ w.heap.size)
    (h : ∀ A' c' w', Row w' base 3 1 A' (n + 1) c' (xs ++ [.int .i64 z]) → Went w w' A n c 1 A' c' → wpList Try.prog ops Q rest (a.put o.dst (.slice A' (n + 1) c')) w') :
    wpList Try.prog ops Q (o :: rest) a w := by
  obtain ⟨i0, hi, hz0, hz1, hz2⟩ := info_parts int_info
  exact wpList_append_row hgd s x _ ho Try.underlying53 hi hz0 hz1 hz2 rfl hs hown hx hr (by simp [Value.oneCell']) (by omega) (by simp only [maxLen]; omega) hbase h
theorem lit_int (w : World) (z : Int) : Sl (w.alloc (.cells #[.int .i64 z] 3)) (w.heap.size + 1) 1 (some ⟨w.heap.size, 0, none⟩) 1 1 [.int .i64 z] :=
  ⟨rfl, Nat.le_refl _, by simp [maxLen], fun _ => ⟨w.heap.size, 0, rfl, by simp, fun j u hu => by
    rw [(Blk.new w 3 #[.int .i64 z]).cell, Nat.zero_add]
    simpa using hu⟩⟩
theorem Ty.row {w w' : World} {base n c : Nat} {A : Option Addr} {xs : List Value} (ht : Ty w w') (h : Row w base 3 1 A n c xs) : Row w' base 3 1 A n c xs :=
  ⟨h.1, h.2.1, h.2.2.1, fun hc => by
    obtain ⟨g, cur, e, hg, hb, hs, hx⟩ := h.2.2.2 hc
    exact ⟨g, cur, e, hg, ht.2 _ _ _ hb (by decide) (by decide), hs, hx⟩⟩
theorem Qs.went {w w' : World} {base base' gq k n c m c' : Nat} {A A' : Option Addr} {xs : List Value} {qs : List (List Value)} (h : Qs w base gq k qs) (hr : Row w base' 3 1 A n c xs) (hq : Went w w' A n c m A' c') : Qs w' base gq k qs := by
  obtain ⟨gs, f, j, rows, hR, h1, h2, h3⟩ := h
  have hw : ∀ g t cs, Blk w g t cs → t ≠ 3 → some g ≠ wrote A c := fun g t cs hb hn e => by
    rw [wrote] at e
    split at e
    · cases e
    · rename_i hc
      obtain ⟨g', cur, rfl, _, hk, _⟩ := hr.2.2.2 (by omega)
      simp only [Option.map_some, Option.some.injEq] at e
      subst e
      rw [Blk] at hb hk
      rw [hk] at hb
      simp only [Option.some.injEq, Obj.cells.injEq] at hb
      exact hn hb.2.1.symm
  exact ⟨gs, f, j, rows, ⟨hR.bq.grown hq.grown (hw _ _ _ hR.bq (by decide)), hR.bs.grown hq.grown (hw _ _ _ hR.bs (by decide)), hR.len, hR.row, hR.fl, hR.kl, hR.le8⟩, h1, h2, h3⟩

/-- What is put: i of them. -/
def psl (zs : List Int) (i : Nat) : List (Int × Int) := (List.range i).map fun (t : Nat) => ((zs[t]?).getD 0, (t : Int))
theorem len_psl (zs : List Int) (i : Nat) : (psl zs i).length = i := by simp [psl]
theorem psl_succ {zs : List Int} {i : Nat} {k : Int} (h : zs[i]? = some k) : psl zs (i + 1) = psl zs i ++ [(k, (i : Int))] := by
  rw [psl, psl, List.range_succ, List.map_append]
  simp [h]
def lft (zs : List Int) (init : Int) (i : Nat) : List (Int × Int) := (psl zs i).filter (fun p => p.1 != init)
theorem lft_succ {zs : List Int} {init : Int} {i : Nat} {k : Int} (h : zs[i]? = some k) : lft zs init (i + 1) = lft zs init i ++ (if k = init then [] else [(k, (i : Int))]) := by
  rw [lft, psl_succ h, List.filter_append]
  congr 1
  by_cases he : k = init <;> simp [he]
def wl (F : List (Int × Int)) : List Value := F.map fun p => .int .i64 p.2

set_option maxHeartbeats 4000000 in
theorem walk (A0 : Option Addr) (n0 c0 : Nat) (zs : List Int) (a1 : Int) (w : World) (w0 : Sl w w.heap.size 1 A0 n0 c0 (zs.map (Value.int .i64))) (x0 : ∀ z ∈ zs, (Lit.int .i64 z).wf = true) (y0 : c0 * 8 ≤ 140737488351232) (w1 : (Lit.int .i64 a1).wf = true) :
    Calls Try.prog 5 #[.slice A0 n0 c0, .int .i64 a1] w fun e w' => e = .returned (.bool true) ∧ Below w.heap.size w w' := by
  have hlen : zs.length = n0 := by have := w0.1; simpa using this
  have hmc : n0 ≤ c0 := w0.2.1
  have HS := Lib.hid w0
  have HL := Lib.hid hlen
  clear w0 hlen x0 w1
  go_enter Try.func5, Try.ntmps5
  by_cases hbig : (200 : Int) < (n0 : Int)
  · go_wp2_with (first
      | (go_at_call 14; refine (alive_c w).mono ?_; rintro e v1 ⟨rfl, hb1⟩; have hz1 := hb1.size)
      | (go_at_call 15; refine (new_c 8 (by omega) (by omega) v1).mono ?_; rintro e v2 ⟨gq, rfl, hq2, hb2⟩; have hw2 := hb1.trans (hb2.mono hz1)))
    go_ret
    exact ⟨rfl, hw2⟩
  have hm200 : n0 ≤ 200 := by omega
  go_wp2_with (first
    | (go_at_call 14; refine (alive_c w).mono ?_; rintro e v1 ⟨rfl, hb1⟩; have hz1 := hb1.size)
    | (go_at_call 15; refine (new_c 8 (by omega) (by omega) v1).mono ?_; rintro e v2 ⟨gq, rfl, hq2, hb2⟩; have hw2 := hb1.trans (hb2.mono hz1); have hz2 := hw2.size; have HQ2 := Lib.hid hq2; have HW2 := Lib.hid hw2; clear hq2 hw2))
  go_loopw [7, 8, 35] (fun v7 v8 v35 wr => ∃ (i gn fl : Nat) (A : Option Addr) (c : Nat), i ≤ n0 ∧ i ≤ 8 ∧ v35 = .int .i64 (i : Int) ∧ v8 = .int .i64 (gn : Int) ∧ v7 = .slice A fl c ∧ fl = (lft zs a1 i).length ∧ gn + fl = i ∧ Qs wr v1.heap.size gq 8 ((psl zs i).map wrw) ∧ Row wr v1.heap.size 3 1 A fl c (wl (lft zs a1 i)) ∧ Below w.heap.size w wr ∧ v1.heap.size ≤ wr.heap.size) (fun _ _ v35 _ => n0 - (intOf v35).toNat)
  case atStart => exact ⟨0, 0, 0, _, _, by omega, by omega, rfl, rfl, rfl, rfl, rfl, HQ2.out.below (below_alloc _ _), Row.nil _ _ _ _ _, HW2.out.trans ((below_alloc _ _).mono hz2), by have := (below_alloc v2 (.cells #[] 3)).size; have := hb2.size; omega⟩
  case round =>
    obtain ⟨i, gn, fl, A, c, hi, hi8, rfl, rfl, rfl, hfl, hgn, hq, hr, hw, hzv⟩ := hrel
    have hzw := hw.size
    have hi0 : (0 : Int) ≤ (i : Int) := by omega
    have hib : (i : Int) ≤ 8 := by omega
    have hg0' : (0 : Int) ≤ (gn : Int) := by omega
    have hgb : (gn : Int) ≤ 8 := by omega
    have hf8 : fl ≤ 8 := by omega
    have hcm : c ≤ 9223372036854775807 := hr.2.2.1
    have hfc : fl ≤ c := hr.2.1
    have HQ := Lib.hid hq
    have HR := Lib.hid hr
    have HW := Lib.hid hw
    have HF := Lib.hid hfl
    have hpl := len_psl zs i
    have HPL := Lib.hid hpl
    clear hq hr hw hfl hpl
    by_cases hlt : i < n0
    · have hil : (i : Int) < (n0 : Int) := by omega
      obtain ⟨g0, off, rfl, hg0, hcells⟩ := HS.out.2.2.2 (by omega)
      obtain ⟨k, hk⟩ : ∃ k, zs[i]? = some k := ⟨zs[i]'(by rw [HL.out]; exact hlt), List.getElem?_eq_getElem _⟩
      have dp : wr.cell? ⟨g0, off + i, none⟩ = some (.int .i64 k) := (HW.out.cell (p := ⟨g0, off + i, none⟩) hg0).trans (hcells i _ (by rw [List.getElem?_map, hk]; rfl))
      have hB := buildW k (i : Int)
      have HK := Lib.hid hk
      clear hcells hk
      by_cases h8 : i < 8
      · by_cases hke : k = a1
        · have hkb : (k == a1) = true := by simp [hke]
          have HKE := Lib.hid hke
          clear hke
          go_wp2_with (first
            | (go_at_call 16; refine (put_c HQ.out (by rw [List.length_map, HPL.out]; exact h8) k (i : Int)).mono ?_; rintro e w4 ⟨rfl, hq4, hb4, ht4⟩; have hz4 := hb4.size))
          refine ⟨⟨i + 1, gn + 1, fl, A, c, by omega, by omega, by go_num, by go_num, rfl, ?_, by omega, ?_, ?_, HW.out.trans (hb4.mono hz1), by omega⟩, by simp [intOf]; omega⟩
          · rw [lft_succ HK.out, if_pos HKE.out, List.append_nil]; exact HF.out
          · rw [psl_succ HK.out, List.map_append]; exact hq4
          · rw [lft_succ HK.out, if_pos HKE.out, List.append_nil]; exact Ty.row ht4 HR.out
        · have hkb : (k == a1) = false := by simpa using hke
          have HKE := Lib.hid hke
          clear hke
          go_wp2_with (first
            | (go_at_call 16; refine (put_c HQ.out (by rw [List.length_map, HPL.out]; exact h8) k (i : Int)).mono ?_; rintro e w4 ⟨rfl, hq4, hb4, ht4⟩; have hz4 := hb4.size; have HR4 := Lib.hid (Ty.row ht4 HR.out); have hl4 := lit_int w4 (i : Int); have hzal := (below_alloc w4 (.cells #[.int .i64 (i : Int)] 3)).size)
            | (at_builtin; refine wpList_appendI rfl (.tmp 51) (.tmp 53) rfl rfl (HR4.out.alloc _) rfl hl4 (by omega) (by omega) ?_; intro A5 c5 w5 h5 q5; have hb5 := q5.below (HR4.out.alloc _) ((below_alloc w4 (.cells #[.int .i64 (i : Int)] 3)).mono (show v1.heap.size ≤ w4.heap.size by omega)) (Nat.le_refl _) (by omega); have hq5 := Qs.went (hq4.below (below_alloc _ _)) (HR4.out.alloc _) q5; have hz5 := hb5.size))
          refine ⟨⟨i + 1, gn, fl + 1, A5, c5, by omega, by omega, by go_num, rfl, rfl, ?_, by omega, ?_, ?_, (HW.out.trans (hb4.mono hz1)).trans (hb5.mono hz1), by omega⟩, by simp [intOf]; omega⟩
          · rw [lft_succ HK.out, if_neg HKE.out, List.length_append, ← HF.out]; rfl
          · rw [psl_succ HK.out, List.map_append]; exact hq5
          · rw [lft_succ HK.out, if_neg HKE.out, wl, List.map_append]; exact h5
      · obtain rfl : i = 8 := by omega
        go_wp2_with (first
          | (go_at_call 16; refine (put_full HQ.out (by rw [List.length_map, HPL.out]) k (((8 : Nat)) : Int)).mono ?_; rintro e w4 ⟨rfl, hb4⟩; have hw4 := HW.out.trans (hb4.mono hzw); have hq4 := HQ.out.below hb4; have hr4 := HR.out.below hb4; have hz4 := hb4.size; have hzv4 : v1.heap.size ≤ w4.heap.size := (by omega); clear hb4))
        have hz4w := hw4.size
        have hd4 : ((psl zs 8).length : Int) - ((lft zs a1 8).length : Int) = (gn : Int) := by rw [HPL.out, ← HF.out]; omega
        have hgne : ((gn : Int) != (gn : Int)) = false := by simp
        have hfne : ((fl : Int) != (fl : Int)) = false := by simp
        have HD4 := Lib.hid hd4
        have HQ4 := Lib.hid hq4
        have HR4 := Lib.hid hr4
        have HW4 := Lib.hid hw4
        clear hd4 hq4 hr4 hw4
        go_wp2_with (first
          | (go_at_call 19; refine (drop_c a1 HQ4.out).mono ?_; rintro e w5 ⟨rfl, hq5, hb5, ht5⟩; rw [show (psl zs 8).filter (fun p => p.1 != a1) = lft zs a1 8 from rfl, HD4.out]; have HQ5 := Lib.hid (show Qs w5 v1.heap.size gq 8 ((lft zs a1 8).map wrw) from hq5); have HR5 := Lib.hid (Ty.row ht5 HR4.out); have HW5 := Lib.hid (HW4.out.trans (hb5.mono hz1)); have hz5 := hb5.size; clear hq5 hb5 ht5)
          | (go_at_call 18; refine (len_c HQ5.out).mono ?_; rintro e w6 ⟨rfl, rfl⟩; rw [List.length_map, ← HF.out]))
        go_loopw [70] (fun v70 wr => ∃ j : Nat, j ≤ fl ∧ v70 = .int .i64 (j : Int) ∧ Qs wr v1.heap.size gq 8 (((lft zs a1 8).drop j).map wrw) ∧ Row wr v1.heap.size 3 1 A fl c (wl (lft zs a1 8)) ∧ Below w.heap.size w wr ∧ v1.heap.size ≤ wr.heap.size) (fun v70 _ => fl - (intOf v70).toNat)
        case atStart => exact ⟨0, by omega, rfl, HQ5.out, HR5.out, HW5.out, by omega⟩
        case round =>
          obtain ⟨j, hj, rfl, hqj, hrj, hwj, hzj⟩ := hrel
          have hzwj := hwj.size
          have hj0 : (0 : Int) ≤ (j : Int) := by omega
          have hj8 : (j : Int) ≤ 8 := by omega
          have HQJ := Lib.hid hqj
          have HRJ := Lib.hid hrj
          have HWJ := Lib.hid hwj
          by_cases hjl : j < fl
          · have hjl' : (j : Int) < (fl : Int) := by omega
            have hjll : j < (lft zs a1 8).length := by rw [← HF.out]; exact hjl
            obtain ⟨p, hp⟩ : ∃ p, (lft zs a1 8)[j]? = some p := ⟨_, List.getElem?_eq_getElem hjll⟩
            obtain ⟨g9, cur, rfl, _, hb9, hs9, ht9⟩ := hrj.2.2.2 (by omega)
            have hpc : cur[j]? = some (.int .i64 p.2) := by
              have h1 : (cur.toList.take (fl * 1))[j]? = cur[j]? := by rw [List.getElem?_take, if_pos (by omega)]; simp
              rw [ht9, wl, List.getElem?_map, hp] at h1
              exact h1.symm
            have dj : wr.cell? ⟨g9, j, none⟩ = some (.int .i64 p.2) := by rw [hb9.cell, hpc]
            have hdr : (lft zs a1 8).drop j = p :: (lft zs a1 8).drop (j + 1) := by
              rw [List.drop_eq_getElem_cons hjll]
              rw [List.getElem?_eq_getElem hjll, Option.some.injEq] at hp
              rw [hp]
            rw [hdr, List.map_cons] at hqj
            have HQ6 := Lib.hid hqj
            have hp2 : ((p.2 : Int) != p.2) = false := by simp
            obtain ⟨pk, pm⟩ := p
            clear hqj hrj hwj hb9 hs9 ht9 hpc hdr hp
            go_wp2_with (first
              | (go_at_call 17; refine (take_c HQ6.out).mono ?_; rintro e w7 ⟨rfl, hq7, hb7, ht7⟩; have bn := Blk.new w7 48 #[.int .i64 0, .int .i64 0, .int .i64 0, .int .i64 0, .int .i64 0, .int .i64 0, .slice none 0 0, .int .i64 0, .int .i64 0, .int .i64 0, .int .i64 0, .int .i64 0, .bool false]; have hz7 := hb7.size)
              | ((with_reducible show wpList _ _ _ (Oper.mk (some 13) (Op.alloc _) _ _ _ _ :: _) _ _); refine wpList_alloc_agg rfl 48 rfl #[.int .i64 0, .int .i64 0, .int .i64 0, .int .i64 0, .int .i64 0, .int .i64 0, .slice none 0 0, .int .i64 0, .int .i64 0, .int .i64 0, .int .i64 0, .int .i64 0, .bool false] zeroW ?_)
              | ((with_reducible show wpList _ _ _ (Oper.mk none (Op.store 48 (.tmp 13) _) _ _ _ _ :: _) _ _); refine wpList_store_whole rfl 48 (.tmp 13) (.tmp 77) rfl w7.heap.size rfl (wrow pk pm) rfl aggW rfl _ _ bn rfl (wrow_ok _ _).2 ?_; intro w8 b8 g8 s8; have h78 : Below w7.heap.size w7 w8 := (below_alloc _ _).grown g8 (by simp) (fun k hk => by cases hk; exact Nat.le_refl _); have d8 : w8.cell? ⟨w7.heap.size, 1, none⟩ = some (.int .i64 pm) := (by rw [b8.cell]; rfl); have hz8 := h78.size; clear g8 s8))
            exact ⟨⟨j + 1, by omega, by go_num, hq7.below h78, (Ty.row ht7 HRJ.out).below h78, (HWJ.out.trans (hb7.mono hz1)).trans (h78.mono (by omega)), by omega⟩, by simp [intOf]; omega⟩
          · obtain rfl : j = fl := by omega
            have hjl' : ¬ (j : Int) < (j : Int) := by omega
            rw [List.drop_of_length_le (by rw [← HF.out]; exact Nat.le_refl _), List.map_nil] at hqj
            have HQ6 := Lib.hid hqj
            clear hqj hrj hwj
            go_wp2_with (first
              | (go_at_call 17; refine (take_no (.pointer (some ⟨gq, 0, none⟩)) (len_c (HQ6.out.below (below_alloc _ _)))).mono ?_; rintro e w7 ⟨rfl, hb7⟩; have bn := Blk.new w7 48 #[.int .i64 0, .int .i64 0, .int .i64 0, .int .i64 0, .int .i64 0, .int .i64 0, .slice none 0 0, .int .i64 0, .int .i64 0, .int .i64 0, .int .i64 0, .int .i64 0, .bool false]; have hz7 := hb7.size)
              | ((with_reducible show wpList _ _ _ (Oper.mk (some 15) (Op.alloc _) _ _ _ _ :: _) _ _); refine wpList_alloc_agg rfl 48 rfl #[.int .i64 0, .int .i64 0, .int .i64 0, .int .i64 0, .int .i64 0, .int .i64 0, .slice none 0 0, .int .i64 0, .int .i64 0, .int .i64 0, .int .i64 0, .int .i64 0, .bool false] zeroW ?_)
              | ((with_reducible show wpList _ _ _ (Oper.mk none (Op.store 48 (.tmp 15) _) _ _ _ _ :: _) _ _); refine wpList_store_whole rfl 48 (.tmp 15) (.tmp 91) rfl w7.heap.size rfl [.int .i64 0, .int .i64 0, .int .i64 0, .int .i64 0, .int .i64 0, .int .i64 0, .slice none 0 0, .int .i64 0, .int .i64 0, .int .i64 0, .int .i64 0, .int .i64 0, .bool false] rfl aggW rfl _ _ bn rfl (by simp [Value.oneCell']) ?_; intro w8 b8 g8 s8; have h78 : Below w7.heap.size w7 w8 := (below_alloc _ _).grown g8 (by simp) (fun k hk => by cases hk; exact Nat.le_refl _); clear g8 s8))
            go_ret
            exact ⟨rfl, HWJ.out.trans ((hb7.trans (h78.mono hz7)).mono hzwj)⟩
    · have hil : ¬ (i : Int) < (n0 : Int) := by omega
      obtain ⟨w4, hwr⟩ : ∃ w4, w4 = wr := ⟨_, rfl⟩
      have hw4 := HW.out
      have hq4 := HQ.out
      have hr4 := HR.out
      have hzv4 := hzv
      rw [← hwr] at hw4 hq4 hr4 hzv4 ⊢
      clear HW HQ HR hwr hzv
      have hz4w := hw4.size
      have hd4 : ((psl zs i).length : Int) - ((lft zs a1 i).length : Int) = (gn : Int) := by rw [HPL.out, ← HF.out]; omega
      have hgne : ((gn : Int) != (gn : Int)) = false := by simp
      have hfne : ((fl : Int) != (fl : Int)) = false := by simp
      have HD4 := Lib.hid hd4
      have HQ4 := Lib.hid hq4
      have HR4 := Lib.hid hr4
      have HW4 := Lib.hid hw4
      clear hd4 hq4 hr4 hw4
      go_wp2_with (first
        | (go_at_call 19; refine (drop_c a1 HQ4.out).mono ?_; rintro e w5 ⟨rfl, hq5, hb5, ht5⟩; rw [show (psl zs i).filter (fun p => p.1 != a1) = lft zs a1 i from rfl, HD4.out]; have HQ5 := Lib.hid (show Qs w5 v1.heap.size gq 8 ((lft zs a1 i).map wrw) from hq5); have HR5 := Lib.hid (Ty.row ht5 HR4.out); have HW5 := Lib.hid (HW4.out.trans (hb5.mono hz1)); have hz5 := hb5.size; clear hq5 hb5 ht5)
        | (go_at_call 18; refine (len_c HQ5.out).mono ?_; rintro e w6 ⟨rfl, rfl⟩; rw [List.length_map, ← HF.out]))
      go_loopw [70] (fun v70 wr => ∃ j : Nat, j ≤ fl ∧ v70 = .int .i64 (j : Int) ∧ Qs wr v1.heap.size gq 8 (((lft zs a1 i).drop j).map wrw) ∧ Row wr v1.heap.size 3 1 A fl c (wl (lft zs a1 i)) ∧ Below w.heap.size w wr ∧ v1.heap.size ≤ wr.heap.size) (fun v70 _ => fl - (intOf v70).toNat)
      case atStart => exact ⟨0, by omega, rfl, HQ5.out, HR5.out, HW5.out, by omega⟩
      case round =>
        obtain ⟨j, hj, rfl, hqj, hrj, hwj, hzj⟩ := hrel
        have hzwj := hwj.size
        have hj0 : (0 : Int) ≤ (j : Int) := by omega
        have hj8 : (j : Int) ≤ 8 := by omega
        have HQJ := Lib.hid hqj
        have HRJ := Lib.hid hrj
        have HWJ := Lib.hid hwj
        by_cases hjl : j < fl
        · have hjl' : (j : Int) < (fl : Int) := by omega
          have hjll : j < (lft zs a1 i).length := by rw [← HF.out]; exact hjl
          obtain ⟨p, hp⟩ : ∃ p, (lft zs a1 i)[j]? = some p := ⟨_, List.getElem?_eq_getElem hjll⟩
          obtain ⟨g9, cur, rfl, _, hb9, hs9, ht9⟩ := hrj.2.2.2 (by omega)
          have hpc : cur[j]? = some (.int .i64 p.2) := by
            have h1 : (cur.toList.take (fl * 1))[j]? = cur[j]? := by rw [List.getElem?_take, if_pos (by omega)]; simp
            rw [ht9, wl, List.getElem?_map, hp] at h1
            exact h1.symm
          have dj : wr.cell? ⟨g9, j, none⟩ = some (.int .i64 p.2) := by rw [hb9.cell, hpc]
          have hdr : (lft zs a1 i).drop j = p :: (lft zs a1 i).drop (j + 1) := by
            rw [List.drop_eq_getElem_cons hjll]
            rw [List.getElem?_eq_getElem hjll, Option.some.injEq] at hp
            rw [hp]
          rw [hdr, List.map_cons] at hqj
          have HQ6 := Lib.hid hqj
          have hp2 : ((p.2 : Int) != p.2) = false := by simp
          obtain ⟨pk, pm⟩ := p
          clear hqj hrj hwj hb9 hs9 ht9 hpc hdr hp
          go_wp2_with (first
            | (go_at_call 17; refine (take_c HQ6.out).mono ?_; rintro e w7 ⟨rfl, hq7, hb7, ht7⟩; have bn := Blk.new w7 48 #[.int .i64 0, .int .i64 0, .int .i64 0, .int .i64 0, .int .i64 0, .int .i64 0, .slice none 0 0, .int .i64 0, .int .i64 0, .int .i64 0, .int .i64 0, .int .i64 0, .bool false]; have hz7 := hb7.size)
            | ((with_reducible show wpList _ _ _ (Oper.mk (some 13) (Op.alloc _) _ _ _ _ :: _) _ _); refine wpList_alloc_agg rfl 48 rfl #[.int .i64 0, .int .i64 0, .int .i64 0, .int .i64 0, .int .i64 0, .int .i64 0, .slice none 0 0, .int .i64 0, .int .i64 0, .int .i64 0, .int .i64 0, .int .i64 0, .bool false] zeroW ?_)
            | ((with_reducible show wpList _ _ _ (Oper.mk none (Op.store 48 (.tmp 13) _) _ _ _ _ :: _) _ _); refine wpList_store_whole rfl 48 (.tmp 13) (.tmp 77) rfl w7.heap.size rfl (wrow pk pm) rfl aggW rfl _ _ bn rfl (wrow_ok _ _).2 ?_; intro w8 b8 g8 s8; have h78 : Below w7.heap.size w7 w8 := (below_alloc _ _).grown g8 (by simp) (fun k hk => by cases hk; exact Nat.le_refl _); have d8 : w8.cell? ⟨w7.heap.size, 1, none⟩ = some (.int .i64 pm) := (by rw [b8.cell]; rfl); have hz8 := h78.size; clear g8 s8))
          exact ⟨⟨j + 1, by omega, by go_num, hq7.below h78, (Ty.row ht7 HRJ.out).below h78, (HWJ.out.trans (hb7.mono hz1)).trans (h78.mono (by omega)), by omega⟩, by simp [intOf]; omega⟩
        · obtain rfl : j = fl := by omega
          have hjl' : ¬ (j : Int) < (j : Int) := by omega
          rw [List.drop_of_length_le (by rw [← HF.out]; exact Nat.le_refl _), List.map_nil] at hqj
          have HQ6 := Lib.hid hqj
          clear hqj hrj hwj
          go_wp2_with (first
            | (go_at_call 17; refine (take_no (.pointer (some ⟨gq, 0, none⟩)) (len_c (HQ6.out.below (below_alloc _ _)))).mono ?_; rintro e w7 ⟨rfl, hb7⟩; have bn := Blk.new w7 48 #[.int .i64 0, .int .i64 0, .int .i64 0, .int .i64 0, .int .i64 0, .int .i64 0, .slice none 0 0, .int .i64 0, .int .i64 0, .int .i64 0, .int .i64 0, .int .i64 0, .bool false]; have hz7 := hb7.size)
            | ((with_reducible show wpList _ _ _ (Oper.mk (some 15) (Op.alloc _) _ _ _ _ :: _) _ _); refine wpList_alloc_agg rfl 48 rfl #[.int .i64 0, .int .i64 0, .int .i64 0, .int .i64 0, .int .i64 0, .int .i64 0, .slice none 0 0, .int .i64 0, .int .i64 0, .int .i64 0, .int .i64 0, .int .i64 0, .bool false] zeroW ?_)
            | ((with_reducible show wpList _ _ _ (Oper.mk none (Op.store 48 (.tmp 15) _) _ _ _ _ :: _) _ _); refine wpList_store_whole rfl 48 (.tmp 15) (.tmp 91) rfl w7.heap.size rfl [.int .i64 0, .int .i64 0, .int .i64 0, .int .i64 0, .int .i64 0, .int .i64 0, .slice none 0 0, .int .i64 0, .int .i64 0, .int .i64 0, .int .i64 0, .int .i64 0, .bool false] rfl aggW rfl _ _ bn rfl (by simp [Value.oneCell']) ?_; intro w8 b8 g8 s8; have h78 : Below w7.heap.size w7 w8 := (below_alloc _ _).grown g8 (by simp) (fun k hk => by cases hk; exact Nat.le_refl _); clear g8 s8))
          go_ret
          exact ⟨rfl, HWJ.out.trans ((hb7.trans (h78.mono hz7)).mono hzwj)⟩
end Go.Proofs.Ytkiiobfomnggcaa.queueDrops
