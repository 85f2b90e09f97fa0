/-
  The document's queue: Take, Drop; an op's command (printed by wip/gen_qt.py).
-/
import Derived.Test.YtkiiobfomnggcaaQR
namespace Go.Proofs.Ytkiiobfomnggcaa
open Go.RowKit Go.Shelf
set_option linter.unusedVariables false
set_option linter.unusedSimpArgs false
set_option maxRecDepth 100000

set_option maxHeartbeats 4000000 in
theorem rtake_no {w : World} {base gm n : Nat} (h : Rq w base gm n []) :
    Calls Try.prog 25 #[.pointer (some ⟨gm, 0, none⟩)] w fun e w' => e = .returned (.tuple #[.agg #[.int .i64 0, .int .i64 0, .int .i64 0, .int .i64 0, .int .i64 0, .int .i64 0, .slice none 0 0, .int .i64 0, .int .i64 0, .int .i64 0, .int .i64 0, .int .i64 0, .bool false], .bool false]) ∧ Below w.heap.size w w' := by
  obtain ⟨A, c, h1, _⟩ := h
  have b2 := Blk.new w 68 #[.int .i64 0, .int .i64 0, .int .i64 0, .int .i64 0, .int .i64 0, .int .i64 0, .slice none 0 0, .int .i64 0, .int .i64 0, .int .i64 0, .int .i64 0, .int .i64 0, .bool false]
  have hb := below_alloc w (.cells #[.int .i64 0, .int .i64 0, .int .i64 0, .int .i64 0, .int .i64 0, .int .i64 0, .slice none 0 0, .int .i64 0, .int .i64 0, .int .i64 0, .int .i64 0, .int .i64 0, .bool false] 68)
  have d1 : (w.alloc (.cells #[.int .i64 0, .int .i64 0, .int .i64 0, .int .i64 0, .int .i64 0, .int .i64 0, .slice none 0 0, .int .i64 0, .int .i64 0, .int .i64 0, .int .i64 0, .int .i64 0, .bool false] 68)).cell? ⟨gm, 1, none⟩ = some (.slice A 0 c) := by rw [(h1.below hb h1.lt).cell]; rfl
  have h0 : ((0 : Int) == 0) = true := by simp
  clear h1
  go_enter Try.func25, Try.ntmps25
  go_wp2_with (first
    | ((with_reducible show wpList _ _ _ (Oper.mk (some 2) (Op.alloc _) _ _ _ _ :: _) _ _); refine wpList_alloc_agg rfl 68 rfl #[.int .i64 0, .int .i64 0, .int .i64 0, .int .i64 0, .int .i64 0, .int .i64 0, .slice none 0 0, .int .i64 0, .int .i64 0, .int .i64 0, .int .i64 0, .int .i64 0, .bool false] zeroR ?_)
    | ((with_reducible show wpList _ _ _ (Oper.mk (some 11) (Op.build _ _) _ _ _ _ :: _) _ _); refine wpList_build rfl 68 _ rfl #[] (by simp only [List.map_toArray, List.map_nil]) _ (buildRZ _) ?_)
    | ((with_reducible show wpList _ _ _ (Oper.mk none (Op.store 68 (.tmp 2) _) _ _ _ _ :: _) _ _); refine wpList_store_whole rfl 68 (.tmp 2) (.tmp 11) rfl w.heap.size rfl [.int .i64 0, .int .i64 0, .int .i64 0, .int .i64 0, .int .i64 0, .int .i64 0, .slice none 0 0, .int .i64 0, .int .i64 0, .int .i64 0, .int .i64 0, .int .i64 0, .bool false] rfl aggR rfl _ _ b2 rfl (by simp [Value.oneCell']) ?_; intro w8 b8 g8 s8))
  refine bodyPost_ret (results_cell_tmp rfl _ w.heap.size _ #[.int .i64 0, .int .i64 0, .int .i64 0, .int .i64 0, .int .i64 0, .int .i64 0, .slice none 0 0, .int .i64 0, .int .i64 0, .int .i64 0, .int .i64 0, .int .i64 0, .bool false] aggR rfl rfl b8) rfl ⟨rfl, ?_⟩
  exact hb.grown g8 (by simp) (fun k hk => by cases hk; exact Nat.le_refl _)

set_option maxHeartbeats 4000000 in
theorem rtake_yes {w : World} {base gm n : Nat} {r : List Value} {rows : List (List Value)} (h : Rq w base gm n (r :: rows)) :
    Calls Try.prog 25 #[.pointer (some ⟨gm, 0, none⟩)] w fun e w' => e = .returned (.tuple #[.agg r.toArray, .bool true]) ∧ Rq w' base gm n rows ∧ Below base w w' ∧ TyR w w' := by
  obtain ⟨A, c, h1, h2, h3, h4, h5, h6⟩ := h
  have hgl := h1.lt
  have hr13 := h4 r (List.mem_cons_self ..)
  obtain ⟨gl, rfl, hgl2, hbl, hN1, hNc, hcl⟩ := Row.cellR h2 h4 (j := 0) (r := r) rfl
  have hcm : c ≤ 9223372036854775807 := h2.2.2.1
  obtain ⟨N, hN⟩ : ∃ N, N = (r :: rows).length := ⟨_, rfl⟩
  obtain ⟨L, hL⟩ : ∃ L, L = rows.length := ⟨_, rfl⟩
  have hNL : N = L + 1 := by rw [hN, hL]; rfl
  rw [← hN] at h1 h2 hN1 hNc h5
  obtain ⟨v, hv⟩ : ∃ v, v = w.alloc (.cells #[.int .i64 0, .int .i64 0, .int .i64 0, .int .i64 0, .int .i64 0, .int .i64 0, .slice none 0 0, .int .i64 0, .int .i64 0, .int .i64 0, .int .i64 0, .int .i64 0, .bool false] 68) := ⟨_, rfl⟩
  have b2 : Blk v w.heap.size 68 #[.int .i64 0, .int .i64 0, .int .i64 0, .int .i64 0, .int .i64 0, .int .i64 0, .slice none 0 0, .int .i64 0, .int .i64 0, .int .i64 0, .int .i64 0, .int .i64 0, .bool false] := by rw [hv]; exact Blk.new _ _ _
  have hbv : Below w.heap.size w v := by rw [hv]; exact below_alloc _ _
  have hz := hbv.size
  have hzlt : w.heap.size < v.heap.size := by rw [hv]; simp
  have B1 := h1.below hbv h1.lt
  have d1 : v.cell? ⟨gm, 1, none⟩ = some (.slice (some ⟨gl, 0, none⟩) N c) := by rw [B1.cell]; rfl
  have hN0 : ((N : Int) == 0) = false := by simp; omega
  have hN0' : ¬ (N : Int) = 0 := by omega
  have hNi : (0 : Int) < (N : Int) := by omega
  have e13 : ((r :: rows).flatten).drop 13 = rows.flatten := by rw [List.flatten_cons, ← hr13.1, List.drop_left]
  have hs2 : Sl w w.heap.size 13 (if c = 1 then some ⟨gl, 0, none⟩ else some ⟨gl, 13, none⟩) L (c - 1) rows.flatten := by
    have h := Sl.cut (Row.sl h2) (lo := 1) (hi := N) (by omega) (Nat.le_refl _)
    rw [List.take_of_length_le (by rw [List.length_drop, h2.1]; omega), Nat.one_mul, e13, Option.map_some, Addr.add_lit, Nat.zero_add, show N - 1 = L by omega] at h
    exact h
  obtain ⟨A2, hA2⟩ : ∃ A2 : Option Addr, (if c = 1 then some ⟨gl, 0, none⟩ else some ⟨gl, 13, none⟩) = A2 := ⟨_, rfl⟩
  rw [hA2] at hs2
  have HNL := Lib.hid hNL
  have hLN : L ≤ N := by omega
  have hN1L : N - 1 = L := by omega
  have hL0 : L ≤ 8 := by omega
  clear hNL
  have HCL := Lib.hid (show ∀ j u, r.toArray[j]? = some u → v.cell? ⟨gl, 0 * 13 + j, none⟩ = some u from fun j u hu => (hbv.cell (p := ⟨gl, 0 * 13 + j, none⟩) hgl2).trans (hcl j u (by simpa using hu)))
  have HS2 := Lib.hid hs2
  have HB1 := Lib.hid B1
  have HB2 := Lib.hid b2
  have HV := Lib.hid hv
  have HR13 := Lib.hid hr13
  have H1 := Lib.hid h1
  have H4 := Lib.hid h4
  have HL := Lib.hid hL
  have bn := Blk.new v 68 #[.int .i64 0, .int .i64 0, .int .i64 0, .int .i64 0, .int .i64 0, .int .i64 0, .slice none 0 0, .int .i64 0, .int .i64 0, .int .i64 0, .int .i64 0, .int .i64 0, .bool false]
  clear hv b2 B1 hs2 e13 h1 h2 hcl h4 hN hL hr13
  go_enter Try.func25, Try.ntmps25
  go_wp2_with (first
    | ((with_reducible show wpList _ _ _ (Oper.mk (some 2) (Op.alloc _) _ _ _ _ :: _) _ _); refine wpList_alloc_agg rfl 68 rfl #[.int .i64 0, .int .i64 0, .int .i64 0, .int .i64 0, .int .i64 0, .int .i64 0, .slice none 0 0, .int .i64 0, .int .i64 0, .int .i64 0, .int .i64 0, .int .i64 0, .bool false] zeroR ?_; rw [← HV.out])
    | ((with_reducible show wpList _ _ _ (Oper.mk (some 17) (Op.load _ _) _ _ _ _ :: _) _ _); refine wpList_load_agg (by rfl) 68 (.tmp 16) rfl gl (0 * 13) rfl r.toArray aggR (by simpa using HR13.out.1) HCL.out ?_)
    | ((with_reducible show wpList _ _ _ (Oper.mk (some 4) (Op.alloc _) _ _ _ _ :: _) _ _); refine wpList_alloc_agg rfl 68 rfl #[.int .i64 0, .int .i64 0, .int .i64 0, .int .i64 0, .int .i64 0, .int .i64 0, .slice none 0 0, .int .i64 0, .int .i64 0, .int .i64 0, .int .i64 0, .int .i64 0, .bool false] zeroR ?_)
    | ((with_reducible show wpList _ _ _ (Oper.mk none (Op.store 68 (.tmp 4) _) _ _ _ _ :: _) _ _); refine wpList_store_whole rfl 68 (.tmp 4) (.tmp 17) rfl v.heap.size rfl r rfl aggR HR13.out.1 _ _ bn rfl HR13.out.2 ?_; intro w4 b4 g4 s4; have hv4 : Below v.heap.size v w4 := (below_alloc _ _).grown g4 (by simp) (fun k hk => by cases hk; exact Nat.le_refl _); have hz4 := hv4.size; have hb45 := below_alloc w4 (.cells #[] 68); have d5 : (w4.alloc (.cells #[] 68)).cell? ⟨gm, 1, none⟩ = some (.slice (some ⟨gl, 0, none⟩) N c) := (by rw [((HB1.out.below hv4 HB1.out.lt).below hb45 (Nat.lt_of_lt_of_le HB1.out.lt hz4)).cell]; rfl); have HB4 := Lib.hid b4; have hl4 := b4.lt; clear b4)
    | (at_builtin; refine wpList_appendR rfl (.tmp 19) (.tmp 24) rfl rfl (Row.nil _ v.heap.size _ _ _) rfl ((HS2.out.below (hbv.trans ((hv4.mono hz).trans (hb45.mono (Nat.le_trans hz hz4))))).more (Nat.le_refl _)) (rows13.ones (H4.out.mono (fun x hx => List.mem_cons_of_mem _ hx))) (by omega) (by simp only [World.size_alloc]; omega) L (by omega) ?_; intro A9 c9 w9 h9 q9 k9; have hb49 : Below v.heap.size w4 w9 := q9.below (Row.nil _ v.heap.size 68 13 _) (hb45.mono hz4) (Nat.le_refl _) (by simp only [World.size_alloc]; omega); have hb9 : Below w.heap.size w w9 := hbv.trans ((hv4.trans hb49).mono hz); have hz9 := hb9.size; have hz49 := hb49.size; have HB9 := Lib.hid (H1.out.below hb9 H1.out.lt); have HB29 := Lib.hid (HB2.out.below (hv4.trans hb49) HB2.out.lt); have d9 : w9.cell? ⟨gm, 1, none⟩ = some (.slice (some ⟨gl, 0, none⟩) N c) := (by rw [HB9.out.cell]; rfl); have f9 := HB9.out.frozen 1; have HR9 := Lib.hid (show Row w9 v.heap.size 68 13 A9 L c9 rows.flatten from h9); have HB49 := Lib.hid (show Blk w9 v.heap.size 68 r.toArray from (HB4.out.below hb45 hl4).grown q9.grown (by simp [wrote])); obtain ⟨wA, hwA⟩ : ∃ wA, wA = w9.setCell ⟨gm, 1, none⟩ (.slice A9 L c9) := ⟨_, rfl⟩; have HWA := Lib.hid hwA; clear h9 q9 k9 hwA)
    | ((with_reducible show wpList _ _ _ (Oper.mk (some 28) (Op.load _ _) _ _ _ _ :: _) _ _); rw [← HWA.out]; refine wpList_load_whole (by rfl) 68 (.tmp 4) rfl v.heap.size rfl r.toArray aggR (by simpa using HR13.out.1) _ (by rw [HWA.out]; exact HB49.out.far (by show v.heap.size ≠ gm; omega) _) ?_)
    | ((with_reducible show wpList _ _ _ (Oper.mk none (Op.store 68 (.tmp 2) _) _ _ _ _ :: _) _ _); refine wpList_store_whole rfl 68 (.tmp 2) (.tmp 28) rfl w.heap.size rfl r rfl aggR HR13.out.1 _ _ (show Blk wA w.heap.size _ #[.int .i64 0, .int .i64 0, .int .i64 0, .int .i64 0, .int .i64 0, .int .i64 0, .slice none 0 0, .int .i64 0, .int .i64 0, .int .i64 0, .int .i64 0, .int .i64 0, .bool false] by rw [HWA.out]; exact HB29.out.far (by show w.heap.size ≠ gm; omega) _) rfl HR13.out.2 ?_; intro w8 b8 g8 s8))
  refine bodyPost_ret (results_cell_tmp rfl _ w.heap.size _ r.toArray aggR (by simpa using HR13.out.1) rfl b8) rfl ⟨rfl, ⟨A9, c9, ?_, ?_, h3, H4.out.mono (fun x hx => List.mem_cons_of_mem _ hx), by rw [← HL.out]; omega, h6⟩, ?_, ?_⟩
  · rw [← HL.out]
    exact (show Blk wA gm 63 #[.int .i64 (n : Int), .slice A9 L c9] by rw [HWA.out]; simpa using HB9.out.set_ 1 (.slice A9 L c9)).grown g8 (by simp; omega)
  · rw [← HL.out]
    refine Row.base_le (Row.farG (base := v.heap.size) ?_ (by omega) g8) (by omega)
    rw [HWA.out]
    have h9 := HR9.out
    refine ⟨h9.1, h9.2.1, h9.2.2.1, fun hc => ?_⟩
    obtain ⟨g', cur, e1, hg', hb, hs, ht⟩ := h9.2.2.2 hc
    exact ⟨g', cur, e1, hg', hb.far (by show g' ≠ gm; exact hb.ne_ty HB9.out (by decide)) _, hs, ht⟩
  · rw [HWA.out] at g8
    exact ((hb9.mono (by omega)).setCell (p := ⟨gm, 1, none⟩) h3 _).grown g8 (by simp; omega) (fun k hk => by cases hk; omega)
  · refine TyR.keep H1.out (L := []) (fun g hg => by cases hg) (by have := g8.size; rw [HWA.out] at this; simp at this; omega) (fun g hg e1 _ => ?_)
    rw [g8.block g (by rw [HWA.out]; simp; omega) (by simp; omega), HWA.out, Below.heap_setCell _ _ _ _ (show g ≠ gm from e1)]
    exact hb9.block g hg

set_option maxHeartbeats 4000000 in
theorem rdrop_c {w : World} {base gm n : Nat} {ps : List Wt} (init : Int) (h : Rq w base gm n (ps.map Wt.row2)) :
    Calls Try.prog 27 #[.pointer (some ⟨gm, 0, none⟩), .int .i64 init] w fun e w' => e = .returned (.int .i64 ((ps.length : Int) - ((ps.filter (fun p => p.i != init)).length : Int))) ∧ Rq w' base gm n ((ps.filter (fun p => p.i != init)).map Wt.row2) ∧ Below base w w' ∧ TyR w w' := by
  obtain ⟨A, c, h1, h2, h3, h4, h5, h6⟩ := h
  have hgl := h1.lt
  have hcm : c ≤ 9223372036854775807 := h2.2.2.1
  have hNc := h2.2.1
  rw [List.length_map] at h1 h2 h5 hNc
  obtain ⟨N, hN⟩ : ∃ N, N = ps.length := ⟨_, rfl⟩
  rw [← hN] at h1 h2 h5 hNc
  have hN8 : (N : Int) ≤ 8 := by omega
  have H1 := Lib.hid h1
  have H2 := Lib.hid h2
  have H4 := Lib.hid h4
  have HN := Lib.hid hN
  clear h1 h2 h4 hN
  go_enter Try.func27, Try.ntmps27
  go_wp2_with fail
  go_loopw [5, 6] (fun v5 v6 wr => ∃ (i k : Nat) (A' : Option Addr) (c' : Nat), i ≤ N ∧ k = ((ps.take i).filter (fun p => p.i != init)).length ∧ v6 = .int .i64 (i : Int) ∧ v5 = .slice A' k c' ∧ Row wr w.heap.size 68 13 A' k c' (((ps.take i).filter (fun p => p.i != init)).map Wt.row2).flatten ∧ Below w.heap.size w wr) (fun _ v6 _ => N - (intOf v6).toNat)
  case atStart => exact ⟨0, 0, none, 0, by omega, by simp, rfl, rfl, by simpa using Row.nil _ _ _ _ _, Below.refl _ _⟩
  case round =>
    obtain ⟨i, k, A', c', hi, hk, rfl, rfl, hrow, hb⟩ := hrel
    have hzb := hb.size
    have hkc := hrow.2.1
    have hki : k ≤ i := by rw [hk]; exact Nat.le_trans (List.length_filter_le _ _) (by rw [List.length_take]; omega)
    have hcm' : c' ≤ 9223372036854775807 := hrow.2.2.1
    have B1 := H1.out.below hb H1.out.lt
    have d1 : wr.cell? ⟨gm, 1, none⟩ = some (.slice A N c) := by rw [B1.cell]; rfl
    have f1 := B1.frozen 1
    have HB1 := Lib.hid B1
    have HROW := Lib.hid hrow
    have HK := Lib.hid hk
    have HB := Lib.hid hb
    clear B1 hrow hk hb
    by_cases hlt : i < N
    · have hil : (i : Int) < (N : Int) := by omega
      have hi0 : (0 : Int) ≤ (i : Int) := by omega
      have hi8 : (i : Int) < 8 := by omega
      have hltp : i < ps.length := by rw [← HN.out]; exact hlt
      obtain ⟨p, hp⟩ : ∃ p, p = ps[i] := ⟨_, rfl⟩
      have hrj : (ps.map Wt.row2)[i]? = some p.row2 := by rw [List.getElem?_map, List.getElem?_eq_getElem hltp, hp]; rfl
      obtain ⟨gl, rfl, hgl2, hbl, _, _, hcl⟩ := Row.cellR H2.out H4.out hrj
      have hcl' : ∀ t v, p.row2[t]? = some v → wr.cell? ⟨gl, i * 13 + t, none⟩ = some v := fun t v hv => (HB.out.cell (p := ⟨gl, i * 13 + t, none⟩) hgl2).trans (hcl t v hv)
      have dI : wr.cell? ⟨gl, i * 13, none⟩ = some (.int .i64 p.i) := hcl' 0 _ rfl
      have HCL := Lib.hid hcl'
      have hn : (ps.take (i + 1)).filter (fun p => p.i != init) = (ps.take i).filter (fun p => p.i != init) ++ (if p.i = init then [] else [p]) := by
        rw [List.take_succ_eq_append_getElem hltp, List.filter_append, ← hp]
        congr 1
        by_cases he : p.i = init
        · simp [he]
        · simp [he]
      have HNX := Lib.hid hn
      clear hp hrj hcl hcl' hn
      by_cases he : p.i = init
      · have hne : (p.i != init) = false := by simp [he]
        have HE := Lib.hid he
        clear he
        go_wp2_with fail
        refine ⟨⟨i + 1, k, A', c', by omega, by rw [HNX.out, if_pos HE.out, List.append_nil]; exact HK.out, by go_num, rfl, by rw [HNX.out, if_pos HE.out, List.append_nil]; exact HROW.out, HB.out⟩, by simp [intOf]; omega⟩
      · have hne : (p.i != init) = true := by simpa using he
        have HE := Lib.hid he
        clear he
        go_wp2_with (first
          | ((with_reducible show wpList _ _ _ (Oper.mk (some 34) (Op.load _ _) _ _ _ _ :: _) _ _); refine wpList_load_agg (by rfl) 68 (.tmp 33) rfl gl (i * 13) rfl p.row2.toArray aggR rfl (fun j u hu => HCL.out j u (by simpa using hu)) ?_)
          | ((with_reducible show wpList _ _ _ (Oper.mk (some 35) (Op.buildSlice _ _ _) _ _ _ _ :: _) _ _); refine wpList_one_row (by rfl) 61 (.tmp 34) rfl Try.underlying61 sizeR0 zeroR rfl (by omega) (by omega) p.row2.toArray rfl rfl ?_; have hba := below_alloc wr (.cells p.row2.toArray 68); have bn := Blk.new wr 68 p.row2.toArray)
          | (at_builtin; refine wpList_appendR rfl (.tmp 27) (.tmp 35) rfl rfl (Row.below HROW.out hba) rfl (sl_oneR p.row2_ok.1 bn bn.lt) p.row2_ok.2 (by omega) (Nat.le_trans hzb hba.size) (k + 1) rfl ?_; intro A9 c9 w9 h9 q9 k9; have hb9 : Below w.heap.size w w9 := q9.below (Row.below HROW.out hba) (HB.out.trans (hba.mono hzb)) (Nat.le_refl _) (Nat.le_trans hzb hba.size); have H9 := Lib.hid h9; clear h9 q9 k9))
        refine ⟨⟨i + 1, k + 1, A9, c9, by omega, by rw [HNX.out, if_neg HE.out, List.length_append, ← HK.out]; rfl, by go_num, rfl, by rw [HNX.out, if_neg HE.out, List.map_append, List.flatten_append]; simpa using H9.out, hb9⟩, by simp [intOf]; omega⟩
    · obtain rfl : i = N := by omega
      have hil : ¬ (i : Int) < (i : Int) := by omega
      have ht : ps.take i = ps := by rw [HN.out, List.take_length]
      have hkk := HK.out
      have hrr := HROW.out
      rw [ht] at hkk hrr
      have HKK := Lib.hid hkk
      have HRR := Lib.hid hrr
      have hk0 : (k : Int) ≤ 8 := by omega
      obtain ⟨wA, hwA⟩ : ∃ wA, wA = wr.setCell ⟨gm, 1, none⟩ (.slice A' k c') := ⟨_, rfl⟩
      have HWA := Lib.hid hwA
      clear ht hkk hrr hwA
      go_wp2_with fail
      rw [← HWA.out]
      go_ret
      refine ⟨by rw [← HKK.out, ← HN.out]; rfl, ⟨A', c', ?_, ?_, h3, ?_, ?_, h6⟩, ?_, ?_⟩
      · rw [List.length_map, ← HKK.out, HWA.out]; simpa using HB1.out.set_ 1 (.slice A' k c')
      · rw [List.length_map, ← HKK.out, HWA.out]
        have h9 := HRR.out
        refine Row.base_le (base := w.heap.size) ⟨h9.1, h9.2.1, h9.2.2.1, fun hc => ?_⟩ (by omega)
        obtain ⟨g', cur, e1, hg', hb, hs, ht⟩ := h9.2.2.2 hc
        exact ⟨g', cur, e1, hg', hb.far (by show g' ≠ gm; omega) _, hs, ht⟩
      · exact H4.out.mono (fun x hx => by
          obtain ⟨p, hp, rfl⟩ := List.mem_map.1 hx
          exact List.mem_map.2 ⟨p, (List.mem_filter.1 hp).1, rfl⟩)
      · rw [List.length_map, ← HKK.out]; omega
      · rw [HWA.out]; exact (HB.out.mono (by omega)).setCell (p := ⟨gm, 1, none⟩) h3 _
      · refine TyR.keep H1.out (L := []) (fun g hg => by cases hg) (by rw [HWA.out]; simpa using hzb) (fun g hg e1 _ => ?_)
        rw [HWA.out, Below.heap_setCell _ _ _ _ (show g ≠ gm from e1)]
        exact HB.out.block g hg
/-! ## An op's command -/
theorem aggOp9 : AggT Try.prog 65 4 := ⟨⟨_, Try.underlying65, rfl⟩, by kernel_rfl⟩
theorem zeroOp9 : (Try.prog.info? 65).bind (·.zero) = some (.agg #[.int .i64 0, .int .i64 0, .int .i64 0, .slice none 0 0]) := by kernel_rfl
theorem zeroCm9 : (Try.prog.info? 46).bind (·.zero) = some (.agg #[.int .i64 0, .int .i64 0, .int .i64 0, .int .i64 0, .slice none 0 0, .int .i64 0, .int .i64 0, .int .i64 0, .int .i64 0, .int .i64 0, .bool false]) := by kernel_rfl
theorem buildCm9 (n : Int) (A : Option Addr) (m c : Nat) (w : World) : (Instr.build 46 #[(0, .int .i64 2), (2, .int .i64 n), (4, .slice A m c)]).run Try.prog w = .ok (.agg #[.int .i64 2, .int .i64 0, .int .i64 n, .int .i64 0, .slice A m c, .int .i64 0, .int .i64 0, .int .i64 0, .int .i64 0, .int .i64 0, .bool false]) w := by kernel_rfl
set_option maxHeartbeats 4000000 in
theorem cmd_c {w : World} (kd i n : Int) (A : Option Addr) (m c : Nat) :
    Calls Try.prog 22 #[.agg #[.int .i64 kd, .int .i64 i, .int .i64 n, .slice A m c]] w fun e w' => e = .returned (.agg #[.int .i64 2, .int .i64 0, .int .i64 n, .int .i64 0, .slice A m c, .int .i64 0, .int .i64 0, .int .i64 0, .int .i64 0, .int .i64 0, .bool false]) ∧ Below w.heap.size w w' := by
  obtain ⟨v, hv⟩ : ∃ v, v = (w.alloc (.cells #[.int .i64 kd, .int .i64 i, .int .i64 n, .slice A m c] 65)).alloc (.cells #[.int .i64 0, .int .i64 0, .int .i64 0, .int .i64 0, .slice none 0 0, .int .i64 0, .int .i64 0, .int .i64 0, .int .i64 0, .int .i64 0, .bool false] 46) := ⟨_, rfl⟩
  have b1 : Blk v w.heap.size 65 #[.int .i64 kd, .int .i64 i, .int .i64 n, .slice A m c] := by rw [hv]; exact (Blk.new _ _ _).alloc _
  have b2 : Blk v (w.heap.size + 1) 46 #[.int .i64 0, .int .i64 0, .int .i64 0, .int .i64 0, .slice none 0 0, .int .i64 0, .int .i64 0, .int .i64 0, .int .i64 0, .int .i64 0, .bool false] := by
    have := Blk.new (w.alloc (.cells #[.int .i64 kd, .int .i64 i, .int .i64 n, .slice A m c] 65)) 46 #[.int .i64 0, .int .i64 0, .int .i64 0, .int .i64 0, .slice none 0 0, .int .i64 0, .int .i64 0, .int .i64 0, .int .i64 0, .int .i64 0, .bool false]
    rw [World.size_alloc] at this
    rw [hv]; exact this
  have hbv : Below w.heap.size w v := by rw [hv]; exact ((Below.refl _ _).alloc (Nat.le_refl _) _).alloc (by simp) _
  have hz := hbv.size
  have d2 : v.cell? ⟨w.heap.size, 2, none⟩ = some (.int .i64 n) := by rw [b1.cell]; rfl
  have d3 : v.cell? ⟨w.heap.size, 3, none⟩ = some (.slice A m c) := by rw [b1.cell]; rfl
  have HV := Lib.hid hv
  clear hv b1
  go_enter Try.func22, Try.ntmps22
  go_wp2_with (first
    | ((with_reducible show wpList _ _ _ (Oper.mk (some 2) (Op.alloc _) _ _ _ _ :: _) _ _); refine wpList_alloc_agg rfl 46 rfl #[.int .i64 0, .int .i64 0, .int .i64 0, .int .i64 0, .slice none 0 0, .int .i64 0, .int .i64 0, .int .i64 0, .int .i64 0, .int .i64 0, .bool false] zeroCm9 ?_; rw [← HV.out])
    | ((with_reducible show wpList _ _ _ (Oper.mk (some 7) (Op.build _ _) _ _ _ _ :: _) _ _); refine wpList_build rfl 46 _ rfl #[(0, .int .i64 2), (2, .int .i64 n), (4, .slice A m c)] (by simp only [List.map_toArray, List.map_cons, List.map_nil]; rfl) _ (buildCm9 _ _ _ _ _) ?_)
    | ((with_reducible show wpList _ _ _ (Oper.mk none (Op.store 46 (.tmp 2) _) _ _ _ _ :: _) _ _); refine wpList_store_whole rfl 46 (.tmp 2) (.tmp 7) rfl (w.heap.size + 1) rfl [.int .i64 2, .int .i64 0, .int .i64 n, .int .i64 0, .slice A m c, .int .i64 0, .int .i64 0, .int .i64 0, .int .i64 0, .int .i64 0, .bool false] rfl aggCmd rfl _ _ b2 rfl (by simp [Value.oneCell']) ?_; intro w8 b8 g8 s8))
  refine bodyPost_ret (results_cell_one rfl _ (w.heap.size + 1) _ #[.int .i64 2, .int .i64 0, .int .i64 n, .int .i64 0, .slice A m c, .int .i64 0, .int .i64 0, .int .i64 0, .int .i64 0, .int .i64 0, .bool false] aggCmd rfl rfl b8) rfl ⟨rfl, ?_⟩
  exact hbv.grown g8 hz (fun k hk => by cases hk; omega)
end Go.Proofs.Ytkiiobfomnggcaa
