/-
  TreeTurns: which tree any tree with another leaf is, and whether that leaf is verified under any root.
-/
import Derived.Test.YtbjiokjmidipaaaRefUpd
import Derived.Test.YtbjiokjmidipaaaVerify
import Derived.Test.YtbjiokjmidipaaaErr
namespace Go.Proofs.Ytbjiokjmidipaaa.treeTurns
open Go.RowKit
set_option linter.unusedVariables false
set_option linter.unusedSimpArgs false
set_option maxRecDepth 100000

theorem zs_sl (w : World) : SlS (w.alloc (.cells (arr8 zs16) 40)) (w.heap.size + 1) (some ⟨w.heap.size, 0, none⟩) 16 16 zs16 :=
  ⟨by simp [len_zs16], Nat.le_refl _, by simp [maxLen], fun _ => ⟨w.heap.size, 0, rfl, by simp, fun j u hu => by
    rw [(Blk.new w 40 (arr8 zs16)).cell, Nat.zero_add]
    simpa [arr8] using hu⟩⟩

set_option maxHeartbeats 4000000 in
theorem turns_c {w : World} {A0 A1 : Option Addr} {n0 c0 n1 c1 : Nat} {bs0 bs1 : List UInt8} (w0 : SlB w w.heap.size A0 n0 c0 bs0) (y0 : c0 ≤ 140737488351232) (w1 : SlB w w.heap.size A1 n1 c1 bs1) (y1 : c1 ≤ 140737488351232) (b : Int) (hbw : (Lit.int .i64 b).wf = true) (leaf : List UInt8) (hl : leaf.length = 32) (right : Bool) :
    Calls Try.prog 34 #[.slice A0 n0 c0, .slice A1 n1 c1, .int .i64 b, .agg (arr8 leaf), .bool right] w fun e w' => e = .returned (.bool true) ∧ Below w.heap.size w w' := by
  have hnb0 : n0 ≤ 140737488351232 := Nat.le_trans w0.le y0
  have hnb1 : n1 ≤ 140737488351232 := Nat.le_trans w1.le y1
  obtain ⟨g8, hg8⟩ : ∃ g, g = w.heap.size := ⟨_, rfl⟩
  obtain ⟨v, hv⟩ : ∃ v, v = w.alloc (.cells (arr8 leaf) 40) := ⟨_, rfl⟩
  have hbv : Below w.heap.size w v := by rw [hv]; exact below_alloc _ _
  have b8 : Blk v g8 40 (arr8 leaf) := by rw [hv, hg8]; exact Blk.new _ _ _
  have hz := hbv.size
  have hgw : w.heap.size ≤ g8 := by omega
  have hg8v : g8 < v.heap.size := b8.lt
  have HV := Lib.hid hv
  have HG := Lib.hid hg8
  have HZV := Lib.hid (show w.heap.size + 1 = v.heap.size by rw [hv, World.size_alloc])
  have W0 := Lib.hid (w0.below hbv)
  have W1 := Lib.hid (w1.below hbv)
  have hmk := make16
  have hal := below_alloc v (.cells (arr8 zs16) 40)
  have hva := hbv.trans (hal.mono hz)
  clear hv hg8 w0 w1
  by_cases hbig : 1000 < n0
  · have hbi : (1000 : Int) < (n0 : Int) := by omega
    go_enter Try.func34, Try.ntmps34
    go_wp2_with fail
    go_ret
    exact ⟨rfl, by rw [← HV.out]; exact hbv⟩
  by_cases hbig1 : 200 < n1
  · have hbi : ¬ (1000 : Int) < (n0 : Int) := by omega
    have hbi1 : (200 : Int) < (n1 : Int) := by omega
    go_enter Try.func34, Try.ntmps34
    go_wp2_with fail
    go_ret
    exact ⟨rfl, by rw [← HV.out]; exact hbv⟩
  have hbi : ¬ (1000 : Int) < (n0 : Int) := by omega
  have hbi1 : ¬ (200 : Int) < (n1 : Int) := by omega
  by_cases h32 : n1 = 32
  · subst h32
    by_cases hb : 0 ≤ b ∧ b < 16
    · have HB := Lib.hid hb
      have hTl := len_climbT (key := bs0) (xs := sumsOf bs1) (leaf := leaf) (b := b) (by rw [len_sumsOf, W1.out.len]) hl hb
      obtain ⟨T, hT⟩ : ∃ T, T = climbT bs0 (sumsOf bs1) b leaf := ⟨_, rfl⟩
      rw [← hT] at hTl
      have HT := Lib.hid hT
      have hLl : (sumsOf bs1).length = 32 * 32 := by rw [len_sumsOf, W1.out.len]
      clear hT
      have hb1 : ¬ b < 0 := by omega
      have hb2 : ¬ 15 < b := by omega
      clear hb
      cases right with
      | false =>
        go_enter Try.func34, Try.ntmps34
        go_wp2_with (first
          | (go_at_call 20; rw [← HV.out, HZV.out, ← HG.out]; refine (build_c ((W0.out.below (hal.mono hz)).more (Nat.le_trans hz hal.size)) (Nat.le_refl _) (by omega) (zs_sl v) (by simp)).mono ?_; rintro e v1 ⟨g6, c6, rfl, h6, hb6⟩; have h01 := hal.trans (hb6.mono hal.size); have hv1 := hbv.trans (h01.mono hz); have hz1 := hv1.size; have b81 := b8.below h01 hg8v; clear h6)
          | (go_at_call 19; refine (sums_c ((W1.out.below (h01.mono hz)).more hz1) (Nat.le_refl _) (by omega)).mono ?_; rintro e v2 ⟨A2, c2, rfl, h2, hb2⟩; have hv2 := hv1.trans (hb2.mono hz1); have hz2 := hv2.size; have b82 := b81.below hb2 b81.lt; have k2 : OwS (v2.alloc (.cells #[] 40)) v2.heap.size (some ⟨v2.heap.size, 0, none⟩) 0 0 [] := Row.nil _ _ _ _ _; have s2 := OwS.sl (Row.alloc h2 (.cells #[] 40)))
          | (at_builtin; refine wpList_appendS rfl (.tmp 42) (.tmp 43) rfl rfl k2 rfl s2 (by omega) (by simp) 32 (by omega) ?_; intro A3 c3 v3 h3 q3; have hb3 : Below v2.heap.size v2 v3 := q3.below k2 (below_alloc _ _) (Nat.le_refl _) (by simp); have h23 := OwS.below h2 hb3; have hv3 := hv2.trans (hb3.mono hz2); have hz3 := hv3.size; have b83 := b82.below hb3 b82.lt; have hz13 : v1.heap.size ≤ v3.heap.size := Nat.le_trans hb2.size hb3.size; rw [List.nil_append] at h3; have kk3 := W0.out.below (((h01.trans ((hb2.trans (hb3.mono hb2.size)).mono h01.size))).mono hz); have kkz : w.heap.size ≤ v3.heap.size := hz3)
          | ((with_reducible show wpList _ _ _ (Oper.mk (some 49) _ _ _ _ _ :: _) _ _); refine wpList_load_whole (by rfl) 40 (.tmp 8) rfl g8 rfl (arr8 leaf) agg44 (by rw [size_arr8, hl]) 40 b83 ?_)
          | (go_at_call 25; refine (update_c kk3 kkz (by omega) h3.sl (Nat.le_refl _) b HB.out hl).mono ?_; rintro e v4 ⟨g4, c4, rfl, h4, hb4⟩; rw [← HT.out] at h4; have hv4 := hv3.trans (hb4.mono hz3); have hz4 := hv4.size; have b84 := b83.below hb4 b83.lt; have h34 := OwS.below h3 hb4; have h24 := OwS.below h23 hb4; have kk4 := kk3.below (hb4.mono kkz); have kkz4 : w.heap.size ≤ v4.heap.size := hz4)
          | (go_at_call 21; refine (same2_c h34.sl h24.sl (Nat.le_refl _) (Nat.le_refl _) true (by simp)).mono ?_; rintro e v5 ⟨rfl, hb5⟩; have hv5 := hv4.trans (hb5.mono hz4); have hz5 := hv5.size; have b85 := b84.below hb5 b84.lt; have h35 := OwS.below h34 hb5; have h25 := OwS.below h24 hb5; have kk5 := kk4.below (hb5.mono kkz4); have kkz5 : w.heap.size ≤ v5.heap.size := hz5)
          | (go_at_call 61; refine (refupdate_c kk5 kkz5 (by omega) h25.sl (Nat.le_refl _) b HB.out hl).mono ?_; rintro e v6 ⟨g6', c6', rfl, h6', hb6'⟩; rw [← HT.out] at h6'; have hv6 := hv5.trans (hb6'.mono hz5); have hz6 := hv6.size; have b86 := b85.below hb6' b85.lt; have h36 := OwS.below h35 hb6'; have h26 := OwS.below h25 hb6'; have h46 := OwS.below (OwS.below h4 hb5) hb6'; have kk6 := kk5.below (hb6'.mono kkz5); have kkz6 : w.heap.size ≤ v6.heap.size := hz6; obtain ⟨ga, cura, ea, _⟩ := h26.2.2.2 (by have := OwS.le h26; omega); subst ea; have d1 := Lib.hid (OwS.elt_ h26 (i := 1) (by omega)); have e1 := len_elt hLl (i := 1) (by omega); have hTe := len_elt hTl (i := 1) (by omega); have dT := Lib.hid (OwS.elt_ h6' (i := 1) (by omega)); have hg6l := OwS.lt h6' (by omega); have hc2 := OwS.le h26; have hcc2 := h26.2.2.1; have hc6 := OwS.le h6'; have hcc6 := h6'.2.2.1; have b18 := Blk.new v6 40 (arr8 (z8' 32)))
          | ((with_reducible show wpList _ _ _ (Oper.mk (some 103) _ _ _ _ _ :: _) _ _); refine wpList_load_whole (by rfl) 40 (.tmp 8) rfl g8 rfl (arr8 leaf) agg44 (by rw [size_arr8, hl]) 40 b85 ?_)
          | ((with_reducible show wpList _ _ _ (Oper.mk (some 107) _ _ _ _ _ :: _) _ _); refine wpList_load_agg (by rfl) 40 (.tmp 106) rfl ga 32 rfl (arr8 (elt (sumsOf bs1) 1)) agg44 (by rw [size_arr8, e1]) d1.out ?_)
          | ((with_reducible show wpList _ _ _ (Oper.mk (some 18) (Op.alloc 40) _ _ _ _ :: _) _ _); refine wpList_alloc_agg rfl 40 rfl (arr8 (z8' 32)) zero44 ?_)
          | ((with_reducible show wpList _ _ _ (Oper.mk none (Op.store 40 (.tmp 18) (.tmp 107)) _ _ _ _ :: _) _ _); refine wpList_store8 rfl 40 (.tmp 18) (.tmp 107) rfl v6.heap.size rfl (elt (sumsOf bs1) 1) rfl agg44 e1 _ _ b18 (by rw [size_arr8, len_z8']) ?_; intro v7 hb7 hg7 hs7; have h67 : Below v6.heap.size v6 v7 := (below_alloc _ _).grown hg7 (by simp) (fun k hk => by cases hk; exact Nat.le_refl _); have dT7 : ∀ j v, (arr8 (elt T 1))[j]? = some v → v7.cell? ⟨g6', 32 + j, none⟩ = some v := fun j v hv => (h67.cell (p := ⟨g6', 32 + j, none⟩) hg6l).trans (dT.out j v hv); simp only [Act.put, List.setIfInBounds_toArray, List.set_cons_succ, List.set_cons_zero])
          | ((with_reducible show wpList _ _ _ (Oper.mk (some 111) _ _ _ _ _ :: _) _ _); refine wpList_load_agg (by rfl) 40 (.tmp 110) rfl g6' 32 rfl (arr8 (elt T 1)) agg44 (by rw [size_arr8, hTe]) dT7 ?_)
          | ((with_reducible show wpList _ _ _ (Oper.mk none (Op.store 40 (.tmp 18) (.tmp 111)) _ _ _ _ :: _) _ _); refine wpList_store8 rfl 40 (.tmp 18) (.tmp 111) rfl v6.heap.size rfl (elt T 1) rfl agg44 hTe _ _ hb7 (by rw [size_arr8, e1]) ?_; intro v9 hb9 hg9 hs9; simp only [Act.put, List.setIfInBounds_toArray, List.set_cons_succ, List.set_cons_zero]))
        obtain ⟨eT, heT'⟩ : ∃ eT, eT = elt T 1 := ⟨_, rfl⟩
        have heT : eT.length = 32 := by rw [heT', hTe]
        have HET := Lib.hid heT'
        clear heT'
        obtain ⟨RT, hRT'⟩ : ∃ RT, RT = elt (sumsOf bs1) 1 := ⟨_, rfl⟩
        have hRT : RT.length = 32 := by rw [hRT', e1]
        have BRT : Blk v7 v6.heap.size 40 (arr8 RT) := by rw [hRT']; exact hb7
        obtain ⟨r, hr⟩ : ∃ r, (eT == RT) = r := ⟨_, rfl⟩
        have HR := Lib.hid hr
        have HR2 := Lib.hid (show (RT == eT) = r by rw [← hr]; exact Bool.beq_comm)
        clear hr hRT' hb7 dT7
        have hw7 := hv6.trans (h67.mono hz6)
        have hz7 := hw7.size
        have f37 := OwS.below h36 h67
        have f47 := OwS.below h46 h67
        have f67 := OwS.below h6' h67
        have k7 := kk6.below (h67.mono kkz6)
        have kz7 : w.heap.size ≤ v7.heap.size := hz7
        have l7 := b86.below h67 b86.lt
        have dV : ∀ j v, (arr8 eT)[j]? = some v → v7.cell? ⟨g6', 32 + j, none⟩ = some v := fun j v hv => (h67.cell (p := ⟨g6', 32 + j, none⟩) hg6l).trans (by rw [HET.out] at hv; exact dT.out j v hv)
        have hgl7 : g6' < v7.heap.size := Nat.lt_of_lt_of_le hg6l h67.size
        refine wp_region_rel (fun W W' => Below W.heap.size W W') (fun W => Below v7.heap.size v7 W)
          [Det (.nilIface), Det (.bool true), Det (.bool true), Det (.slice (some ⟨g4, 0, none⟩) 32 c4), Det (.slice (some ⟨g6', 0, none⟩) 32 c6'), Det (.bool true), Det (.bool true), Det (.bool true), Det (.slice A0 n0 c0), Det (.slice A3 32 c3), Det (.agg (arr8 RT)), Det (.int .i64 b), Det (.agg (arr8 leaf)), Det (.bool r), Det (.agg (arr8 RT)), Det (.slice (some ⟨g6', 0, none⟩) 32 c6'), Det (.pointer (some ⟨g6', 32, none⟩)), Det (.agg (arr8 eT)), Det (.bool r), Det (.bool true), Det (.bool true), Det (.bool true)]
          [[], [(0, some 112)], [(1, some 113)], [(2, some 114)], [(2, some 114)], [(3, some 115), (4, some 116), (2, some 114)], [(2, some 114), (5, some 117)], [(6, some 118)], [(7, some 119)], [(7, some 119)], [(7, some 119)], [(7, some 119)], [(7, some 119)], [(8, some 120), (9, some 121), (10, some 122), (11, some 123), (12, some 124), (7, some 119)], [(7, some 119)], [(7, some 119)], [(15, some 127), (7, some 119)], [(16, some 128), (7, some 119)], [(14, some 126), (17, some 129), (7, some 119)], [(13, some 125), (18, some 130), (7, some 119)], [(7, some 119), (19, some 131)], [(20, some 132)]]
          [[], [0], [0, 1], [0, 1, 2], [0, 1, 2], [0, 1, 2, 3, 4], [0, 1, 2, 3, 4, 5], [0, 1, 2, 3, 4, 5, 6], [0, 1, 2, 3, 4, 5, 6, 7], [0, 1, 2, 3, 4, 5, 6, 7], [0, 1, 2, 3, 4, 5, 6, 7], [0, 1, 2, 3, 4, 5, 6, 7], [0, 1, 2, 3, 4, 5, 6, 7], [0, 1, 2, 3, 4, 5, 6, 7, 8, 9, 10, 11, 12], [0, 1, 2, 3, 4, 5, 6, 7], [0, 1, 2, 3, 4, 5, 6, 7], [0, 1, 2, 3, 4, 5, 6, 7, 15], [0, 1, 2, 3, 4, 5, 6, 7, 15, 16], [0, 1, 2, 3, 4, 5, 6, 7, 14, 15, 16, 17], [0, 1, 2, 3, 4, 5, 6, 7, 8, 9, 10, 11, 12, 13, 14, 15, 16, 17, 18], [0, 1, 2, 3, 4, 5, 6, 7, 8, 9, 10, 11, 12, 13, 14, 15, 16, 17, 18, 19], [0, 1, 2, 3, 4, 5, 6, 7, 8, 9, 10, 11, 12, 13, 14, 15, 16, 17, 18, 19, 20]]
          [(0, some 112), (1, some 113), (2, some 114), (3, some 115), (4, some 116), (5, some 117), (6, some 118), (7, some 119), (8, some 120), (9, some 121), (10, some 122), (11, some 123), (12, some 124), (13, some 125), (14, some 126), (15, some 127), (16, some 128), (17, some 129), (18, some 130), (19, some 131), (20, some 132), (21, some 10)] (by kernel_rfl) (by kernel_rfl) (fun W W' h1 h2 => h1.trans (h2.mono h1.size)) ((Below.refl _ _).drew) ?_ ?_ ?_
        · exact (AllMono.cons Det.later (AllMono.cons Det.later (AllMono.cons Det.later (AllMono.cons Det.later (AllMono.cons Det.later (AllMono.cons Det.later (AllMono.cons Det.later (AllMono.cons Det.later (AllMono.cons Det.later (AllMono.cons Det.later (AllMono.cons Det.later (AllMono.cons Det.later (AllMono.cons Det.later (AllMono.cons Det.later (AllMono.cons Det.later (AllMono.cons Det.later (AllMono.cons Det.later (AllMono.cons Det.later (AllMono.cons Det.later (AllMono.cons Det.later (AllMono.cons Det.later (AllMono.cons Det.later AllMono.nil))))))))))))))))))))))
        · refine AllOb.cons ?_ (AllOb.cons ?_ (AllOb.cons ?_ (AllOb.cons ?_ (AllOb.cons ?_ (AllOb.cons ?_ (AllOb.cons ?_ (AllOb.cons ?_ (AllOb.cons ?_ (AllOb.cons ?_ (AllOb.cons ?_ (AllOb.cons ?_ (AllOb.cons ?_ (AllOb.cons ?_ (AllOb.cons ?_ (AllOb.cons ?_ (AllOb.cons ?_ (AllOb.cons ?_ (AllOb.cons ?_ (AllOb.cons ?_ (AllOb.cons ?_ (AllOb.cons ?_ (AllOb.nil))))))))))))))))))))))
          · intro uF W hC' hU aF hF
            have hC : Below v7.heap.size v7 W := hC'
            clear hC'
            simp only [puts] at hF
            subst hF
            go_wp2_with (fail)
            exact ⟨rfl, rfl, (Below.refl _ _), rfl⟩
          · intro uF W hC' hU aF hF
            have hC : Below v7.heap.size v7 W := hC'
            clear hC'
            have h112 : (Det (.nilIface)) (uF 0) W := hU.1
            clear hU
            simp only [puts, Act.put, List.setIfInBounds_toArray, List.set_cons_zero, List.set_cons_succ] at hF
            generalize uF 0 = x112 at h112 hF
            obtain rfl : x112 = (.nilIface) := h112
            subst hF
            go_wp2_with (fail)
            exact ⟨rfl, rfl, (Below.refl _ _), rfl⟩
          · intro uF W hC' hU aF hF
            have hC : Below v7.heap.size v7 W := hC'
            clear hC'
            have h113 : (Det (.bool true)) (uF 1) W := hU.1
            clear hU
            simp only [puts, Act.put, List.setIfInBounds_toArray, List.set_cons_zero, List.set_cons_succ] at hF
            generalize uF 1 = x113 at h113 hF
            obtain rfl : x113 = (.bool true) := h113
            subst hF
            go_wp2_with (fail)
            exact ⟨rfl, rfl, (Below.refl _ _), rfl⟩
          · intro uF W hC' hU aF hF
            have hC : Below v7.heap.size v7 W := hC'
            clear hC'
            have h114 : (Det (.bool true)) (uF 2) W := hU.1
            clear hU
            simp only [puts, Act.put, List.setIfInBounds_toArray, List.set_cons_zero, List.set_cons_succ] at hF
            generalize uF 2 = x114 at h114 hF
            obtain rfl : x114 = (.bool true) := h114
            subst hF
            go_wp2_with (fail)
            exact ⟨rfl, rfl, (Below.refl _ _), rfl⟩
          · intro uF W hC' hU aF hF
            have hC : Below v7.heap.size v7 W := hC'
            clear hC'
            have h114 : (Det (.bool true)) (uF 2) W := hU.1
            clear hU
            simp only [puts, Act.put, List.setIfInBounds_toArray, List.set_cons_zero, List.set_cons_succ] at hF
            generalize uF 2 = x114 at h114 hF
            obtain rfl : x114 = (.bool true) := h114
            subst hF
            go_wp2_with (fail)
            exact ⟨rfl, rfl, (Below.refl _ _), rfl⟩
          · intro uF W hC' hU aF hF
            have hC : Below v7.heap.size v7 W := hC'
            clear hC'
            have h115 : (Det (.slice (some ⟨g4, 0, none⟩) 32 c4)) (uF 3) W := hU.1
            have h116 : (Det (.slice (some ⟨g6', 0, none⟩) 32 c6')) (uF 4) W := hU.2.1
            have h114 : (Det (.bool true)) (uF 2) W := hU.2.2.1
            clear hU
            simp only [puts, Act.put, List.setIfInBounds_toArray, List.set_cons_zero, List.set_cons_succ] at hF
            generalize uF 3 = x115 at h115 hF
            generalize uF 4 = x116 at h116 hF
            generalize uF 2 = x114 at h114 hF
            obtain rfl : x115 = (.slice (some ⟨g4, 0, none⟩) 32 c4) := h115
            obtain rfl : x116 = (.slice (some ⟨g6', 0, none⟩) 32 c6') := h116
            obtain rfl : x114 = (.bool true) := h114
            subst hF
            go_wp2_with ((go_at_call 21; refine (same2_c ((OwS.below f47 hC).sl) ((OwS.below f67 hC).sl) (Nat.le_refl _) (Nat.le_refl _) true (by simp)).mono ?_; rintro e W1 ⟨rfl, hb⟩))
            exact ⟨rfl, rfl, hb, rfl⟩
          · intro uF W hC' hU aF hF
            have hC : Below v7.heap.size v7 W := hC'
            clear hC'
            have h114 : (Det (.bool true)) (uF 2) W := hU.1
            have h117 : (Det (.bool true)) (uF 5) W := hU.2.1
            clear hU
            simp only [puts, Act.put, List.setIfInBounds_toArray, List.set_cons_zero, List.set_cons_succ] at hF
            generalize uF 2 = x114 at h114 hF
            generalize uF 5 = x117 at h117 hF
            obtain rfl : x114 = (.bool true) := h114
            obtain rfl : x117 = (.bool true) := h117
            subst hF
            go_wp2_with (fail)
            exact ⟨rfl, rfl, (Below.refl _ _), rfl⟩
          · intro uF W hC' hU aF hF
            have hC : Below v7.heap.size v7 W := hC'
            clear hC'
            have h118 : (Det (.bool true)) (uF 6) W := hU.1
            clear hU
            simp only [puts, Act.put, List.setIfInBounds_toArray, List.set_cons_zero, List.set_cons_succ] at hF
            generalize uF 6 = x118 at h118 hF
            obtain rfl : x118 = (.bool true) := h118
            subst hF
            go_wp2_with (fail)
            exact ⟨rfl, rfl, (Below.refl _ _), rfl⟩
          · intro uF W hC' hU aF hF
            have hC : Below v7.heap.size v7 W := hC'
            clear hC'
            have h119 : (Det (.bool true)) (uF 7) W := hU.1
            clear hU
            simp only [puts, Act.put, List.setIfInBounds_toArray, List.set_cons_zero, List.set_cons_succ] at hF
            generalize uF 7 = x119 at h119 hF
            obtain rfl : x119 = (.bool true) := h119
            subst hF
            go_wp2_with (fail)
            exact ⟨rfl, rfl, (Below.refl _ _), rfl⟩
          · intro uF W hC' hU aF hF
            have hC : Below v7.heap.size v7 W := hC'
            clear hC'
            have h119 : (Det (.bool true)) (uF 7) W := hU.1
            clear hU
            simp only [puts, Act.put, List.setIfInBounds_toArray, List.set_cons_zero, List.set_cons_succ] at hF
            generalize uF 7 = x119 at h119 hF
            obtain rfl : x119 = (.bool true) := h119
            subst hF
            go_wp2_with (fail)
            exact ⟨rfl, rfl, (Below.refl _ _), rfl⟩
          · intro uF W hC' hU aF hF
            have hC : Below v7.heap.size v7 W := hC'
            clear hC'
            have h119 : (Det (.bool true)) (uF 7) W := hU.1
            clear hU
            simp only [puts, Act.put, List.setIfInBounds_toArray, List.set_cons_zero, List.set_cons_succ] at hF
            generalize uF 7 = x119 at h119 hF
            obtain rfl : x119 = (.bool true) := h119
            subst hF
            go_wp2_with (((with_reducible show wpList _ _ _ (Oper.mk _ (Op.load 40 _) _ _ _ _ :: _) _ _); refine wpList_load_whole (by rfl) 40 (.tmp 18) rfl v6.heap.size rfl (arr8 RT) agg44 (by rw [size_arr8, hRT]) 40 (BRT.below hC BRT.lt) ?_))
            exact ⟨rfl, rfl, (Below.refl _ _), rfl⟩
          · intro uF W hC' hU aF hF
            have hC : Below v7.heap.size v7 W := hC'
            clear hC'
            have h119 : (Det (.bool true)) (uF 7) W := hU.1
            clear hU
            simp only [puts, Act.put, List.setIfInBounds_toArray, List.set_cons_zero, List.set_cons_succ] at hF
            generalize uF 7 = x119 at h119 hF
            obtain rfl : x119 = (.bool true) := h119
            subst hF
            go_wp2_with (fail)
            exact ⟨rfl, rfl, (Below.refl _ _), rfl⟩
          · intro uF W hC' hU aF hF
            have hC : Below v7.heap.size v7 W := hC'
            clear hC'
            have h119 : (Det (.bool true)) (uF 7) W := hU.1
            clear hU
            simp only [puts, Act.put, List.setIfInBounds_toArray, List.set_cons_zero, List.set_cons_succ] at hF
            generalize uF 7 = x119 at h119 hF
            obtain rfl : x119 = (.bool true) := h119
            subst hF
            go_wp2_with (((with_reducible show wpList _ _ _ (Oper.mk _ (Op.load 40 _) _ _ _ _ :: _) _ _); refine wpList_load_whole (by rfl) 40 (.tmp 8) rfl g8 rfl (arr8 leaf) agg44 (by rw [size_arr8, hl]) 40 (l7.below hC l7.lt) ?_))
            exact ⟨rfl, rfl, (Below.refl _ _), rfl⟩
          · intro uF W hC' hU aF hF
            have hC : Below v7.heap.size v7 W := hC'
            clear hC'
            have h120 : (Det (.slice A0 n0 c0)) (uF 8) W := hU.1
            have h121 : (Det (.slice A3 32 c3)) (uF 9) W := hU.2.1
            have h122 : (Det (.agg (arr8 RT))) (uF 10) W := hU.2.2.1
            have h123 : (Det (.int .i64 b)) (uF 11) W := hU.2.2.2.1
            have h124 : (Det (.agg (arr8 leaf))) (uF 12) W := hU.2.2.2.2.1
            have h119 : (Det (.bool true)) (uF 7) W := hU.2.2.2.2.2.1
            clear hU
            simp only [puts, Act.put, List.setIfInBounds_toArray, List.set_cons_zero, List.set_cons_succ] at hF
            generalize uF 8 = x120 at h120 hF
            generalize uF 9 = x121 at h121 hF
            generalize uF 10 = x122 at h122 hF
            generalize uF 11 = x123 at h123 hF
            generalize uF 12 = x124 at h124 hF
            generalize uF 7 = x119 at h119 hF
            obtain rfl : x120 = (.slice A0 n0 c0) := h120
            obtain rfl : x121 = (.slice A3 32 c3) := h121
            obtain rfl : x122 = (.agg (arr8 RT)) := h122
            obtain rfl : x123 = (.int .i64 b) := h123
            obtain rfl : x124 = (.agg (arr8 leaf)) := h124
            obtain rfl : x119 = (.bool true) := h119
            subst hF
            go_wp2_with ((go_at_call 24; refine (verify_c (k7.below (hC.mono kz7)) (Nat.le_trans kz7 hC.size) (by omega) ((OwS.below f37 hC).sl) (Nat.le_refl _) b HB.out hl hRT r (by rw [← HT.out, ← HET.out]; exact HR.out)).mono ?_; rintro e W1 ⟨rfl, hb⟩))
            exact ⟨rfl, rfl, hb, rfl⟩
          · intro uF W hC' hU aF hF
            have hC : Below v7.heap.size v7 W := hC'
            clear hC'
            have h119 : (Det (.bool true)) (uF 7) W := hU.1
            clear hU
            simp only [puts, Act.put, List.setIfInBounds_toArray, List.set_cons_zero, List.set_cons_succ] at hF
            generalize uF 7 = x119 at h119 hF
            obtain rfl : x119 = (.bool true) := h119
            subst hF
            go_wp2_with (((with_reducible show wpList _ _ _ (Oper.mk _ (Op.load 40 _) _ _ _ _ :: _) _ _); refine wpList_load_whole (by rfl) 40 (.tmp 18) rfl v6.heap.size rfl (arr8 RT) agg44 (by rw [size_arr8, hRT]) 40 (BRT.below hC BRT.lt) ?_))
            exact ⟨rfl, rfl, (Below.refl _ _), rfl⟩
          · intro uF W hC' hU aF hF
            have hC : Below v7.heap.size v7 W := hC'
            clear hC'
            have h119 : (Det (.bool true)) (uF 7) W := hU.1
            clear hU
            simp only [puts, Act.put, List.setIfInBounds_toArray, List.set_cons_zero, List.set_cons_succ] at hF
            generalize uF 7 = x119 at h119 hF
            obtain rfl : x119 = (.bool true) := h119
            subst hF
            go_wp2_with (fail)
            exact ⟨rfl, rfl, (Below.refl _ _), rfl⟩
          · intro uF W hC' hU aF hF
            have hC : Below v7.heap.size v7 W := hC'
            clear hC'
            have h127 : (Det (.slice (some ⟨g6', 0, none⟩) 32 c6')) (uF 15) W := hU.1
            have h119 : (Det (.bool true)) (uF 7) W := hU.2.1
            clear hU
            simp only [puts, Act.put, List.setIfInBounds_toArray, List.set_cons_zero, List.set_cons_succ] at hF
            generalize uF 15 = x127 at h127 hF
            generalize uF 7 = x119 at h119 hF
            obtain rfl : x127 = (.slice (some ⟨g6', 0, none⟩) 32 c6') := h127
            obtain rfl : x119 = (.bool true) := h119
            subst hF
            go_wp2_with (fail)
            exact ⟨rfl, rfl, (Below.refl _ _), rfl⟩
          · intro uF W hC' hU aF hF
            have hC : Below v7.heap.size v7 W := hC'
            clear hC'
            have h128 : (Det (.pointer (some ⟨g6', 32, none⟩))) (uF 16) W := hU.1
            have h119 : (Det (.bool true)) (uF 7) W := hU.2.1
            clear hU
            simp only [puts, Act.put, List.setIfInBounds_toArray, List.set_cons_zero, List.set_cons_succ] at hF
            generalize uF 16 = x128 at h128 hF
            generalize uF 7 = x119 at h119 hF
            obtain rfl : x128 = (.pointer (some ⟨g6', 32, none⟩)) := h128
            obtain rfl : x119 = (.bool true) := h119
            subst hF
            go_wp2_with (((with_reducible show wpList _ _ _ (Oper.mk _ (Op.load 40 _) _ _ _ _ :: _) _ _); refine wpList_load_agg (by rfl) 40 (.tmp 128) rfl g6' 32 rfl (arr8 eT) agg44 (by rw [size_arr8, heT]) (fun j v hv => (hC.cell (p := ⟨g6', 32 + j, none⟩) hgl7).trans (dV j v hv)) ?_))
            exact ⟨rfl, rfl, (Below.refl _ _), rfl⟩
          · intro uF W hC' hU aF hF
            have hC : Below v7.heap.size v7 W := hC'
            clear hC'
            have h126 : (Det (.agg (arr8 RT))) (uF 14) W := hU.1
            have h129 : (Det (.agg (arr8 eT))) (uF 17) W := hU.2.1
            have h119 : (Det (.bool true)) (uF 7) W := hU.2.2.1
            clear hU
            simp only [puts, Act.put, List.setIfInBounds_toArray, List.set_cons_zero, List.set_cons_succ] at hF
            generalize uF 14 = x126 at h126 hF
            generalize uF 17 = x129 at h129 hF
            generalize uF 7 = x119 at h119 hF
            obtain rfl : x126 = (.agg (arr8 RT)) := h126
            obtain rfl : x129 = (.agg (arr8 eT)) := h129
            obtain rfl : x119 = (.bool true) := h119
            subst hF
            have he := eq44 RT eT hRT heT r HR2.out
            have hg := guard44
            go_wp2_with (fail)
            exact ⟨rfl, rfl, (Below.refl _ _), rfl⟩
          · intro uF W hC' hU aF hF
            have hC : Below v7.heap.size v7 W := hC'
            clear hC'
            have h125 : (Det (.bool r)) (uF 13) W := hU.1
            have h130 : (Det (.bool r)) (uF 18) W := hU.2.1
            have h119 : (Det (.bool true)) (uF 7) W := hU.2.2.1
            clear hU
            simp only [puts, Act.put, List.setIfInBounds_toArray, List.set_cons_zero, List.set_cons_succ] at hF
            generalize uF 13 = x125 at h125 hF
            generalize uF 18 = x130 at h130 hF
            generalize uF 7 = x119 at h119 hF
            obtain rfl : x125 = (.bool r) := h125
            obtain rfl : x130 = (.bool r) := h130
            obtain rfl : x119 = (.bool true) := h119
            subst hF
            go_wp2_with (fail)
            exact ⟨rfl, rfl, (Below.refl _ _), rfl⟩
          · intro uF W hC' hU aF hF
            have hC : Below v7.heap.size v7 W := hC'
            clear hC'
            have h119 : (Det (.bool true)) (uF 7) W := hU.1
            have h131 : (Det (.bool true)) (uF 19) W := hU.2.1
            clear hU
            simp only [puts, Act.put, List.setIfInBounds_toArray, List.set_cons_zero, List.set_cons_succ] at hF
            generalize uF 7 = x119 at h119 hF
            generalize uF 19 = x131 at h131 hF
            obtain rfl : x119 = (.bool true) := h119
            obtain rfl : x131 = (.bool true) := h131
            subst hF
            go_wp2_with (fail)
            exact ⟨rfl, rfl, (Below.refl _ _), rfl⟩
          · intro uF W hC' hU aF hF
            have hC : Below v7.heap.size v7 W := hC'
            clear hC'
            have h132 : (Det (.bool true)) (uF 20) W := hU.1
            clear hU
            simp only [puts, Act.put, List.setIfInBounds_toArray, List.set_cons_zero, List.set_cons_succ] at hF
            generalize uF 20 = x132 at h132 hF
            obtain rfl : x132 = (.bool true) := h132
            subst hF
            go_wp2_with (fail)
            exact ⟨rfl, rfl, (Below.refl _ _), rfl⟩
        intro uF v8 hC' hU aF hF
        have hCv8 : Below v7.heap.size v7 v8 := hC'
        clear hC'
        have h10 : (Det (.bool true)) (uF 21) v8 := hU.2.2.2.2.2.2.2.2.2.2.2.2.2.2.2.2.2.2.2.2.2.1
        clear hU
        simp only [puts, Act.put, List.setIfInBounds_toArray, List.set_cons_zero, List.set_cons_succ] at hF
        generalize uF 0 = x112 at hF
        generalize uF 1 = x113 at hF
        generalize uF 2 = x114 at hF
        generalize uF 3 = x115 at hF
        generalize uF 4 = x116 at hF
        generalize uF 5 = x117 at hF
        generalize uF 6 = x118 at hF
        generalize uF 7 = x119 at hF
        generalize uF 8 = x120 at hF
        generalize uF 9 = x121 at hF
        generalize uF 10 = x122 at hF
        generalize uF 11 = x123 at hF
        generalize uF 12 = x124 at hF
        generalize uF 13 = x125 at hF
        generalize uF 14 = x126 at hF
        generalize uF 15 = x127 at hF
        generalize uF 16 = x128 at hF
        generalize uF 17 = x129 at hF
        generalize uF 18 = x130 at hF
        generalize uF 19 = x131 at hF
        generalize uF 20 = x132 at hF
        generalize uF 21 = x10 at h10 hF
        obtain rfl : x10 = (.bool true) := h10
        subst hF
        go_wp2_with fail
        go_ret
        exact ⟨rfl, hw7.trans (hCv8.mono hz7)⟩
      | true =>
        go_enter Try.func34, Try.ntmps34
        go_wp2_with (first
          | (go_at_call 20; rw [← HV.out, HZV.out, ← HG.out]; refine (build_c ((W0.out.below (hal.mono hz)).more (Nat.le_trans hz hal.size)) (Nat.le_refl _) (by omega) (zs_sl v) (by simp)).mono ?_; rintro e v1 ⟨g6, c6, rfl, h6, hb6⟩; have h01 := hal.trans (hb6.mono hal.size); have hv1 := hbv.trans (h01.mono hz); have hz1 := hv1.size; have b81 := b8.below h01 hg8v; clear h6)
          | (go_at_call 19; refine (sums_c ((W1.out.below (h01.mono hz)).more hz1) (Nat.le_refl _) (by omega)).mono ?_; rintro e v2 ⟨A2, c2, rfl, h2, hb2⟩; have hv2 := hv1.trans (hb2.mono hz1); have hz2 := hv2.size; have b82 := b81.below hb2 b81.lt; have k2 : OwS (v2.alloc (.cells #[] 40)) v2.heap.size (some ⟨v2.heap.size, 0, none⟩) 0 0 [] := Row.nil _ _ _ _ _; have s2 := OwS.sl (Row.alloc h2 (.cells #[] 40)))
          | (at_builtin; refine wpList_appendS rfl (.tmp 42) (.tmp 43) rfl rfl k2 rfl s2 (by omega) (by simp) 32 (by omega) ?_; intro A3 c3 v3 h3 q3; have hb3 : Below v2.heap.size v2 v3 := q3.below k2 (below_alloc _ _) (Nat.le_refl _) (by simp); have h23 := OwS.below h2 hb3; have hv3 := hv2.trans (hb3.mono hz2); have hz3 := hv3.size; have b83 := b82.below hb3 b82.lt; have hz13 : v1.heap.size ≤ v3.heap.size := Nat.le_trans hb2.size hb3.size; rw [List.nil_append] at h3; have kk3 := W0.out.below (((h01.trans ((hb2.trans (hb3.mono hb2.size)).mono h01.size))).mono hz); have kkz : w.heap.size ≤ v3.heap.size := hz3)
          | ((with_reducible show wpList _ _ _ (Oper.mk (some 49) _ _ _ _ _ :: _) _ _); refine wpList_load_whole (by rfl) 40 (.tmp 8) rfl g8 rfl (arr8 leaf) agg44 (by rw [size_arr8, hl]) 40 b83 ?_)
          | (go_at_call 25; refine (update_c kk3 kkz (by omega) h3.sl (Nat.le_refl _) b HB.out hl).mono ?_; rintro e v4 ⟨g4, c4, rfl, h4, hb4⟩; rw [← HT.out] at h4; have hv4 := hv3.trans (hb4.mono hz3); have hz4 := hv4.size; have b84 := b83.below hb4 b83.lt; have h34 := OwS.below h3 hb4; have h24 := OwS.below h23 hb4; have kk4 := kk3.below (hb4.mono kkz); have kkz4 : w.heap.size ≤ v4.heap.size := hz4)
          | (go_at_call 21; refine (same2_c h34.sl h24.sl (Nat.le_refl _) (Nat.le_refl _) true (by simp)).mono ?_; rintro e v5 ⟨rfl, hb5⟩; have hv5 := hv4.trans (hb5.mono hz4); have hz5 := hv5.size; have b85 := b84.below hb5 b84.lt; have h35 := OwS.below h34 hb5; have h25 := OwS.below h24 hb5; have kk5 := kk4.below (hb5.mono kkz4); have kkz5 : w.heap.size ≤ v5.heap.size := hz5)
          | (go_at_call 61; refine (refupdate_c kk5 kkz5 (by omega) h25.sl (Nat.le_refl _) b HB.out hl).mono ?_; rintro e v6 ⟨g6', c6', rfl, h6', hb6'⟩; rw [← HT.out] at h6'; have hv6 := hv5.trans (hb6'.mono hz5); have hz6 := hv6.size; have b86 := b85.below hb6' b85.lt; have h36 := OwS.below h35 hb6'; have h26 := OwS.below h25 hb6'; have h46 := OwS.below (OwS.below h4 hb5) hb6'; have kk6 := kk5.below (hb6'.mono kkz5); have kkz6 : w.heap.size ≤ v6.heap.size := hz6; obtain ⟨ga, cura, ea, _⟩ := h26.2.2.2 (by have := OwS.le h26; omega); subst ea; have d1 := Lib.hid (OwS.elt_ h26 (i := 1) (by omega)); have e1 := len_elt hLl (i := 1) (by omega); have hTe := len_elt hTl (i := 1) (by omega); have dT := Lib.hid (OwS.elt_ h6' (i := 1) (by omega)); have hg6l := OwS.lt h6' (by omega); have hc2 := OwS.le h26; have hcc2 := h26.2.2.1; have hc6 := OwS.le h6'; have hcc6 := h6'.2.2.1; have b18 := Blk.new v6 40 (arr8 (z8' 32)))
          | ((with_reducible show wpList _ _ _ (Oper.mk (some 103) _ _ _ _ _ :: _) _ _); refine wpList_load_whole (by rfl) 40 (.tmp 8) rfl g8 rfl (arr8 leaf) agg44 (by rw [size_arr8, hl]) 40 b85 ?_)
          | ((with_reducible show wpList _ _ _ (Oper.mk (some 107) _ _ _ _ _ :: _) _ _); refine wpList_load_agg (by rfl) 40 (.tmp 106) rfl ga 32 rfl (arr8 (elt (sumsOf bs1) 1)) agg44 (by rw [size_arr8, e1]) d1.out ?_)
          | ((with_reducible show wpList _ _ _ (Oper.mk (some 18) (Op.alloc 40) _ _ _ _ :: _) _ _); refine wpList_alloc_agg rfl 40 rfl (arr8 (z8' 32)) zero44 ?_)
          | ((with_reducible show wpList _ _ _ (Oper.mk none (Op.store 40 (.tmp 18) (.tmp 107)) _ _ _ _ :: _) _ _); refine wpList_store8 rfl 40 (.tmp 18) (.tmp 107) rfl v6.heap.size rfl (elt (sumsOf bs1) 1) rfl agg44 e1 _ _ b18 (by rw [size_arr8, len_z8']) ?_; intro v7 hb7 hg7 hs7; have h67 : Below v6.heap.size v6 v7 := (below_alloc _ _).grown hg7 (by simp) (fun k hk => by cases hk; exact Nat.le_refl _); have dT7 : ∀ j v, (arr8 (elt T 1))[j]? = some v → v7.cell? ⟨g6', 32 + j, none⟩ = some v := fun j v hv => (h67.cell (p := ⟨g6', 32 + j, none⟩) hg6l).trans (dT.out j v hv); simp only [Act.put, List.setIfInBounds_toArray, List.set_cons_succ, List.set_cons_zero])
          | ((with_reducible show wpList _ _ _ (Oper.mk (some 111) _ _ _ _ _ :: _) _ _); refine wpList_load_agg (by rfl) 40 (.tmp 110) rfl g6' 32 rfl (arr8 (elt T 1)) agg44 (by rw [size_arr8, hTe]) dT7 ?_)
          | ((with_reducible show wpList _ _ _ (Oper.mk none (Op.store 40 (.tmp 18) (.tmp 111)) _ _ _ _ :: _) _ _); refine wpList_store8 rfl 40 (.tmp 18) (.tmp 111) rfl v6.heap.size rfl (elt T 1) rfl agg44 hTe _ _ hb7 (by rw [size_arr8, e1]) ?_; intro v9 hb9 hg9 hs9; simp only [Act.put, List.setIfInBounds_toArray, List.set_cons_succ, List.set_cons_zero]))
        obtain ⟨eT, heT'⟩ : ∃ eT, eT = elt T 1 := ⟨_, rfl⟩
        have heT : eT.length = 32 := by rw [heT', hTe]
        have HET := Lib.hid heT'
        clear heT'
        obtain ⟨RT, hRT'⟩ : ∃ RT, RT = eT := ⟨_, rfl⟩
        have hRT : RT.length = 32 := by rw [hRT', heT]
        have BRT : Blk v9 v6.heap.size 40 (arr8 RT) := by rw [hRT', HET.out]; exact hb9
        obtain ⟨r, hr⟩ : ∃ r, (eT == RT) = r := ⟨_, rfl⟩
        have HR := Lib.hid hr
        have HR2 := Lib.hid (show (RT == eT) = r by rw [← hr]; exact Bool.beq_comm)
        have h69 : Below v6.heap.size v6 v9 := h67.grown hg9 h67.size (fun k hk => by cases hk; exact Nat.le_refl _)
        clear hr hRT' hb7 dT7 hb9 hg9 hs9
        have hw7 := hv6.trans (h69.mono hz6)
        have hz7 := hw7.size
        have f37 := OwS.below h36 h69
        have f47 := OwS.below h46 h69
        have f67 := OwS.below h6' h69
        have k7 := kk6.below (h69.mono kkz6)
        have kz7 : w.heap.size ≤ v9.heap.size := hz7
        have l7 := b86.below h69 b86.lt
        have dV : ∀ j v, (arr8 eT)[j]? = some v → v9.cell? ⟨g6', 32 + j, none⟩ = some v := fun j v hv => (h69.cell (p := ⟨g6', 32 + j, none⟩) hg6l).trans (by rw [HET.out] at hv; exact dT.out j v hv)
        have hgl7 : g6' < v9.heap.size := Nat.lt_of_lt_of_le hg6l h69.size
        refine wp_region_rel (fun W W' => Below W.heap.size W W') (fun W => Below v9.heap.size v9 W)
          [Det (.nilIface), Det (.bool true), Det (.bool true), Det (.slice (some ⟨g4, 0, none⟩) 32 c4), Det (.slice (some ⟨g6', 0, none⟩) 32 c6'), Det (.bool true), Det (.bool true), Det (.bool true), Det (.slice A0 n0 c0), Det (.slice A3 32 c3), Det (.agg (arr8 RT)), Det (.int .i64 b), Det (.agg (arr8 leaf)), Det (.bool r), Det (.agg (arr8 RT)), Det (.slice (some ⟨g6', 0, none⟩) 32 c6'), Det (.pointer (some ⟨g6', 32, none⟩)), Det (.agg (arr8 eT)), Det (.bool r), Det (.bool true), Det (.bool true), Det (.bool true)]
          [[], [(0, some 112)], [(1, some 113)], [(2, some 114)], [(2, some 114)], [(3, some 115), (4, some 116), (2, some 114)], [(2, some 114), (5, some 117)], [(6, some 118)], [(7, some 119)], [(7, some 119)], [(7, some 119)], [(7, some 119)], [(7, some 119)], [(8, some 120), (9, some 121), (10, some 122), (11, some 123), (12, some 124), (7, some 119)], [(7, some 119)], [(7, some 119)], [(15, some 127), (7, some 119)], [(16, some 128), (7, some 119)], [(14, some 126), (17, some 129), (7, some 119)], [(13, some 125), (18, some 130), (7, some 119)], [(7, some 119), (19, some 131)], [(20, some 132)]]
          [[], [0], [0, 1], [0, 1, 2], [0, 1, 2], [0, 1, 2, 3, 4], [0, 1, 2, 3, 4, 5], [0, 1, 2, 3, 4, 5, 6], [0, 1, 2, 3, 4, 5, 6, 7], [0, 1, 2, 3, 4, 5, 6, 7], [0, 1, 2, 3, 4, 5, 6, 7], [0, 1, 2, 3, 4, 5, 6, 7], [0, 1, 2, 3, 4, 5, 6, 7], [0, 1, 2, 3, 4, 5, 6, 7, 8, 9, 10, 11, 12], [0, 1, 2, 3, 4, 5, 6, 7], [0, 1, 2, 3, 4, 5, 6, 7], [0, 1, 2, 3, 4, 5, 6, 7, 15], [0, 1, 2, 3, 4, 5, 6, 7, 15, 16], [0, 1, 2, 3, 4, 5, 6, 7, 14, 15, 16, 17], [0, 1, 2, 3, 4, 5, 6, 7, 8, 9, 10, 11, 12, 13, 14, 15, 16, 17, 18], [0, 1, 2, 3, 4, 5, 6, 7, 8, 9, 10, 11, 12, 13, 14, 15, 16, 17, 18, 19], [0, 1, 2, 3, 4, 5, 6, 7, 8, 9, 10, 11, 12, 13, 14, 15, 16, 17, 18, 19, 20]]
          [(0, some 112), (1, some 113), (2, some 114), (3, some 115), (4, some 116), (5, some 117), (6, some 118), (7, some 119), (8, some 120), (9, some 121), (10, some 122), (11, some 123), (12, some 124), (13, some 125), (14, some 126), (15, some 127), (16, some 128), (17, some 129), (18, some 130), (19, some 131), (20, some 132), (21, some 10)] (by kernel_rfl) (by kernel_rfl) (fun W W' h1 h2 => h1.trans (h2.mono h1.size)) ((Below.refl _ _).drew) ?_ ?_ ?_
        · exact (AllMono.cons Det.later (AllMono.cons Det.later (AllMono.cons Det.later (AllMono.cons Det.later (AllMono.cons Det.later (AllMono.cons Det.later (AllMono.cons Det.later (AllMono.cons Det.later (AllMono.cons Det.later (AllMono.cons Det.later (AllMono.cons Det.later (AllMono.cons Det.later (AllMono.cons Det.later (AllMono.cons Det.later (AllMono.cons Det.later (AllMono.cons Det.later (AllMono.cons Det.later (AllMono.cons Det.later (AllMono.cons Det.later (AllMono.cons Det.later (AllMono.cons Det.later (AllMono.cons Det.later AllMono.nil))))))))))))))))))))))
        · refine AllOb.cons ?_ (AllOb.cons ?_ (AllOb.cons ?_ (AllOb.cons ?_ (AllOb.cons ?_ (AllOb.cons ?_ (AllOb.cons ?_ (AllOb.cons ?_ (AllOb.cons ?_ (AllOb.cons ?_ (AllOb.cons ?_ (AllOb.cons ?_ (AllOb.cons ?_ (AllOb.cons ?_ (AllOb.cons ?_ (AllOb.cons ?_ (AllOb.cons ?_ (AllOb.cons ?_ (AllOb.cons ?_ (AllOb.cons ?_ (AllOb.cons ?_ (AllOb.cons ?_ (AllOb.nil))))))))))))))))))))))
          · intro uF W hC' hU aF hF
            have hC : Below v9.heap.size v9 W := hC'
            clear hC'
            simp only [puts] at hF
            subst hF
            go_wp2_with (fail)
            exact ⟨rfl, rfl, (Below.refl _ _), rfl⟩
          · intro uF W hC' hU aF hF
            have hC : Below v9.heap.size v9 W := hC'
            clear hC'
            have h112 : (Det (.nilIface)) (uF 0) W := hU.1
            clear hU
            simp only [puts, Act.put, List.setIfInBounds_toArray, List.set_cons_zero, List.set_cons_succ] at hF
            generalize uF 0 = x112 at h112 hF
            obtain rfl : x112 = (.nilIface) := h112
            subst hF
            go_wp2_with (fail)
            exact ⟨rfl, rfl, (Below.refl _ _), rfl⟩
          · intro uF W hC' hU aF hF
            have hC : Below v9.heap.size v9 W := hC'
            clear hC'
            have h113 : (Det (.bool true)) (uF 1) W := hU.1
            clear hU
            simp only [puts, Act.put, List.setIfInBounds_toArray, List.set_cons_zero, List.set_cons_succ] at hF
            generalize uF 1 = x113 at h113 hF
            obtain rfl : x113 = (.bool true) := h113
            subst hF
            go_wp2_with (fail)
            exact ⟨rfl, rfl, (Below.refl _ _), rfl⟩
          · intro uF W hC' hU aF hF
            have hC : Below v9.heap.size v9 W := hC'
            clear hC'
            have h114 : (Det (.bool true)) (uF 2) W := hU.1
            clear hU
            simp only [puts, Act.put, List.setIfInBounds_toArray, List.set_cons_zero, List.set_cons_succ] at hF
            generalize uF 2 = x114 at h114 hF
            obtain rfl : x114 = (.bool true) := h114
            subst hF
            go_wp2_with (fail)
            exact ⟨rfl, rfl, (Below.refl _ _), rfl⟩
          · intro uF W hC' hU aF hF
            have hC : Below v9.heap.size v9 W := hC'
            clear hC'
            have h114 : (Det (.bool true)) (uF 2) W := hU.1
            clear hU
            simp only [puts, Act.put, List.setIfInBounds_toArray, List.set_cons_zero, List.set_cons_succ] at hF
            generalize uF 2 = x114 at h114 hF
            obtain rfl : x114 = (.bool true) := h114
            subst hF
            go_wp2_with (fail)
            exact ⟨rfl, rfl, (Below.refl _ _), rfl⟩
          · intro uF W hC' hU aF hF
            have hC : Below v9.heap.size v9 W := hC'
            clear hC'
            have h115 : (Det (.slice (some ⟨g4, 0, none⟩) 32 c4)) (uF 3) W := hU.1
            have h116 : (Det (.slice (some ⟨g6', 0, none⟩) 32 c6')) (uF 4) W := hU.2.1
            have h114 : (Det (.bool true)) (uF 2) W := hU.2.2.1
            clear hU
            simp only [puts, Act.put, List.setIfInBounds_toArray, List.set_cons_zero, List.set_cons_succ] at hF
            generalize uF 3 = x115 at h115 hF
            generalize uF 4 = x116 at h116 hF
            generalize uF 2 = x114 at h114 hF
            obtain rfl : x115 = (.slice (some ⟨g4, 0, none⟩) 32 c4) := h115
            obtain rfl : x116 = (.slice (some ⟨g6', 0, none⟩) 32 c6') := h116
            obtain rfl : x114 = (.bool true) := h114
            subst hF
            go_wp2_with ((go_at_call 21; refine (same2_c ((OwS.below f47 hC).sl) ((OwS.below f67 hC).sl) (Nat.le_refl _) (Nat.le_refl _) true (by simp)).mono ?_; rintro e W1 ⟨rfl, hb⟩))
            exact ⟨rfl, rfl, hb, rfl⟩
          · intro uF W hC' hU aF hF
            have hC : Below v9.heap.size v9 W := hC'
            clear hC'
            have h114 : (Det (.bool true)) (uF 2) W := hU.1
            have h117 : (Det (.bool true)) (uF 5) W := hU.2.1
            clear hU
            simp only [puts, Act.put, List.setIfInBounds_toArray, List.set_cons_zero, List.set_cons_succ] at hF
            generalize uF 2 = x114 at h114 hF
            generalize uF 5 = x117 at h117 hF
            obtain rfl : x114 = (.bool true) := h114
            obtain rfl : x117 = (.bool true) := h117
            subst hF
            go_wp2_with (fail)
            exact ⟨rfl, rfl, (Below.refl _ _), rfl⟩
          · intro uF W hC' hU aF hF
            have hC : Below v9.heap.size v9 W := hC'
            clear hC'
            have h118 : (Det (.bool true)) (uF 6) W := hU.1
            clear hU
            simp only [puts, Act.put, List.setIfInBounds_toArray, List.set_cons_zero, List.set_cons_succ] at hF
            generalize uF 6 = x118 at h118 hF
            obtain rfl : x118 = (.bool true) := h118
            subst hF
            go_wp2_with (fail)
            exact ⟨rfl, rfl, (Below.refl _ _), rfl⟩
          · intro uF W hC' hU aF hF
            have hC : Below v9.heap.size v9 W := hC'
            clear hC'
            have h119 : (Det (.bool true)) (uF 7) W := hU.1
            clear hU
            simp only [puts, Act.put, List.setIfInBounds_toArray, List.set_cons_zero, List.set_cons_succ] at hF
            generalize uF 7 = x119 at h119 hF
            obtain rfl : x119 = (.bool true) := h119
            subst hF
            go_wp2_with (fail)
            exact ⟨rfl, rfl, (Below.refl _ _), rfl⟩
          · intro uF W hC' hU aF hF
            have hC : Below v9.heap.size v9 W := hC'
            clear hC'
            have h119 : (Det (.bool true)) (uF 7) W := hU.1
            clear hU
            simp only [puts, Act.put, List.setIfInBounds_toArray, List.set_cons_zero, List.set_cons_succ] at hF
            generalize uF 7 = x119 at h119 hF
            obtain rfl : x119 = (.bool true) := h119
            subst hF
            go_wp2_with (fail)
            exact ⟨rfl, rfl, (Below.refl _ _), rfl⟩
          · intro uF W hC' hU aF hF
            have hC : Below v9.heap.size v9 W := hC'
            clear hC'
            have h119 : (Det (.bool true)) (uF 7) W := hU.1
            clear hU
            simp only [puts, Act.put, List.setIfInBounds_toArray, List.set_cons_zero, List.set_cons_succ] at hF
            generalize uF 7 = x119 at h119 hF
            obtain rfl : x119 = (.bool true) := h119
            subst hF
            go_wp2_with (((with_reducible show wpList _ _ _ (Oper.mk _ (Op.load 40 _) _ _ _ _ :: _) _ _); refine wpList_load_whole (by rfl) 40 (.tmp 18) rfl v6.heap.size rfl (arr8 RT) agg44 (by rw [size_arr8, hRT]) 40 (BRT.below hC BRT.lt) ?_))
            exact ⟨rfl, rfl, (Below.refl _ _), rfl⟩
          · intro uF W hC' hU aF hF
            have hC : Below v9.heap.size v9 W := hC'
            clear hC'
            have h119 : (Det (.bool true)) (uF 7) W := hU.1
            clear hU
            simp only [puts, Act.put, List.setIfInBounds_toArray, List.set_cons_zero, List.set_cons_succ] at hF
            generalize uF 7 = x119 at h119 hF
            obtain rfl : x119 = (.bool true) := h119
            subst hF
            go_wp2_with (fail)
            exact ⟨rfl, rfl, (Below.refl _ _), rfl⟩
          · intro uF W hC' hU aF hF
            have hC : Below v9.heap.size v9 W := hC'
            clear hC'
            have h119 : (Det (.bool true)) (uF 7) W := hU.1
            clear hU
            simp only [puts, Act.put, List.setIfInBounds_toArray, List.set_cons_zero, List.set_cons_succ] at hF
            generalize uF 7 = x119 at h119 hF
            obtain rfl : x119 = (.bool true) := h119
            subst hF
            go_wp2_with (((with_reducible show wpList _ _ _ (Oper.mk _ (Op.load 40 _) _ _ _ _ :: _) _ _); refine wpList_load_whole (by rfl) 40 (.tmp 8) rfl g8 rfl (arr8 leaf) agg44 (by rw [size_arr8, hl]) 40 (l7.below hC l7.lt) ?_))
            exact ⟨rfl, rfl, (Below.refl _ _), rfl⟩
          · intro uF W hC' hU aF hF
            have hC : Below v9.heap.size v9 W := hC'
            clear hC'
            have h120 : (Det (.slice A0 n0 c0)) (uF 8) W := hU.1
            have h121 : (Det (.slice A3 32 c3)) (uF 9) W := hU.2.1
            have h122 : (Det (.agg (arr8 RT))) (uF 10) W := hU.2.2.1
            have h123 : (Det (.int .i64 b)) (uF 11) W := hU.2.2.2.1
            have h124 : (Det (.agg (arr8 leaf))) (uF 12) W := hU.2.2.2.2.1
            have h119 : (Det (.bool true)) (uF 7) W := hU.2.2.2.2.2.1
            clear hU
            simp only [puts, Act.put, List.setIfInBounds_toArray, List.set_cons_zero, List.set_cons_succ] at hF
            generalize uF 8 = x120 at h120 hF
            generalize uF 9 = x121 at h121 hF
            generalize uF 10 = x122 at h122 hF
            generalize uF 11 = x123 at h123 hF
            generalize uF 12 = x124 at h124 hF
            generalize uF 7 = x119 at h119 hF
            obtain rfl : x120 = (.slice A0 n0 c0) := h120
            obtain rfl : x121 = (.slice A3 32 c3) := h121
            obtain rfl : x122 = (.agg (arr8 RT)) := h122
            obtain rfl : x123 = (.int .i64 b) := h123
            obtain rfl : x124 = (.agg (arr8 leaf)) := h124
            obtain rfl : x119 = (.bool true) := h119
            subst hF
            go_wp2_with ((go_at_call 24; refine (verify_c (k7.below (hC.mono kz7)) (Nat.le_trans kz7 hC.size) (by omega) ((OwS.below f37 hC).sl) (Nat.le_refl _) b HB.out hl hRT r (by rw [← HT.out, ← HET.out]; exact HR.out)).mono ?_; rintro e W1 ⟨rfl, hb⟩))
            exact ⟨rfl, rfl, hb, rfl⟩
          · intro uF W hC' hU aF hF
            have hC : Below v9.heap.size v9 W := hC'
            clear hC'
            have h119 : (Det (.bool true)) (uF 7) W := hU.1
            clear hU
            simp only [puts, Act.put, List.setIfInBounds_toArray, List.set_cons_zero, List.set_cons_succ] at hF
            generalize uF 7 = x119 at h119 hF
            obtain rfl : x119 = (.bool true) := h119
            subst hF
            go_wp2_with (((with_reducible show wpList _ _ _ (Oper.mk _ (Op.load 40 _) _ _ _ _ :: _) _ _); refine wpList_load_whole (by rfl) 40 (.tmp 18) rfl v6.heap.size rfl (arr8 RT) agg44 (by rw [size_arr8, hRT]) 40 (BRT.below hC BRT.lt) ?_))
            exact ⟨rfl, rfl, (Below.refl _ _), rfl⟩
          · intro uF W hC' hU aF hF
            have hC : Below v9.heap.size v9 W := hC'
            clear hC'
            have h119 : (Det (.bool true)) (uF 7) W := hU.1
            clear hU
            simp only [puts, Act.put, List.setIfInBounds_toArray, List.set_cons_zero, List.set_cons_succ] at hF
            generalize uF 7 = x119 at h119 hF
            obtain rfl : x119 = (.bool true) := h119
            subst hF
            go_wp2_with (fail)
            exact ⟨rfl, rfl, (Below.refl _ _), rfl⟩
          · intro uF W hC' hU aF hF
            have hC : Below v9.heap.size v9 W := hC'
            clear hC'
            have h127 : (Det (.slice (some ⟨g6', 0, none⟩) 32 c6')) (uF 15) W := hU.1
            have h119 : (Det (.bool true)) (uF 7) W := hU.2.1
            clear hU
            simp only [puts, Act.put, List.setIfInBounds_toArray, List.set_cons_zero, List.set_cons_succ] at hF
            generalize uF 15 = x127 at h127 hF
            generalize uF 7 = x119 at h119 hF
            obtain rfl : x127 = (.slice (some ⟨g6', 0, none⟩) 32 c6') := h127
            obtain rfl : x119 = (.bool true) := h119
            subst hF
            go_wp2_with (fail)
            exact ⟨rfl, rfl, (Below.refl _ _), rfl⟩
          · intro uF W hC' hU aF hF
            have hC : Below v9.heap.size v9 W := hC'
            clear hC'
            have h128 : (Det (.pointer (some ⟨g6', 32, none⟩))) (uF 16) W := hU.1
            have h119 : (Det (.bool true)) (uF 7) W := hU.2.1
            clear hU
            simp only [puts, Act.put, List.setIfInBounds_toArray, List.set_cons_zero, List.set_cons_succ] at hF
            generalize uF 16 = x128 at h128 hF
            generalize uF 7 = x119 at h119 hF
            obtain rfl : x128 = (.pointer (some ⟨g6', 32, none⟩)) := h128
            obtain rfl : x119 = (.bool true) := h119
            subst hF
            go_wp2_with (((with_reducible show wpList _ _ _ (Oper.mk _ (Op.load 40 _) _ _ _ _ :: _) _ _); refine wpList_load_agg (by rfl) 40 (.tmp 128) rfl g6' 32 rfl (arr8 eT) agg44 (by rw [size_arr8, heT]) (fun j v hv => (hC.cell (p := ⟨g6', 32 + j, none⟩) hgl7).trans (dV j v hv)) ?_))
            exact ⟨rfl, rfl, (Below.refl _ _), rfl⟩
          · intro uF W hC' hU aF hF
            have hC : Below v9.heap.size v9 W := hC'
            clear hC'
            have h126 : (Det (.agg (arr8 RT))) (uF 14) W := hU.1
            have h129 : (Det (.agg (arr8 eT))) (uF 17) W := hU.2.1
            have h119 : (Det (.bool true)) (uF 7) W := hU.2.2.1
            clear hU
            simp only [puts, Act.put, List.setIfInBounds_toArray, List.set_cons_zero, List.set_cons_succ] at hF
            generalize uF 14 = x126 at h126 hF
            generalize uF 17 = x129 at h129 hF
            generalize uF 7 = x119 at h119 hF
            obtain rfl : x126 = (.agg (arr8 RT)) := h126
            obtain rfl : x129 = (.agg (arr8 eT)) := h129
            obtain rfl : x119 = (.bool true) := h119
            subst hF
            have he := eq44 RT eT hRT heT r HR2.out
            have hg := guard44
            go_wp2_with (fail)
            exact ⟨rfl, rfl, (Below.refl _ _), rfl⟩
          · intro uF W hC' hU aF hF
            have hC : Below v9.heap.size v9 W := hC'
            clear hC'
            have h125 : (Det (.bool r)) (uF 13) W := hU.1
            have h130 : (Det (.bool r)) (uF 18) W := hU.2.1
            have h119 : (Det (.bool true)) (uF 7) W := hU.2.2.1
            clear hU
            simp only [puts, Act.put, List.setIfInBounds_toArray, List.set_cons_zero, List.set_cons_succ] at hF
            generalize uF 13 = x125 at h125 hF
            generalize uF 18 = x130 at h130 hF
            generalize uF 7 = x119 at h119 hF
            obtain rfl : x125 = (.bool r) := h125
            obtain rfl : x130 = (.bool r) := h130
            obtain rfl : x119 = (.bool true) := h119
            subst hF
            go_wp2_with (fail)
            exact ⟨rfl, rfl, (Below.refl _ _), rfl⟩
          · intro uF W hC' hU aF hF
            have hC : Below v9.heap.size v9 W := hC'
            clear hC'
            have h119 : (Det (.bool true)) (uF 7) W := hU.1
            have h131 : (Det (.bool true)) (uF 19) W := hU.2.1
            clear hU
            simp only [puts, Act.put, List.setIfInBounds_toArray, List.set_cons_zero, List.set_cons_succ] at hF
            generalize uF 7 = x119 at h119 hF
            generalize uF 19 = x131 at h131 hF
            obtain rfl : x119 = (.bool true) := h119
            obtain rfl : x131 = (.bool true) := h131
            subst hF
            go_wp2_with (fail)
            exact ⟨rfl, rfl, (Below.refl _ _), rfl⟩
          · intro uF W hC' hU aF hF
            have hC : Below v9.heap.size v9 W := hC'
            clear hC'
            have h132 : (Det (.bool true)) (uF 20) W := hU.1
            clear hU
            simp only [puts, Act.put, List.setIfInBounds_toArray, List.set_cons_zero, List.set_cons_succ] at hF
            generalize uF 20 = x132 at h132 hF
            obtain rfl : x132 = (.bool true) := h132
            subst hF
            go_wp2_with (fail)
            exact ⟨rfl, rfl, (Below.refl _ _), rfl⟩
        intro uF v8 hC' hU aF hF
        have hCv8 : Below v9.heap.size v9 v8 := hC'
        clear hC'
        have h10 : (Det (.bool true)) (uF 21) v8 := hU.2.2.2.2.2.2.2.2.2.2.2.2.2.2.2.2.2.2.2.2.2.1
        clear hU
        simp only [puts, Act.put, List.setIfInBounds_toArray, List.set_cons_zero, List.set_cons_succ] at hF
        generalize uF 0 = x112 at hF
        generalize uF 1 = x113 at hF
        generalize uF 2 = x114 at hF
        generalize uF 3 = x115 at hF
        generalize uF 4 = x116 at hF
        generalize uF 5 = x117 at hF
        generalize uF 6 = x118 at hF
        generalize uF 7 = x119 at hF
        generalize uF 8 = x120 at hF
        generalize uF 9 = x121 at hF
        generalize uF 10 = x122 at hF
        generalize uF 11 = x123 at hF
        generalize uF 12 = x124 at hF
        generalize uF 13 = x125 at hF
        generalize uF 14 = x126 at hF
        generalize uF 15 = x127 at hF
        generalize uF 16 = x128 at hF
        generalize uF 17 = x129 at hF
        generalize uF 18 = x130 at hF
        generalize uF 19 = x131 at hF
        generalize uF 20 = x132 at hF
        generalize uF 21 = x10 at h10 hF
        obtain rfl : x10 = (.bool true) := h10
        subst hF
        go_wp2_with fail
        go_ret
        exact ⟨rfl, hw7.trans (hCv8.mono hz7)⟩
    · have HCK := Lib.hid (show checkV 32 b = .iface 35 (.int .i64 1) by rw [checkV, if_pos rfl, if_neg hb])
      by_cases hb1 : b < 0
      · clear hb
        go_enter Try.func34, Try.ntmps34
        go_wp2_with (first
          | (go_at_call 20; rw [← HV.out, HZV.out, ← HG.out]; refine (build_c ((W0.out.below (hal.mono hz)).more (Nat.le_trans hz hal.size)) (Nat.le_refl _) (by omega) (zs_sl v) (by simp)).mono ?_; rintro e v1 ⟨g6, c6, rfl, h6, hb6⟩; have h01 := hal.trans (hb6.mono hal.size); have hv1 := hbv.trans (h01.mono hz); have hz1 := hv1.size; have b81 := b8.below h01 hg8v; clear h6)
          | (go_at_call 19; refine (sums_c ((W1.out.below (h01.mono hz)).more hz1) (Nat.le_refl _) (by omega)).mono ?_; rintro e v2 ⟨A2, c2, rfl, h2, hb2⟩; have hv2 := hv1.trans (hb2.mono hz1); have hz2 := hv2.size; have b82 := b81.below hb2 b81.lt; have k2 : OwS (v2.alloc (.cells #[] 40)) v2.heap.size (some ⟨v2.heap.size, 0, none⟩) 0 0 [] := Row.nil _ _ _ _ _; have s2 := OwS.sl (Row.alloc h2 (.cells #[] 40)))
          | (at_builtin; refine wpList_appendS rfl (.tmp 42) (.tmp 43) rfl rfl k2 rfl s2 (by omega) (by simp) 32 (by omega) ?_; intro A3 c3 v3 h3 q3; have hb3 : Below v2.heap.size v2 v3 := q3.below k2 (below_alloc _ _) (Nat.le_refl _) (by simp); have h23 := OwS.below h2 hb3; have hv3 := hv2.trans (hb3.mono hz2); have hz3 := hv3.size; have b83 := b82.below hb3 b82.lt; have hz13 : v1.heap.size ≤ v3.heap.size := Nat.le_trans hb2.size hb3.size; rw [List.nil_append] at h3; have kk3 := W0.out.below (((h01.trans ((hb2.trans (hb3.mono hb2.size)).mono h01.size))).mono hz); have kkz : w.heap.size ≤ v3.heap.size := hz3)
          | ((with_reducible show wpList _ _ _ (Oper.mk (some 49) _ _ _ _ _ :: _) _ _); refine wpList_load_whole (by rfl) 40 (.tmp 8) rfl g8 rfl (arr8 leaf) agg44 (by rw [size_arr8, hl]) 40 b83 ?_)
          | (go_at_call 25; refine (update_bad (by omega) b 1 HCK.out hl).mono ?_; rintro e v4 ⟨rfl, hb4⟩; have hv4 := hv3.trans (hb4.mono hz3); have hz4 := hv4.size; have b84 := b83.below hb4 b83.lt; have h34 := OwS.below h3 hb4; have h24 := OwS.below h23 hb4; have kk4 := kk3.below (hb4.mono kkz); have kkz4 : w.heap.size ≤ v4.heap.size := hz4)
          | (go_at_call 21; refine (same2_c h34.sl h24.sl (Nat.le_refl _) (Nat.le_refl _) true (by simp)).mono ?_; rintro e v5 ⟨rfl, hb5⟩; have hv5 := hv4.trans (hb5.mono hz4); have hz5 := hv5.size; have b85 := b84.below hb5 b84.lt; have h35 := OwS.below h34 hb5; have h25 := OwS.below h24 hb5; have kk5 := kk4.below (hb5.mono kkz4); have kkz5 : w.heap.size ≤ v5.heap.size := hz5)
          | (go_at_call 22; refine (is_err 1 1 rfl true rfl _).mono ?_; rintro e w2 ⟨rfl, rfl⟩)
          | ((with_reducible show wpList _ _ _ (Oper.mk _ (Op.load 40 (.tmp 8)) _ _ _ _ :: _) _ _); refine wpList_load_whole (by rfl) 40 (.tmp 8) rfl g8 rfl (arr8 leaf) agg44 (by rw [size_arr8, hl]) 40 b85 ?_)
          | (go_at_call 24; refine (verify_bad (by omega) b 1 HCK.out).mono ?_; rintro e v6 ⟨rfl, hb6'⟩))
        go_ret
        exact ⟨rfl, hv5.trans (hb6'.mono hz5)⟩
      · have hb2 : 15 < b := by omega
        clear hb
        go_enter Try.func34, Try.ntmps34
        go_wp2_with (first
          | (go_at_call 20; rw [← HV.out, HZV.out, ← HG.out]; refine (build_c ((W0.out.below (hal.mono hz)).more (Nat.le_trans hz hal.size)) (Nat.le_refl _) (by omega) (zs_sl v) (by simp)).mono ?_; rintro e v1 ⟨g6, c6, rfl, h6, hb6⟩; have h01 := hal.trans (hb6.mono hal.size); have hv1 := hbv.trans (h01.mono hz); have hz1 := hv1.size; have b81 := b8.below h01 hg8v; clear h6)
          | (go_at_call 19; refine (sums_c ((W1.out.below (h01.mono hz)).more hz1) (Nat.le_refl _) (by omega)).mono ?_; rintro e v2 ⟨A2, c2, rfl, h2, hb2⟩; have hv2 := hv1.trans (hb2.mono hz1); have hz2 := hv2.size; have b82 := b81.below hb2 b81.lt; have k2 : OwS (v2.alloc (.cells #[] 40)) v2.heap.size (some ⟨v2.heap.size, 0, none⟩) 0 0 [] := Row.nil _ _ _ _ _; have s2 := OwS.sl (Row.alloc h2 (.cells #[] 40)))
          | (at_builtin; refine wpList_appendS rfl (.tmp 42) (.tmp 43) rfl rfl k2 rfl s2 (by omega) (by simp) 32 (by omega) ?_; intro A3 c3 v3 h3 q3; have hb3 : Below v2.heap.size v2 v3 := q3.below k2 (below_alloc _ _) (Nat.le_refl _) (by simp); have h23 := OwS.below h2 hb3; have hv3 := hv2.trans (hb3.mono hz2); have hz3 := hv3.size; have b83 := b82.below hb3 b82.lt; have hz13 : v1.heap.size ≤ v3.heap.size := Nat.le_trans hb2.size hb3.size; rw [List.nil_append] at h3; have kk3 := W0.out.below (((h01.trans ((hb2.trans (hb3.mono hb2.size)).mono h01.size))).mono hz); have kkz : w.heap.size ≤ v3.heap.size := hz3)
          | ((with_reducible show wpList _ _ _ (Oper.mk (some 49) _ _ _ _ _ :: _) _ _); refine wpList_load_whole (by rfl) 40 (.tmp 8) rfl g8 rfl (arr8 leaf) agg44 (by rw [size_arr8, hl]) 40 b83 ?_)
          | (go_at_call 25; refine (update_bad (by omega) b 1 HCK.out hl).mono ?_; rintro e v4 ⟨rfl, hb4⟩; have hv4 := hv3.trans (hb4.mono hz3); have hz4 := hv4.size; have b84 := b83.below hb4 b83.lt; have h34 := OwS.below h3 hb4; have h24 := OwS.below h23 hb4; have kk4 := kk3.below (hb4.mono kkz); have kkz4 : w.heap.size ≤ v4.heap.size := hz4)
          | (go_at_call 21; refine (same2_c h34.sl h24.sl (Nat.le_refl _) (Nat.le_refl _) true (by simp)).mono ?_; rintro e v5 ⟨rfl, hb5⟩; have hv5 := hv4.trans (hb5.mono hz4); have hz5 := hv5.size; have b85 := b84.below hb5 b84.lt; have h35 := OwS.below h34 hb5; have h25 := OwS.below h24 hb5; have kk5 := kk4.below (hb5.mono kkz4); have kkz5 : w.heap.size ≤ v5.heap.size := hz5)
          | (go_at_call 22; refine (is_err 1 1 rfl true rfl _).mono ?_; rintro e w2 ⟨rfl, rfl⟩)
          | ((with_reducible show wpList _ _ _ (Oper.mk _ (Op.load 40 (.tmp 8)) _ _ _ _ :: _) _ _); refine wpList_load_whole (by rfl) 40 (.tmp 8) rfl g8 rfl (arr8 leaf) agg44 (by rw [size_arr8, hl]) 40 b85 ?_)
          | (go_at_call 24; refine (verify_bad (by omega) b 1 HCK.out).mono ?_; rintro e v6 ⟨rfl, hb6'⟩))
        go_ret
        exact ⟨rfl, hv5.trans (hb6'.mono hz5)⟩
  · have HCK := Lib.hid (show checkV n1 b = .iface 35 (.int .i64 2) by rw [checkV, if_neg h32])
    have hne : ((n1 : Int) != 32) = true := by rw [bne_iff_ne]; omega
    have hne2 : ¬ (n1 : Int) = 32 := by omega
    go_enter Try.func34, Try.ntmps34
    go_wp2_with (first
      | (go_at_call 20; rw [← HV.out, HZV.out, ← HG.out]; refine (build_c ((W0.out.below (hal.mono hz)).more (Nat.le_trans hz hal.size)) (Nat.le_refl _) (by omega) (zs_sl v) (by simp)).mono ?_; rintro e v1 ⟨g6, c6, rfl, h6, hb6⟩; have h01 := hal.trans (hb6.mono hal.size); have hv1 := hbv.trans (h01.mono hz); have hz1 := hv1.size; have b81 := b8.below h01 hg8v; clear h6)
      | (go_at_call 19; refine (sums_c ((W1.out.below (h01.mono hz)).more hz1) (Nat.le_refl _) (by omega)).mono ?_; rintro e v2 ⟨A2, c2, rfl, h2, hb2⟩; have hv2 := hv1.trans (hb2.mono hz1); have hz2 := hv2.size; have b82 := b81.below hb2 b81.lt; have k2 : OwS (v2.alloc (.cells #[] 40)) v2.heap.size (some ⟨v2.heap.size, 0, none⟩) 0 0 [] := Row.nil _ _ _ _ _; have s2 := OwS.sl (Row.alloc h2 (.cells #[] 40)))
      | (at_builtin; refine wpList_appendS rfl (.tmp 42) (.tmp 43) rfl rfl k2 rfl s2 (by omega) (by simp) n1 (by omega) ?_; intro A3 c3 v3 h3 q3; have hb3 : Below v2.heap.size v2 v3 := q3.below k2 (below_alloc _ _) (Nat.le_refl _) (by simp); have h23 := OwS.below h2 hb3; have hv3 := hv2.trans (hb3.mono hz2); have hz3 := hv3.size; have b83 := b82.below hb3 b82.lt; have hz13 : v1.heap.size ≤ v3.heap.size := Nat.le_trans hb2.size hb3.size; rw [List.nil_append] at h3; have kk3 := W0.out.below (((h01.trans ((hb2.trans (hb3.mono hb2.size)).mono h01.size))).mono hz); have kkz : w.heap.size ≤ v3.heap.size := hz3)
      | ((with_reducible show wpList _ _ _ (Oper.mk (some 49) _ _ _ _ _ :: _) _ _); refine wpList_load_whole (by rfl) 40 (.tmp 8) rfl g8 rfl (arr8 leaf) agg44 (by rw [size_arr8, hl]) 40 b83 ?_)
      | (go_at_call 25; refine (update_bad (by omega) b 2 HCK.out hl).mono ?_; rintro e v4 ⟨rfl, hb4⟩; have hv4 := hv3.trans (hb4.mono hz3); have hz4 := hv4.size; have b84 := b83.below hb4 b83.lt; have h34 := OwS.below h3 hb4; have h24 := OwS.below h23 hb4; have kk4 := kk3.below (hb4.mono kkz); have kkz4 : w.heap.size ≤ v4.heap.size := hz4)
      | (go_at_call 21; refine (same2_c h34.sl h24.sl (Nat.le_refl _) (Nat.le_refl _) true (by simp)).mono ?_; rintro e v5 ⟨rfl, hb5⟩; have hv5 := hv4.trans (hb5.mono hz4); have hz5 := hv5.size; have b85 := b84.below hb5 b84.lt; have h35 := OwS.below h34 hb5; have h25 := OwS.below h24 hb5; have kk5 := kk4.below (hb5.mono kkz4); have kkz5 : w.heap.size ≤ v5.heap.size := hz5)
      | (go_at_call 22; refine (is_err 2 2 rfl true rfl _).mono ?_; rintro e w2 ⟨rfl, rfl⟩)
      | ((with_reducible show wpList _ _ _ (Oper.mk _ (Op.load 40 (.tmp 8)) _ _ _ _ :: _) _ _); refine wpList_load_whole (by rfl) 40 (.tmp 8) rfl g8 rfl (arr8 leaf) agg44 (by rw [size_arr8, hl]) 40 b85 ?_)
      | (go_at_call 24; refine (verify_bad (by omega) b 2 HCK.out).mono ?_; rintro e v6 ⟨rfl, hb6'⟩))
    go_ret
    exact ⟨rfl, hv5.trans (hb6'.mono hz5)⟩

set_option maxHeartbeats 1000000 in
theorem walk (cs0 : List Value) (w : World) (R0 : Rds w (.cons (.slice (.int .u8) 1 1) (.cons (.slice (.int .u8) 1 1) (.cons (.int .i64) (.cons (.arr 32 (.int .u8)) (.cons .bool .nil))))) cs0) :
    Calls Try.prog 11 #[.agg cs0.toArray] w fun e w' => e = .returned (.bool true) ∧ Below w.heap.size w w' := by
  obtain ⟨_, _, rfl, r0, _, _, rfl, r1, _, _, rfl, r2, _, _, rfl, r3, _, _, rfl, r4, rfl⟩ := R0
  obtain ⟨A0, n0, c0, bs0, rfl, w0, y0⟩ := Rds.bytes r0
  obtain ⟨A1, n1, c1, bs1, rfl, w1, y1⟩ := Rds.bytes r1
  obtain ⟨b, rfl, hx2⟩ := r2
  obtain ⟨lf, rfl, hlf⟩ := Rds.arr8 r3
  obtain ⟨right, rfl⟩ := r4
  clear r0 r1 r3
  simp only [List.cons_append, List.nil_append, List.append_nil]
  obtain ⟨cs, hcs⟩ : ∃ cs : Array Value, cs = (Value.slice A0 n0 c0 :: Value.slice A1 n1 c1 :: Value.int .i64 b :: (lf.map b8 ++ [Value.bool right])).toArray := ⟨_, rfl⟩
  rw [← hcs]
  have B1 := Blk.new w 64 cs
  have hb1 := below_alloc w (.cells cs 64)
  obtain ⟨v, hv⟩ : ∃ v, v = w.alloc (.cells cs 64) := ⟨_, rfl⟩
  rw [← hv] at B1 hb1
  have e0 : cs[0]? = some (.slice A0 n0 c0) := by rw [hcs]; rfl
  have e1 : cs[1]? = some (.slice A1 n1 c1) := by rw [hcs]; rfl
  have e2 : cs[2]? = some (.int .i64 b) := by rw [hcs]; rfl
  have e3 : ∀ j u, (arr8 lf)[j]? = some u → v.cell? ⟨w.heap.size, 3 + j, none⟩ = some u := fun j u hu => by
    rw [B1.cell, hcs]
    rw [arr8_get] at hu
    have hj : j < lf.length := by
      rcases Nat.lt_or_ge j lf.length with h | h
      · exact h
      · rw [List.getElem?_eq_none h] at hu; cases hu
    simp only [List.getElem?_toArray, show 3 + j = j + 1 + 1 + 1 by omega, List.getElem?_cons_succ]
    rw [List.getElem?_append_left (by simpa using hj), List.getElem?_map]
    exact hu
  have e4 : cs[35]? = some (.bool right) := by
    rw [hcs]
    simp only [List.getElem?_toArray, List.getElem?_cons_succ]
    rw [List.getElem?_append_right (by simp [hlf])]
    simp [hlf]
  have h := turns_c ((w0.below hb1).more hb1.size) y0 ((w1.below hb1).more hb1.size) y1 b hx2 lf hlf right
  have HV := Lib.hid hv
  clear w0 w1 hcs hv
  go_enter Try.func11, Try.ntmps11
  go_wp2_with (first
    | ((with_reducible show wpList _ _ _ (Oper.mk _ (Op.load 40 (.tmp 9)) _ _ _ _ :: _) _ _); refine wpList_load_agg rfl 40 (.tmp 9) rfl w.heap.size 3 rfl (arr8 lf) agg44 (by rw [size_arr8, hlf]) (by rw [← HV.out]; exact e3) ?_)
    | (go_at_call 34; rw [← HV.out]; refine h.mono ?_; rintro e v2 ⟨rfl, hb2⟩))
  go_ret
  exact ⟨rfl, hb1.trans (hb2.mono hb1.size)⟩
end Go.Proofs.Ytbjiokjmidipaaa.treeTurns

