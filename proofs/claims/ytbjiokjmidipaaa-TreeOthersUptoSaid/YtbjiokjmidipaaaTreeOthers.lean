/-
  TreeOthers: behind an update all blocks are verified with their leaves.
-/
import Derived.Test.YtbjiokjmidipaaaBulk
import Derived.Test.YtbjiokjmidipaaaMoreS
import Derived.Test.YtbjiokjmidipaaaVerify
import Derived.Test.YtbjiokjmidipaaaTreeLaw
namespace Go.Proofs.Ytbjiokjmidipaaa.treeOthers
open Go.RowKit
set_option linter.unusedVariables false
set_option linter.unusedSimpArgs false
set_option maxRecDepth 100000

theorem OwS.pre {w : World} {base n c k : Nat} {A : Option Addr} {xs : List UInt8} (h : OwS w base A n c xs) (hk : k ≤ n) : OwS w base A k c (xs.take (k * 32)) := by
  have hl := h.len
  refine ⟨by rw [List.length_map, List.length_take, hl]; omega, Nat.le_trans hk h.2.1, h.2.2.1, fun hc => ?_⟩
  obtain ⟨g, cur, e, hg, hb, hs, ht⟩ := h.2.2.2 hc
  refine ⟨g, cur, e, hg, hb, hs, ?_⟩
  rw [List.map_take, ← ht, List.take_take, Nat.min_eq_left (by omega)]

/-- A row of 32 digests of the call's own; and in a pair with no error. -/
def RelS (base : Nat) (xs : List UInt8) : Value → World → Prop := fun v w => ∃ g c, v = .slice (some ⟨g, 0, none⟩) 32 c ∧ OwS w base (some ⟨g, 0, none⟩) 32 c xs
theorem RelS.later {base : Nat} {xs : List UInt8} (v : Value) (w w' : World) (hb : Below w.heap.size w w') (h : RelS base xs v w) : RelS base xs v w' :=
  let ⟨g, c, e, hs⟩ := h
  ⟨g, c, e, OwS.below hs hb⟩
def RelU (base : Nat) (xs : List UInt8) : Value → World → Prop := fun v w => ∃ g c, v = .tuple #[.slice (some ⟨g, 0, none⟩) 32 c, .nilIface] ∧ OwS w base (some ⟨g, 0, none⟩) 32 c xs
theorem RelU.later {base : Nat} {xs : List UInt8} (v : Value) (w w' : World) (hb : Below w.heap.size w w') (h : RelU base xs v w) : RelU base xs v w' :=
  let ⟨g, c, e, hs⟩ := h
  ⟨g, c, e, OwS.below hs hb⟩

set_option maxHeartbeats 4000000 in
theorem walk (cs0 : List Value) (w : World) (R0 : Rds w (.cons (.slice (.int .u8) 1 1) (.cons (.slice (.int .u8) 1 1) (.cons (.slice (.int .u8) 1 1) (.cons (.int .i64) (.cons (.int .u8) .nil))))) cs0) (U0 : Bds 1048576 (.cons (.slice (.int .u8) 1 1) (.cons (.slice (.int .u8) 1 1) (.cons (.slice (.int .u8) 1 1) (.cons (.int .i64) (.cons (.int .u8) .nil))))) cs0) :
    Calls Try.prog 8 #[.agg cs0.toArray] w fun e w' => e = .returned (.bool true) ∧ Below w.heap.size w w' := by
  obtain ⟨_, _, rfl, r0, _, _, rfl, r1, _, _, rfl, r2, _, _, rfl, r3, _, _, rfl, r4, rfl⟩ := R0
  obtain ⟨A0, n0, c0, bs0, rfl, w0, y0⟩ := Rds.bytes r0
  obtain ⟨A1, n1, c1, bs1, rfl, w1, y1⟩ := Rds.bytes r1
  obtain ⟨A2, n2, c2, bs2, rfl, w2, y2⟩ := Rds.bytes r2
  obtain ⟨b, rfl, hx3⟩ := r3
  obtain ⟨o, rfl, hx4⟩ := r4
  obtain ⟨_, _, e0, ⟨_, _, _, rfl, q0, q0'⟩, _, _, e1, ⟨_, _, _, rfl, q1, q1'⟩, _, _, e2, ⟨_, _, _, rfl, q2, q2'⟩, _, _, e3, ⟨_, rfl⟩, _, _, e4, ⟨_, rfl⟩, e5⟩ := U0
  subst e5 e4 e3 e2 e1
  simp only [List.cons_append, List.nil_append, List.append_nil, List.cons.injEq, Value.slice.injEq] at e0
  obtain ⟨⟨rfl, rfl, rfl⟩, ⟨rfl, rfl, rfl⟩, ⟨rfl, rfl, rfl⟩, e34⟩ := e0
  simp only [Value.int.injEq, true_and, and_true] at e34
  obtain ⟨rfl, rfl⟩ := e34
  clear r0 r1 r2
  obtain ⟨ob, rfl⟩ : ∃ ob : UInt8, o = (ob.toNat : Int) := by
    have h := b8_of hx4
    simp only [b8, Value.int.injEq, true_and] at h
    exact ⟨_, h.symm⟩
  obtain ⟨u, hu⟩ : ∃ u : Nat, IntKind.u64.wrap b = (u : Int) := ⟨(IntKind.u64.wrap b).toNat, by rw [Int.toNat_of_nonneg (by rw [wrap_u64]; omega)]⟩
  obtain ⟨kk, hkk⟩ : ∃ kk : Nat, kk = u % 16 := ⟨_, rfl⟩
  have htm : ((u : Int)).tmod 16 = (kk : Int) := by rw [Int.tmod_eq_emod_of_nonneg (by omega)]; omega
  have hmd : (u : Int) % 16 = (kk : Int) := by omega
  have hk16 : (kk : Int) < 16 := by omega
  have hk0 : (0 : Int) ≤ (kk : Int) := by omega
  clear hkk
  simp only [List.cons_append, List.nil_append, List.append_nil]
  have B1 := Blk.new w 24 #[Value.slice A0 n0 c0, Value.slice A1 n1 c1, Value.slice A2 n2 c2, Value.int .i64 b, Value.int .u8 (ob.toNat : Int)]
  have hb1 := below_alloc w (.cells #[Value.slice A0 n0 c0, Value.slice A1 n1 c1, Value.slice A2 n2 c2, Value.int .i64 b, Value.int .u8 (ob.toNat : Int)] 24)
  obtain ⟨v, hv⟩ : ∃ v, v = w.alloc (.cells #[Value.slice A0 n0 c0, Value.slice A1 n1 c1, Value.slice A2 n2 c2, Value.int .i64 b, Value.int .u8 (ob.toNat : Int)] 24) := ⟨_, rfl⟩
  rw [← hv] at B1 hb1
  have d0 : v.cell? ⟨w.heap.size, 0, none⟩ = some (.slice A0 n0 c0) := by rw [B1.cell]; rfl
  have d1 : v.cell? ⟨w.heap.size, 1, none⟩ = some (.slice A1 n1 c1) := by rw [B1.cell]; rfl
  have d3 : v.cell? ⟨w.heap.size, 3, none⟩ = some (.int .i64 b) := by rw [B1.cell]; rfl
  have d4 : v.cell? ⟨w.heap.size, 4, none⟩ = some (.int .u8 (ob.toNat : Int)) := by rw [B1.cell]; rfl
  have HV := Lib.hid hv
  have hz1 := hb1.size
  have W0 := Lib.hid (w0.below hb1)
  have W1 := Lib.hid (w1.below hb1)
  clear w0 w1 w2 B1 hv
  have hgx : w.heap.size < v.heap.size := by rw [HV.out]; simp
  by_cases hbig : 1000 < n0
  · have hbi : (1000 : Int) < (n0 : Int) := by omega
    go_enter Try.func8, Try.ntmps8
    go_wp2_with fail
    rw [← HV.out]
    go_wp2_with fail
    go_ret
    exact ⟨rfl, hb1⟩
  have hbi : ¬ (1000 : Int) < (n0 : Int) := by omega
  go_enter Try.func8, Try.ntmps8
  go_wp2_with (first
    | (go_at_call 19; rw [← HV.out]; refine (sums_c W1.out hz1 (by omega)).mono ?_; rintro e v2 ⟨A3, c3, rfl, h3, hb2⟩; have hz2 := hb2.size)
    | (at_builtin; refine wpList_append_mk2S (m := 16) rfl (.tmp 15) (.const (.int .i64 16)) rfl rfl h3 rfl (by omega) (by omega) (by omega) hz2 (n1 + 16) rfl ?_; intro A4 c4 v4 h4 q4; have hv4 : Below v.heap.size v v4 := q4.below h3 hb2 (Nat.le_refl _) hz2; have hz4 := hv4.size; have hl4 := h4.le; have hm4 := h4.cap; have h4' := OwS.pre h4 (k := 16) (by omega); have e0 := (hv4.cell (p := ⟨w.heap.size, 0, none⟩) hgx).trans d0; clear q4 h3 h4)
    | (go_at_call 20; refine (build_c ((W0.out.more hz1).below hv4) hz4 (by omega) h4'.sl (Nat.le_refl _)).mono ?_; rintro e v5 ⟨g5, c5, rfl, h5, hb5⟩; have hv5 := hv4.trans (hb5.mono hz4); have hz5 := hv5.size; have h45 := OwS.below h4' hb5; have e3 := (hv5.cell (p := ⟨w.heap.size, 3, none⟩) hgx).trans d3; have e4 := (hv5.cell (p := ⟨w.heap.size, 4, none⟩) hgx).trans d4; have hwa := below_alloc v5 (.cells #[.int .u8 (ob.toNat : Int)] 5); have hs1 : SlB (v5.alloc (.cells #[.int .u8 (ob.toNat : Int)] 5)) (v5.heap.size + 1) (some ⟨v5.heap.size, 0, none⟩) 1 1 [ob] := ⟨by simp, Nat.le_refl _, by simp [maxLen], fun _ => ⟨v5.heap.size, 0, rfl, by simp, fun j u hu => by rw [(Blk.new v5 5 #[.int .u8 (ob.toNat : Int)]).cell, Nat.zero_add]; simpa [b8] using hu⟩⟩)
    | (go_at_call 19; refine (sums_c hs1 (by simp) (by omega)).mono ?_; rintro e v7 ⟨A7, c7, rfl, h7, hb7⟩; have hw7 := hwa.trans (hb7.mono hwa.size); have hv7 := hv5.trans (hw7.mono hz5); have hz7 := hv7.size; obtain ⟨g7, _, ea, _⟩ := h7.2.2.2 (by have := OwS.le h7; omega); subst ea; have hc7 := OwS.le h7; have hcc7 := h7.2.2.1; have dO := Lib.hid (OwS.elt_ h7 (i := 0) (by omega)); have hlo := len_elt h7.len (i := 0) (by omega); have h57 := OwS.below h5 hw7; have h47 := OwS.below h45 hw7; obtain ⟨g4, _, ea4, hg4, _⟩ := h47.2.2.2 (by have := OwS.le h47; omega); subst ea4; have hc4 := OwS.le h47; have hcc4 := h47.2.2.1; clear h7 hs1)
    | ((with_reducible show wpList _ _ _ (Oper.mk (some 44) _ _ _ _ _ :: _) _ _); refine wpList_load_agg rfl 40 (.tmp 43) rfl g7 0 rfl (arr8 (elt (sumsOf [ob]) 0)) agg44 (by rw [size_arr8, hlo]) (fun j v hv => by simpa using dO.out j v hv) ?_)
    | ((with_reducible show wpList _ _ _ (Oper.mk none (Op.store 40 (.tmp 45) (.tmp 44)) _ _ _ _ :: _) _ _); refine wpList_storeS rfl 40 (.tmp 45) (.tmp 44) rfl g4 kk rfl (elt (sumsOf [ob]) 0) rfl agg44 hlo h47 (by omega) ?_; intro va ha hga hsa; simp only [Act.put, List.setIfInBounds_toArray, List.set_cons_succ, List.set_cons_zero]))
  obtain ⟨O, hO⟩ : ∃ O, O = elt (sumsOf [ob]) 0 := ⟨_, rfl⟩
  rw [← hO] at ha hlo
  obtain ⟨L, hL⟩ : ∃ L, L = List.take (16 * 32) (sumsOf bs1 ++ zsOf 16) := ⟨_, rfl⟩
  rw [← hL] at ha h47 h57
  obtain ⟨T, hT⟩ : ∃ T, T = buildT bs0 L := ⟨_, rfl⟩
  rw [← hT] at h57
  have hLl : L.length = 16 * 32 := h47.len
  have hTl : T.length = 32 * 32 := h57.len
  have htree : IsTree bs0 T := by rw [hT]; exact isTree_build hLl
  have hleaf : ∀ j, j < 16 → elt T (16 + j) = elt L j := fun j hj => by rw [hT]; exact build_leaf hLl hj
  obtain ⟨L2, hL2⟩ : ∃ L2, L2 = putS L kk O := ⟨_, rfl⟩
  rw [← hL2] at ha
  have hL2l : L2.length = 16 * 32 := ha.len
  have hkk' : kk < 16 := by omega
  have hL2e : ∀ j, elt L2 j = if j = kk then O else elt L j := fun j => by rw [hL2]; exact elt_putS hLl hkk' hlo j
  have hva : Below v.heap.size v va := hv7.grown hga hz7 (fun k hk => by cases hk; exact hg4)
  have hza := hva.size
  have hg44 := OwS.lt h4' (by omega)
  have h5a : OwS va v4.heap.size (some ⟨g5, 0, none⟩) 32 c5 T := Row.keepRow h57 hga (.inr (by obtain ⟨gx, _, ex, hgx, _⟩ := h57.2.2.2 (by have := OwS.le h57; omega); simp only [Option.some.injEq, Addr.mk.injEq, and_true] at ex; subst ex; have := OwS.le h57; simp [wrote]; omega))
  have e0a := (hva.cell (p := ⟨w.heap.size, 0, none⟩) hgx).trans d0
  have w0a := (W0.out.more hz1).below hva
  obtain ⟨U, hU⟩ : ∃ U, U = climbT bs0 T (kk : Int) O := ⟨_, rfl⟩
  obtain ⟨hUt, _, hUl⟩ := climb_tree (b := (kk : Int)) htree ⟨by omega, by omega⟩ hlo
  rw [← hU] at hUt hUl
  have HU := Lib.hid (show ∀ i : Nat, i < 16 → climbT bs0 U (i : Int) (elt L2 i) = U from fun i hi => by
    have h1 := climb_same (b := (i : Int)) hUt ⟨by omega, by omega⟩
    have h2 := hUl i hi
    rw [show ((kk : Int)).toNat = kk from rfl] at h2
    rw [show ((i : Int)).toNat = i from rfl, h2] at h1
    rw [hL2e i]
    by_cases hik : i = kk
    · rw [if_pos hik] at h1 ⊢; exact h1
    · rw [if_neg hik, hleaf i hi] at h1; rw [if_neg hik]; exact h1)
  have HUD := Lib.hid hU
  have HT := Lib.hid hT
  have HA := Lib.hid ha
  have H5 := Lib.hid h5a
  have HVA := Lib.hid hva
  have W0A := Lib.hid w0a
  have he0 := Lib.hid e0a
  have hko : elt L2 kk = O := by rw [hL2e, if_pos rfl]
  have hja := Lib.hid (show ∀ j u, (arr8 O)[j]? = some u → va.cell? ⟨g4, kk * 32 + j, none⟩ = some u from fun j u hu => OwS.elt_ ha (i := kk) hkk' j u (by rw [hko]; exact hu))
  have hg4a : g4 < va.heap.size := OwS.lt ha (by omega)
  have hgxa : w.heap.size < va.heap.size := Nat.lt_of_lt_of_le hgx hza
  clear hO hL hT hL2 hU hUt hUl htree hleaf hL2e hga hsa h47 h57 h45 h4' h5 hva w0a e0 e3 e4 hw7 hwa hv7 hb7 dO hb2 hv4 hv5 hb5 ha h5a hko
  refine wp_region_rel (fun W W' => Below W.heap.size W W') (fun W => Below va.heap.size va W)
    [Det (.pointer (some ⟨w.heap.size, 0, none⟩)), Det (.slice A0 n0 c0), Det (.slice (some ⟨g5, 0, none⟩) 32 c5), Det (.int .i64 (kk : Int)), Det (.slice (some ⟨g4, 0, none⟩) 16 c4), Det (.int .i64 (kk : Int)), Det (.pointer (some ⟨g4, kk * 32, none⟩)), Det (.agg (arr8 O)), RelU va.heap.size U, RelU va.heap.size U, RelS va.heap.size U, Det .nilIface, RelS va.heap.size U, Det .nilIface]
    [[], [(0, some 47)], [], [], [], [], [(4, some 51), (5, some 52)], [(6, some 53)], [(1, some 48), (2, some 49), (3, some 50), (7, some 54)], [(8, some 55)], [(9, some 46)], [(9, some 46)], [(10, some 56)], [(11, some 57)]]
    [[], [0], [], [], [], [], [4, 5], [4, 5, 6], [0, 1, 2, 3, 4, 5, 6, 7], [0, 1, 2, 3, 4, 5, 6, 7, 8], [0, 1, 2, 3, 4, 5, 6, 7, 8, 9], [0, 1, 2, 3, 4, 5, 6, 7, 8, 9], [0, 1, 2, 3, 4, 5, 6, 7, 8, 9, 10], [0, 1, 2, 3, 4, 5, 6, 7, 8, 9, 10, 11, 12]]
    [(0, some 47), (1, some 48), (2, some 49), (3, some 50), (4, some 51), (5, some 52), (6, some 53), (7, some 54), (8, some 55), (9, some 46), (10, some 56), (11, some 57), (12, some 7), (13, some 5)] (by kernel_rfl) (by kernel_rfl) (fun W W' h1 h2 => h1.trans (h2.mono h1.size)) ((Below.refl _ _).drew) ?_ ?_ ?_
  · exact (AllMono.cons Det.later (AllMono.cons Det.later (AllMono.cons Det.later (AllMono.cons Det.later (AllMono.cons Det.later (AllMono.cons Det.later (AllMono.cons Det.later (AllMono.cons Det.later (AllMono.cons RelU.later (AllMono.cons RelU.later (AllMono.cons RelS.later (AllMono.cons Det.later (AllMono.cons RelS.later (AllMono.cons Det.later AllMono.nil))))))))))))))
  · refine AllOb.cons ?_ (AllOb.cons ?_ (AllOb.cons ?_ (AllOb.cons ?_ (AllOb.cons ?_ (AllOb.cons ?_ (AllOb.cons ?_ (AllOb.cons ?_ (AllOb.cons ?_ (AllOb.cons ?_ (AllOb.cons ?_ (AllOb.cons ?_ (AllOb.cons ?_ (AllOb.cons ?_ (AllOb.nil))))))))))))))
    · intro uF W hC' hU aF hF
      have hC : Below va.heap.size va W := hC'
      clear hC'
      simp only [puts] at hF
      subst hF
      go_wp2_with (fail)
      exact ⟨rfl, rfl, (Below.refl _ _), rfl⟩
    · intro uF W hC' hU aF hF
      have hC : Below va.heap.size va W := hC'
      clear hC'
      have h47 : (Det (.pointer (some ⟨w.heap.size, 0, none⟩))) (uF 0) W := hU.1
      clear hU
      simp only [puts, Act.put, List.setIfInBounds_toArray, List.set_cons_zero, List.set_cons_succ] at hF
      generalize uF 0 = x47 at h47 hF
      obtain rfl : x47 = (.pointer (some ⟨w.heap.size, 0, none⟩)) := h47
      subst hF
      have e0W := (hC.cell (p := ⟨w.heap.size, 0, none⟩) hgxa).trans he0.out
      go_wp2_with (fail)
      exact ⟨rfl, rfl, (Below.refl _ _), rfl⟩
    · intro uF W hC' hU aF hF
      have hC : Below va.heap.size va W := hC'
      clear hC'
      simp only [puts] at hF
      subst hF
      go_wp2_with (fail)
      exact ⟨rfl, rfl, (Below.refl _ _), rfl⟩
    · intro uF W hC' hU aF hF
      have hC : Below va.heap.size va W := hC'
      clear hC'
      simp only [puts] at hF
      subst hF
      go_wp2_with (fail)
      exact ⟨rfl, rfl, (Below.refl _ _), rfl⟩
    · intro uF W hC' hU aF hF
      have hC : Below va.heap.size va W := hC'
      clear hC'
      simp only [puts] at hF
      subst hF
      go_wp2_with (fail)
      exact ⟨rfl, rfl, (Below.refl _ _), rfl⟩
    · intro uF W hC' hU aF hF
      have hC : Below va.heap.size va W := hC'
      clear hC'
      simp only [puts] at hF
      subst hF
      go_wp2_with (fail)
      exact ⟨rfl, rfl, (Below.refl _ _), rfl⟩
    · intro uF W hC' hU aF hF
      have hC : Below va.heap.size va W := hC'
      clear hC'
      have h51 : (Det (.slice (some ⟨g4, 0, none⟩) 16 c4)) (uF 4) W := hU.1
      have h52 : (Det (.int .i64 (kk : Int))) (uF 5) W := hU.2.1
      clear hU
      simp only [puts, Act.put, List.setIfInBounds_toArray, List.set_cons_zero, List.set_cons_succ] at hF
      generalize uF 4 = x51 at h51 hF
      generalize uF 5 = x52 at h52 hF
      obtain rfl : x51 = (.slice (some ⟨g4, 0, none⟩) 16 c4) := h51
      obtain rfl : x52 = (.int .i64 (kk : Int)) := h52
      subst hF
      go_wp2_with (fail)
      exact ⟨rfl, rfl, (Below.refl _ _), rfl⟩
    · intro uF W hC' hU aF hF
      have hC : Below va.heap.size va W := hC'
      clear hC'
      have h53 : (Det (.pointer (some ⟨g4, kk * 32, none⟩))) (uF 6) W := hU.1
      clear hU
      simp only [puts, Act.put, List.setIfInBounds_toArray, List.set_cons_zero, List.set_cons_succ] at hF
      generalize uF 6 = x53 at h53 hF
      obtain rfl : x53 = (.pointer (some ⟨g4, kk * 32, none⟩)) := h53
      subst hF
      go_wp2_with (((with_reducible show wpList _ _ _ (Oper.mk _ (Op.load 40 _) _ _ _ _ :: _) _ _); refine wpList_load_agg (by rfl) 40 (.tmp 53) rfl g4 (kk * 32) rfl (arr8 O) agg44 (by rw [size_arr8, hlo]) (fun j v hv => (hC.cell (show (⟨g4, kk * 32 + j, none⟩ : Addr).block < va.heap.size from hg4a)).trans (hja.out j v hv)) ?_))
      exact ⟨rfl, rfl, (Below.refl _ _), rfl⟩
    · intro uF W hC' hU aF hF
      have hC : Below va.heap.size va W := hC'
      clear hC'
      have h48 : (Det (.slice A0 n0 c0)) (uF 1) W := hU.1
      have h49 : (Det (.slice (some ⟨g5, 0, none⟩) 32 c5)) (uF 2) W := hU.2.1
      have h50 : (Det (.int .i64 (kk : Int))) (uF 3) W := hU.2.2.1
      have h54 : (Det (.agg (arr8 O))) (uF 7) W := hU.2.2.2.1
      clear hU
      simp only [puts, Act.put, List.setIfInBounds_toArray, List.set_cons_zero, List.set_cons_succ] at hF
      generalize uF 1 = x48 at h48 hF
      generalize uF 2 = x49 at h49 hF
      generalize uF 3 = x50 at h50 hF
      generalize uF 7 = x54 at h54 hF
      obtain rfl : x48 = (.slice A0 n0 c0) := h48
      obtain rfl : x49 = (.slice (some ⟨g5, 0, none⟩) 32 c5) := h49
      obtain rfl : x50 = (.int .i64 (kk : Int)) := h50
      obtain rfl : x54 = (.agg (arr8 O)) := h54
      subst hF
      go_wp2_with ((go_at_call 25; refine (update_c ((W0A.out.below (hC.mono hza)).more (Nat.le_trans hza hC.size)) (Nat.le_refl _) (by omega) ((OwS.below H5.out hC).sl) (Nat.le_refl _) (kk : Int) ⟨by omega, by omega⟩ hlo).mono ?_; rintro e W1 ⟨g9, c9, rfl, h9, hb⟩; rw [← HUD.out] at h9))
      exact ⟨rfl, rfl, hb, ⟨_, _, rfl, Row.base_le h9 hC.size⟩⟩
    · intro uF W hC' hU aF hF
      have hC : Below va.heap.size va W := hC'
      clear hC'
      have h55 : (RelU va.heap.size U) (uF 8) W := hU.1
      clear hU
      simp only [puts, Act.put, List.setIfInBounds_toArray, List.set_cons_zero, List.set_cons_succ] at hF
      generalize uF 8 = x55 at h55 hF
      subst hF
      go_wp2_with (fail)
      exact ⟨rfl, rfl, (Below.refl _ _), h55⟩
    · intro uF W hC' hU aF hF
      have hC : Below va.heap.size va W := hC'
      clear hC'
      have h46 : (RelU va.heap.size U) (uF 9) W := hU.1
      clear hU
      simp only [puts, Act.put, List.setIfInBounds_toArray, List.set_cons_zero, List.set_cons_succ] at hF
      generalize uF 9 = x46 at h46 hF
      obtain ⟨g46, c46, rfl, s46⟩ := h46
      subst hF
      go_wp2_with (fail)
      exact ⟨rfl, rfl, (Below.refl _ _), ⟨_, _, rfl, s46⟩⟩
    · intro uF W hC' hU aF hF
      have hC : Below va.heap.size va W := hC'
      clear hC'
      have h46 : (RelU va.heap.size U) (uF 9) W := hU.1
      clear hU
      simp only [puts, Act.put, List.setIfInBounds_toArray, List.set_cons_zero, List.set_cons_succ] at hF
      generalize uF 9 = x46 at h46 hF
      obtain ⟨g46, c46, rfl, s46⟩ := h46
      subst hF
      go_wp2_with (fail)
      exact ⟨rfl, rfl, (Below.refl _ _), rfl⟩
    · intro uF W hC' hU aF hF
      have hC : Below va.heap.size va W := hC'
      clear hC'
      have h56 : (RelS va.heap.size U) (uF 10) W := hU.1
      clear hU
      simp only [puts, Act.put, List.setIfInBounds_toArray, List.set_cons_zero, List.set_cons_succ] at hF
      generalize uF 10 = x56 at h56 hF
      subst hF
      go_wp2_with (fail)
      exact ⟨rfl, rfl, (Below.refl _ _), h56⟩
    · intro uF W hC' hU aF hF
      have hC : Below va.heap.size va W := hC'
      clear hC'
      have h57 : (Det .nilIface) (uF 11) W := hU.1
      clear hU
      simp only [puts, Act.put, List.setIfInBounds_toArray, List.set_cons_zero, List.set_cons_succ] at hF
      generalize uF 11 = x57 at h57 hF
      obtain rfl : x57 = .nilIface := h57
      subst hF
      go_wp2_with (fail)
      exact ⟨rfl, rfl, (Below.refl _ _), rfl⟩
  intro uF W5 hC' hU aF hF
  have hCW5 : Below va.heap.size va W5 := hC'
  clear hC'
  have h7 : (RelS va.heap.size U) (uF 12) W5 := hU.2.2.2.2.2.2.2.2.2.2.2.2.1
  have h5 : (Det .nilIface) (uF 13) W5 := hU.2.2.2.2.2.2.2.2.2.2.2.2.2.1
  clear hU
  simp only [puts, Act.put, List.setIfInBounds_toArray, List.set_cons_zero, List.set_cons_succ] at hF
  generalize uF 0 = x47 at hF
  generalize uF 1 = x48 at hF
  generalize uF 2 = x49 at hF
  generalize uF 3 = x50 at hF
  generalize uF 4 = x51 at hF
  generalize uF 5 = x52 at hF
  generalize uF 6 = x53 at hF
  generalize uF 7 = x54 at hF
  generalize uF 8 = x55 at hF
  generalize uF 9 = x46 at hF
  generalize uF 10 = x56 at hF
  generalize uF 11 = x57 at hF
  generalize uF 12 = x7 at h7 hF
  generalize uF 13 = x5 at h5 hF
  obtain ⟨g7, c7, rfl, s7⟩ := h7
  obtain rfl : x5 = .nilIface := h5
  subst hF
  have hv5' := HVA.out.trans (hCW5.mono hza)
  have hz5' := hv5'.size
  have HV5 := Lib.hid hv5'
  have S7 := Lib.hid s7
  have HL2 := Lib.hid (OwS.below HA.out hCW5)
  have W05 := Lib.hid ((W0A.out.below (hCW5.mono hza)))
  have he5 := Lib.hid ((hCW5.cell (p := ⟨w.heap.size, 0, none⟩) hgxa).trans he0.out)
  have hc77 := OwS.le s7
  have hcc77 := s7.2.2.1
  have hUl : U.length = 32 * 32 := s7.len
  have hgx5 : w.heap.size < W5.heap.size := Nat.lt_of_lt_of_le hgx hz5'
  have hww := Lib.hid hb1
  clear hv5' s7 HVA HA W0A he0 H5 hja hb1
  go_wp2_with fail
  go_loopw [67] (fun v67 wr => ∃ i : Nat, i ≤ 16 ∧ v67 = .int .i64 (i : Int) ∧ Below W5.heap.size W5 wr) (fun v67 _ => 16 - (intOf v67).toNat)
  case atStart => exact ⟨0, by omega, rfl, Below.refl _ _⟩
  case round =>
    obtain ⟨i, hi, rfl, hw⟩ := hrel
    have hzw := hw.size
    by_cases hlt : i < 16
    · have hii : (i : Int) < 16 := by omega
      have hi0 : (0 : Int) ≤ (i : Int) := by omega
      have hg4r : g4 < wr.heap.size := Nat.lt_of_lt_of_le hg4a (Nat.le_trans hCW5.size hzw)
      have hj4 := Lib.hid (OwS.elt_ (OwS.below HL2.out hw) (i := i) hlt)
      have t5 := Lib.hid (OwS.elt_ (OwS.below S7.out hw) (i := 1) (by omega))
      have hg5 := OwS.lt (OwS.below S7.out hw) (by omega)
      have hel := len_elt hL2l hlt
      have hT1 := len_elt hUl (i := 1) (by omega)
      have hcl := HU.out i hlt
      obtain ⟨x, hx⟩ : ∃ x, x = elt L2 i := ⟨_, rfl⟩
      obtain ⟨R1, hR1⟩ : ∃ R1, R1 = elt U 1 := ⟨_, rfl⟩
      rw [← hx] at hj4 hel hcl
      rw [← hR1] at t5 hT1
      have HCL := Lib.hid (show (elt (climbT bs0 U (i : Int) x) 1 == R1) = true by rw [hcl, hR1]; simp)
      have HK := Lib.hid ((W05.out.below (hw.mono hz5')).more (Nat.le_trans hz5' hzw))
      have HTT := Lib.hid (OwS.below S7.out hw)
      have her := Lib.hid ((hw.cell (p := ⟨w.heap.size, 0, none⟩) hgx5).trans he5.out)
      have hgxr : w.heap.size < wr.heap.size := Nat.lt_of_lt_of_le hgx5 hzw
      have hzar : va.heap.size ≤ wr.heap.size := Nat.le_trans hCW5.size hzw
      have HW := Lib.hid hw
      clear hx hR1 hcl hw
      go_wp2_with fail
      refine wp_region_rel (fun W W' => Below W.heap.size W W') (fun W => Below wr.heap.size wr W)
        [Det (.pointer (some ⟨w.heap.size, 0, none⟩)), Det (.slice A0 n0 c0), Det (.slice (some ⟨g7, 0, none⟩) 32 c7), Det (.slice (some ⟨g7, 0, none⟩) 32 c7), Det (.pointer (some ⟨g7, 32, none⟩)), Det (.agg (arr8 R1)), Det (.int .i64 (i : Int)), Det (.slice (some ⟨g4, 0, none⟩) 16 c4), Det (.int .i64 (i : Int)), Det (.pointer (some ⟨g4, i * 32, none⟩)), Det (.agg (arr8 x)), Det (.bool true), Det (.bool false)]
        [[], [(0, some 70)], [], [], [(3, some 73)], [(4, some 74)], [], [], [], [(7, some 77), (8, some 78)], [(9, some 79)], [(1, some 71), (2, some 72), (5, some 75), (6, some 76), (10, some 80)], [(11, some 81)]]
        [[], [0], [], [], [3], [3, 4], [], [], [], [7, 8], [7, 8, 9], [0, 1, 2, 3, 4, 5, 6, 7, 8, 9, 10], [0, 1, 2, 3, 4, 5, 6, 7, 8, 9, 10, 11]]
        [(0, some 70), (1, some 71), (2, some 72), (3, some 73), (4, some 74), (5, some 75), (6, some 76), (7, some 77), (8, some 78), (9, some 79), (10, some 80), (11, some 81), (12, some 82)] (by kernel_rfl) (by kernel_rfl) (fun W W' h1 h2 => h1.trans (h2.mono h1.size)) ((Below.refl _ _).drew) ?_ ?_ ?_
      · exact (AllMono.cons Det.later (AllMono.cons Det.later (AllMono.cons Det.later (AllMono.cons Det.later (AllMono.cons Det.later (AllMono.cons Det.later (AllMono.cons Det.later (AllMono.cons Det.later (AllMono.cons Det.later (AllMono.cons Det.later (AllMono.cons Det.later (AllMono.cons Det.later (AllMono.cons Det.later AllMono.nil)))))))))))))
      · refine AllOb.cons ?_ (AllOb.cons ?_ (AllOb.cons ?_ (AllOb.cons ?_ (AllOb.cons ?_ (AllOb.cons ?_ (AllOb.cons ?_ (AllOb.cons ?_ (AllOb.cons ?_ (AllOb.cons ?_ (AllOb.cons ?_ (AllOb.cons ?_ (AllOb.cons ?_ (AllOb.nil)))))))))))))
        · intro uF W hC' hU aF hF
          have hC : Below wr.heap.size wr W := hC'
          clear hC'
          simp only [puts] at hF
          subst hF
          go_wp2_with (fail)
          exact ⟨rfl, rfl, (Below.refl _ _), rfl⟩
        · intro uF W hC' hU aF hF
          have hC : Below wr.heap.size wr W := hC'
          clear hC'
          have h70 : (Det (.pointer (some ⟨w.heap.size, 0, none⟩))) (uF 0) W := hU.1
          clear hU
          simp only [puts, Act.put, List.setIfInBounds_toArray, List.set_cons_zero, List.set_cons_succ] at hF
          generalize uF 0 = x70 at h70 hF
          obtain rfl : x70 = (.pointer (some ⟨w.heap.size, 0, none⟩)) := h70
          subst hF
          have e0W := (hC.cell (p := ⟨w.heap.size, 0, none⟩) hgxr).trans her.out
          go_wp2_with (fail)
          exact ⟨rfl, rfl, (Below.refl _ _), rfl⟩
        · intro uF W hC' hU aF hF
          have hC : Below wr.heap.size wr W := hC'
          clear hC'
          simp only [puts] at hF
          subst hF
          go_wp2_with (fail)
          exact ⟨rfl, rfl, (Below.refl _ _), rfl⟩
        · intro uF W hC' hU aF hF
          have hC : Below wr.heap.size wr W := hC'
          clear hC'
          simp only [puts] at hF
          subst hF
          go_wp2_with (fail)
          exact ⟨rfl, rfl, (Below.refl _ _), rfl⟩
        · intro uF W hC' hU aF hF
          have hC : Below wr.heap.size wr W := hC'
          clear hC'
          have h73 : (Det (.slice (some ⟨g7, 0, none⟩) 32 c7)) (uF 3) W := hU.1
          clear hU
          simp only [puts, Act.put, List.setIfInBounds_toArray, List.set_cons_zero, List.set_cons_succ] at hF
          generalize uF 3 = x73 at h73 hF
          obtain rfl : x73 = (.slice (some ⟨g7, 0, none⟩) 32 c7) := h73
          subst hF
          go_wp2_with (fail)
          exact ⟨rfl, rfl, (Below.refl _ _), rfl⟩
        · intro uF W hC' hU aF hF
          have hC : Below wr.heap.size wr W := hC'
          clear hC'
          have h74 : (Det (.pointer (some ⟨g7, 32, none⟩))) (uF 4) W := hU.1
          clear hU
          simp only [puts, Act.put, List.setIfInBounds_toArray, List.set_cons_zero, List.set_cons_succ] at hF
          generalize uF 4 = x74 at h74 hF
          obtain rfl : x74 = (.pointer (some ⟨g7, 32, none⟩)) := h74
          subst hF
          go_wp2_with (((with_reducible show wpList _ _ _ (Oper.mk _ (Op.load 40 _) _ _ _ _ :: _) _ _); refine wpList_load_agg (by rfl) 40 (.tmp 74) rfl g7 32 rfl (arr8 R1) agg44 (by rw [size_arr8, hT1]) (fun j v hv => (hC.cell (show (⟨g7, 32 + j, none⟩ : Addr).block < wr.heap.size from hg5)).trans ((t5.out j v (by simpa using hv)))) ?_))
          exact ⟨rfl, rfl, (Below.refl _ _), rfl⟩
        · intro uF W hC' hU aF hF
          have hC : Below wr.heap.size wr W := hC'
          clear hC'
          simp only [puts] at hF
          subst hF
          go_wp2_with (fail)
          exact ⟨rfl, rfl, (Below.refl _ _), rfl⟩
        · intro uF W hC' hU aF hF
          have hC : Below wr.heap.size wr W := hC'
          clear hC'
          simp only [puts] at hF
          subst hF
          go_wp2_with (fail)
          exact ⟨rfl, rfl, (Below.refl _ _), rfl⟩
        · intro uF W hC' hU aF hF
          have hC : Below wr.heap.size wr W := hC'
          clear hC'
          simp only [puts] at hF
          subst hF
          go_wp2_with (fail)
          exact ⟨rfl, rfl, (Below.refl _ _), rfl⟩
        · intro uF W hC' hU aF hF
          have hC : Below wr.heap.size wr W := hC'
          clear hC'
          have h77 : (Det (.slice (some ⟨g4, 0, none⟩) 16 c4)) (uF 7) W := hU.1
          have h78 : (Det (.int .i64 (i : Int))) (uF 8) W := hU.2.1
          clear hU
          simp only [puts, Act.put, List.setIfInBounds_toArray, List.set_cons_zero, List.set_cons_succ] at hF
          generalize uF 7 = x77 at h77 hF
          generalize uF 8 = x78 at h78 hF
          obtain rfl : x77 = (.slice (some ⟨g4, 0, none⟩) 16 c4) := h77
          obtain rfl : x78 = (.int .i64 (i : Int)) := h78
          subst hF
          go_wp2_with (fail)
          exact ⟨rfl, rfl, (Below.refl _ _), rfl⟩
        · intro uF W hC' hU aF hF
          have hC : Below wr.heap.size wr W := hC'
          clear hC'
          have h79 : (Det (.pointer (some ⟨g4, i * 32, none⟩))) (uF 9) W := hU.1
          clear hU
          simp only [puts, Act.put, List.setIfInBounds_toArray, List.set_cons_zero, List.set_cons_succ] at hF
          generalize uF 9 = x79 at h79 hF
          obtain rfl : x79 = (.pointer (some ⟨g4, i * 32, none⟩)) := h79
          subst hF
          go_wp2_with (((with_reducible show wpList _ _ _ (Oper.mk _ (Op.load 40 _) _ _ _ _ :: _) _ _); refine wpList_load_agg (by rfl) 40 (.tmp 79) rfl g4 (i * 32) rfl (arr8 x) agg44 (by rw [size_arr8, hel]) (fun j v hv => (hC.cell (show (⟨g4, i * 32 + j, none⟩ : Addr).block < wr.heap.size from hg4r)).trans (hj4.out j v hv)) ?_))
          exact ⟨rfl, rfl, (Below.refl _ _), rfl⟩
        · intro uF W hC' hU aF hF
          have hC : Below wr.heap.size wr W := hC'
          clear hC'
          have h71 : (Det (.slice A0 n0 c0)) (uF 1) W := hU.1
          have h72 : (Det (.slice (some ⟨g7, 0, none⟩) 32 c7)) (uF 2) W := hU.2.1
          have h75 : (Det (.agg (arr8 R1))) (uF 5) W := hU.2.2.1
          have h76 : (Det (.int .i64 (i : Int))) (uF 6) W := hU.2.2.2.1
          have h80 : (Det (.agg (arr8 x))) (uF 10) W := hU.2.2.2.2.1
          clear hU
          simp only [puts, Act.put, List.setIfInBounds_toArray, List.set_cons_zero, List.set_cons_succ] at hF
          generalize uF 1 = x71 at h71 hF
          generalize uF 2 = x72 at h72 hF
          generalize uF 5 = x75 at h75 hF
          generalize uF 6 = x76 at h76 hF
          generalize uF 10 = x80 at h80 hF
          obtain rfl : x71 = (.slice A0 n0 c0) := h71
          obtain rfl : x72 = (.slice (some ⟨g7, 0, none⟩) 32 c7) := h72
          obtain rfl : x75 = (.agg (arr8 R1)) := h75
          obtain rfl : x76 = (.int .i64 (i : Int)) := h76
          obtain rfl : x80 = (.agg (arr8 x)) := h80
          subst hF
          go_wp2_with ((go_at_call 24; refine (verify_c (HK.out.below hC) hC.size (by omega) ((OwS.below HTT.out hC).sl) (Nat.le_refl _) (i : Int) (by omega) hel hT1 true HCL.out).mono ?_; rintro e W1 ⟨rfl, hb⟩))
          exact ⟨rfl, rfl, hb, rfl⟩
        · intro uF W hC' hU aF hF
          have hC : Below wr.heap.size wr W := hC'
          clear hC'
          have h81 : (Det (.bool true)) (uF 11) W := hU.1
          clear hU
          simp only [puts, Act.put, List.setIfInBounds_toArray, List.set_cons_zero, List.set_cons_succ] at hF
          generalize uF 11 = x81 at h81 hF
          obtain rfl : x81 = (.bool true) := h81
          subst hF
          go_wp2_with (fail)
          exact ⟨rfl, rfl, (Below.refl _ _), rfl⟩
      intro uF W6 hC' hU aF hF
      have hCW6 : Below wr.heap.size wr W6 := hC'
      clear hC'
      have h82 : (Det (.bool false)) (uF 12) W6 := hU.2.2.2.2.2.2.2.2.2.2.2.2.1
      clear hU
      simp only [puts, Act.put, List.setIfInBounds_toArray, List.set_cons_zero, List.set_cons_succ] at hF
      generalize uF 0 = x70 at hF
      generalize uF 1 = x71 at hF
      generalize uF 2 = x72 at hF
      generalize uF 3 = x73 at hF
      generalize uF 4 = x74 at hF
      generalize uF 5 = x75 at hF
      generalize uF 6 = x76 at hF
      generalize uF 7 = x77 at hF
      generalize uF 8 = x78 at hF
      generalize uF 9 = x79 at hF
      generalize uF 10 = x80 at hF
      generalize uF 11 = x81 at hF
      generalize uF 12 = x82 at h82 hF
      obtain rfl : x82 = (.bool false) := h82
      subst hF
      go_wp2_with fail
      exact ⟨⟨i + 1, by omega, by go_num, HW.out.trans (hCW6.mono hzw)⟩, by simp [intOf]; omega⟩
    · obtain rfl : i = 16 := by omega
      have hii : ¬ ((16 : Nat) : Int) < 16 := by omega
      go_wp2_with fail
      go_ret
      exact ⟨rfl, hww.out.trans ((HV5.out.trans (hw.mono hz5')).mono hz1)⟩
end Go.Proofs.Ytbjiokjmidipaaa.treeOthers

