/-
  tree.climb: a tree with another leaf, and the nodes above it made anew.
-/
import Derived.Test.YtdifepfplfkfoaaBuild
import Derived.Test.YtdifepfplfkfoaaPath
namespace Go.Proofs.Ytdifepfplfkfoaa
open Go.RowKit Go.Shelf
set_option linter.unusedVariables false
set_option linter.unusedSimpArgs false
set_option maxRecDepth 100000
attribute [local go_sem] Oper.semAt_some

/-- The tree behind k steps up a block's path. -/
def cl (key xs leaf : List UInt8) (b : Int) : Nat → List UInt8
  | 0 => xs
  | k + 1 => putS (cl key xs leaf b k) (pathAt b k) (if k = 0 then leaf else joinOf key (pathAt b k : Int) (elt (cl key xs leaf b k) (2 * pathAt b k)) (elt (cl key xs leaf b k) (2 * pathAt b k + 1)))
def climbT (key xs : List UInt8) (b : Int) (leaf : List UInt8) : List UInt8 := cl key xs leaf b 5
theorem len_cl {key xs leaf : List UInt8} {b : Int} (h : xs.length = 32 * 32) (hl : leaf.length = 32) (hb : 0 ≤ b ∧ b < 16) (k : Nat) : (cl key xs leaf b k).length = 32 * 32 := by
  induction k with
  | zero => exact h
  | succ k ih =>
    rw [cl, len_putS ih (by have := pathAt_le hb k; omega)]
    split
    · exact hl
    · exact len_joinOf _ _ _ _
theorem len_climbT {key xs leaf : List UInt8} {b : Int} (h : xs.length = 32 * 32) (hl : leaf.length = 32) (hb : 0 ≤ b ∧ b < 16) : (climbT key xs b leaf).length = 32 * 32 := len_cl h hl hb 5

set_option maxHeartbeats 1000000 in
theorem cloneS_c {w : World} {B : Nat} {A : Option Addr} {n c : Nat} {xs : List UInt8} (ha : SlS w B A n c xs) (hB : B ≤ w.heap.size) (hn : n ≤ 1000000) (h0 : 0 < n) :
    Calls Try.prog 66 #[.slice A n c] w fun e w' => ∃ g c', e = .returned (.slice (some ⟨g, 0, none⟩) n c') ∧ OwS w' w.heap.size (some ⟨g, 0, none⟩) n c' xs ∧ Below w.heap.size w w' := by
  obtain ⟨b, off, rfl, _, _⟩ := ha.at_ (by have := ha.le; omega)
  have hq := fun W => Lib.run_eql_slice_nil (P := Try.prog) W
  have hs1 : SlS (w.alloc (.cells #[] 28)) B (some ⟨b, off, none⟩) n c xs := ha.below ((below_alloc _ _).mono hB)
  have k0 : OwS (w.alloc (.cells #[] 28)) w.heap.size (some ⟨w.heap.size, 0, none⟩) 0 0 [] := Row.nil _ _ _ _ _
  have hb0 := below_alloc w (.cells #[] 28)
  clear ha
  go_enter Try.func66, Try.ntmps66
  go_wp2_with (at_builtin; refine wpList_appendS rfl (.tmp 5) (.tmp 6) rfl rfl k0 rfl hs1 (by omega) (by simp) n (by omega) ?_; intro A1 c1 w1 h1 q1; have hb1 := q1.below k0 hb0 (Nat.le_refl _) (by simp))
  go_ret
  obtain ⟨g, cur, e, hg, _⟩ := h1.2.2.2 (by have := h1.le; omega)
  subst e
  exact ⟨g, c1, rfl, h1, hb1⟩

/-- What stands while one climbs: k nodes are made anew. -/
structure StC (w : World) (gk gl gt gr c : Nat) (kv : Value) (key xs leaf : List UInt8) (b : Int) (O : Nat → Prop) (k : Nat) (W : World) : Prop where
  own : O gr
  nk : ¬ O gk
  nl : ¬ O gl
  nt : ¬ O gt
  bk : Blk W gk 22 #[kv]
  bl : Blk W gl 28 (arr8 leaf)
  bt : Blk W gt 51 #[.slice (some ⟨gr, 0, none⟩) 32 c]
  row : OwS W w.heap.size (some ⟨gr, 0, none⟩) 32 c (cl key xs leaf b k)
  below : Below w.heap.size w W
section
variable {w : World} {gk gl gt gr c : Nat} {kv : Value} {key xs leaf : List UInt8} {b : Int} {O : Nat → Prop} {k : Nat} {W W' : World}
theorem StC.calm {B : Nat} (h : StC w gk gl gt gr c kv key xs leaf b O k W) (hc : Calm B W W') (hB : w.heap.size ≤ B) : StC w gk gl gt gr c kv key xs leaf b O k W' :=
  ⟨h.own, h.nk, h.nl, h.nt, hc.blk h.bk, hc.blk h.bl, hc.blk h.bt, hc.row h.row, hc.below h.below hB (Nat.le_refl _)⟩
theorem StC.on (h : StC w gk gl gt gr c kv key xs leaf b O k W) (hb : Below W.heap.size W W') : StC w gk gl gt gr c kv key xs leaf b O k W' :=
  ⟨h.own, h.nk, h.nl, h.nt, h.bk.below hb h.bk.lt, h.bl.below hb h.bl.lt, h.bt.below hb h.bt.lt, OwS.below h.row hb, h.below.trans (hb.mono h.below.size)⟩
end

set_option maxHeartbeats 4000000 in
theorem climb_c {w : World} {B B' : Nat} {A A' : Option Addr} {n c c' : Nat} {key xs leaf : List UInt8} (hk : SlB w B A n c key) (hB : B ≤ w.heap.size) (hn : n ≤ 1099511627776) (hx : SlS w B' A' 32 c' xs) (hB' : B' ≤ w.heap.size) (b : Int) (hb : 0 ≤ b ∧ b < 16) (hl : leaf.length = 32) :
    Calls Try.prog 42 #[.slice A n c, .slice A' 32 c', .int .i64 b, .agg (arr8 leaf)] w fun e w' => ∃ g c2, e = .returned (.slice (some ⟨g, 0, none⟩) 32 c2) ∧ OwS w' w.heap.size (some ⟨g, 0, none⟩) 32 c2 (climbT key xs b leaf) ∧ Below w.heap.size w w' := by
  have hxl : xs.length = 32 * 32 := hx.len
  have hbwf : (Lit.int .i64 b).wf = true := by
    simp [Lit.wf, IntKind.min, IntKind.max, IntKind.signed, IntKind.bits]; omega
  obtain ⟨gk, hgk⟩ : ∃ g, g = w.heap.size := ⟨_, rfl⟩
  obtain ⟨gl, hgl⟩ : ∃ g, g = w.heap.size + 1 := ⟨_, rfl⟩
  obtain ⟨v, hv⟩ : ∃ v, v = (w.alloc (.cells #[.slice A n c] 22)).alloc (.cells (arr8 leaf) 28) := ⟨_, rfl⟩
  have k1 : Blk v gk 22 #[.slice A n c] := by rw [hv, hgk]; exact (Blk.new _ _ _).alloc _
  have l1 : Blk v gl 28 (arr8 leaf) := by
    have := Blk.new (w.alloc (.cells #[.slice A n c] 22)) 28 (arr8 leaf)
    rw [World.size_alloc] at this
    rw [hv, hgl]; exact this
  have hbv : Below w.heap.size w v := by rw [hv]; exact ((Below.refl _ _).alloc (Nat.le_refl _) _).alloc (by simp) _
  have hz0 := hbv.size
  have hgkl : gk < gl ∧ w.heap.size ≤ gk := by omega
  have hglz := l1.lt
  have HV := Lib.hid hv
  have HGK := Lib.hid hgk
  have HGL := Lib.hid hgl
  have HK := Lib.hid hk
  have HX := Lib.hid (hx.below (hbv.mono hB'))
  have HXL := Lib.hid hxl
  have HB := Lib.hid hb
  clear hv hgk hgl hk hx hxl hb
  refine calls_of_wp_marks Try.func42 rfl ?_
  simp only [Try.ntmps42, List.size_toArray, List.length_cons, List.length_nil, Nat.reduceAdd, Nat.reduceSub, Array.replicate_succ, Array.replicate_zero, List.push_toArray, List.append_toArray, List.nil_append, List.cons_append]
  go_wp2_with fail
  rw [← HV.out, ← HGL.out, ← HGK.out]
  refine (cloneS_c HX.out (Nat.le_trans hB' hz0) (by omega) (by omega)).mono ?_
  rintro e v2 ⟨gr, c2, rfl, h2, hb2⟩
  obtain ⟨gt, hgt⟩ : ∃ g, g = v2.heap.size := ⟨_, rfl⟩
  obtain ⟨v3, hv3⟩ : ∃ v3, v3 = v2.alloc (.cells #[.slice (some ⟨gr, 0, none⟩) 32 c2] 51) := ⟨_, rfl⟩
  have h23 : Below v2.heap.size v2 v3 := by rw [hv3]; exact below_alloc _ _
  have h13 := hb2.trans (h23.mono hb2.size)
  have t3 : Blk v3 gt 51 #[.slice (some ⟨gr, 0, none⟩) 32 c2] := by rw [hv3, hgt]; exact Blk.new _ _ _
  have hgr0 : gr < v2.heap.size := OwS.lt h2 (by omega)
  have hgrb : v.heap.size ≤ gr := by
    obtain ⟨g', cur, e, hg, _⟩ := h2.2.2.2 (by have := OwS.le h2; omega)
    simp only [Option.some.injEq, Addr.mk.injEq, and_true] at e
    omega
  have hD : gk < gr ∧ gl < gr ∧ gr < gt ∧ gk ≠ gt ∧ gl ≠ gt := by omega
  have st3 : StC w gk gl gt gr c2 (.slice A n c) key xs leaf b (fun k => k = gr) 0 v3 := ⟨rfl, by omega, by omega, by omega, k1.below h13 k1.lt, l1.below h13 l1.lt, t3, Row.base_le (OwS.below h2 h23) hz0, hbv.trans (h13.mono hz0)⟩
  have hz3 := st3.below.size
  have hc2 := OwS.le h2
  have hc3 := h2.2.2.1
  have HV3 := Lib.hid hv3
  have HGT := Lib.hid hgt
  have ST3 := Lib.hid st3
  clear hv3 hgt k1 l1 h2 hb2 h23 h13 t3 st3
  go_wp2_with fail
  rw [← HV3.out, ← HGT.out]
  refine (path_c b v3).mono ?_
  rintro e v4 ⟨rfl, hv4⟩
  have h34 : Below v3.heap.size v3 v4 := by rw [hv4]; exact below_alloc _ _
  have B1 : Blk v4 v3.heap.size 3 #[.int .i64 b] := by rw [hv4]; exact Blk.new _ _ _
  have st4 := ST3.out.on h34
  have hz4 := st4.below.size
  have hgr4 : gr < v3.heap.size := OwS.lt ST3.out.row (by omega)
  have hgrz : gr < v4.heap.size := by have := h34.size; omega
  clear hv4 ST3 h34
  go_wp2_with fail
  refine wp_range (O := fun k => k = gr) (a := _) rfl (enters_of Try.func44 (by kernel_rfl) rfl) (path_iter hbwf B1) (Below.refl _ _) (fun _ => rfl) (fun k hk => ⟨by rw [hk]; omega, by rw [hk]; exact hgrz⟩)
    (fun O' pre W' => StC w gk gl gt gr c2 (.slice A n c) key xs leaf b O' pre.length W')
    (fun c pre W' => False) (fun O' => ownFrom_of fun s X X' hs hc => hs.calm hc hz4) (fun c => ownFrom_of fun s X X' hs hc => hs) st4
    (fun O' pre x a' W' => StC w gk gl gt gr c2 (.slice A n c) key xs leaf b O' pre.length W' ∧ x = pre.length ∧ x < pathLen b ∧ a' = { tmps := #[Value.slice A n c, Value.slice A' 32 c', Value.int .i64 b, Value.agg (arr8 leaf), Value.pointer (some ⟨gk, 0, none⟩), undef, undef, Value.pointer (some ⟨gl, 0, none⟩), Value.slice none 0 0, Value.pointer (some ⟨gt, 0, none⟩), Value.int .i64 (pathAt b x : Int), Value.slice A' 32 c', Value.slice (some ⟨gr, 0, none⟩) 32 c2, Value.int .i64 b, Value.func (Fn.func 44) #[] #[Value.pointer (some ⟨v3.heap.size, 0, none⟩)], Value.int .i64 (pathAt b x : Int), undef, undef, undef, undef, undef, undef, undef, undef, undef, undef, undef, undef, undef, undef, undef, undef, undef, undef, undef, undef, undef, undef, undef, undef], defers := [] })
    (fun O' pre x a' => ownFrom_of fun s X X' hs hc => ⟨hs.1.calm hc hz4, hs.2⟩) ?_ ?_ ?_ ?_
  · rintro l' O' pre x W' K st ⟨hx1, hx2⟩ hK
    have HX1 := Lib.hid hx1
    clear hx1
    simp only [fold_one, List.setIfInBounds_toArray, List.set_cons_succ, List.set_cons_zero]
    gi_wp2
    exact hK O' _ _ (Kept.refl _ _) ⟨st, HX1.out, hx2, rfl⟩
  · rintro l' O' pre x a' W' ⟨st, hx1, hx2, rfl⟩
    rw [← hx1] at st
    have hlen : pathLen b = 5 := if_pos HB.out
    have hx5 : x < 5 := by omega
    obtain ⟨i, hi⟩ : ∃ i, i = pathAt b x := ⟨_, rfl⟩
    have hi31 : i ≤ 31 := by rw [hi]; exact pathAt_le HB.out x
    have hi1 : 0 < i := by rw [hi]; exact pathAt_pos HB.out hx5
    rw [← hi]
    have hii31 : (i : Int) ≤ 31 := by omega
    have hii0 : (0 : Int) ≤ (i : Int) := by omega
    have hii32 : (i : Int) < 32 := by omega
    have HI := Lib.hid hi
    have HX1 := Lib.hid hx1
    have HST := Lib.hid st
    clear hi hx1 hx2 st hlen
    have dt : W'.cell? ⟨gt, 0, none⟩ = some (.slice (some ⟨gr, 0, none⟩) 32 c2) := by rw [HST.out.bt.cell]; rfl
    have hgr' : gr < W'.heap.size := OwS.lt HST.out.row (by omega)
    have fin : ∀ (W7 : World) (s : List UInt8), OwS W7 w.heap.size (some ⟨gr, 0, none⟩) 32 c2 (putS (cl key xs leaf b x) i s) → (s = if x = 0 then leaf else joinOf key (i : Int) (elt (cl key xs leaf b x) (2 * i)) (elt (cl key xs leaf b x) (2 * i + 1))) → W'.grownBy W7 (some gr) → StC w gk gl gt gr c2 (.slice A n c) key xs leaf b O' (x + 1) W7 ∧ Kept O' O' W' W7 := fun W7 s h7 hs hg7 => by
      have st := HST.out
      refine ⟨⟨st.own, st.nk, st.nl, st.nt, st.bk.grown hg7 (by simp; omega), st.bl.grown hg7 (by simp; omega), st.bt.grown hg7 (by simp; omega), ?_, st.below.grown hg7 st.below.size (fun k hk => by cases hk; omega)⟩, Kept.grown hg7 st.own⟩
      rw [cl, ← HI.out, ← hs]
      exact h7
    have HF := Lib.hid fin
    clear fin
    refine wpIn_block ?_
    refine wpIn_seq_k fun K1 hK1 => ?_
    have HK1 := Lib.hid hK1
    clear hK1
    refine wpIn_seq_k fun K2 hK2 => ?_
    have HK2 := Lib.hid hK2
    clear hK2
    have hpl : (pre ++ [x]).length = x + 1 := by rw [List.length_append, List.length_cons, List.length_nil, HX1.out]
    have HPL := Lib.hid hpl
    clear hpl
    by_cases h0 : x = 0
    · have h16 : 16 ≤ i := by rw [HI.out, h0, pathAt_zero]; omega
      have hi16 : (16 : Int) ≤ (i : Int) := by omega
      gi_wp2
      refine HK2.out _ _ ?_
      refine wpIn_cond_true rfl ?_
      refine wpIn_seq_k fun K3 hK3 => ?_
      have HK3 := Lib.hid hK3
      clear hK3
      refine wpIn_region_of (free_rd l') rfl (fun ⟨_, _, h⟩ => h) ?_
      go_wp2_with (first
        | ((with_reducible show wpList _ _ _ (Oper.mk _ (Op.load 28 _) _ _ _ _ :: _) _ _); refine wpList_load_whole (by rfl) 28 (.tmp 7) rfl gl rfl (arr8 leaf) agg44 (by rw [size_arr8, hl]) 28 HST.out.bl ?_)
        | ((with_reducible show wpList _ _ _ (Oper.mk none (Op.store 28 _ _) _ _ _ _ :: _) _ _); refine wpList_storeS rfl 28 (.tmp 21) (.tmp 20) rfl gr i rfl leaf rfl agg44 hl HST.out.row (by omega) ?_; intro w6 h6 hg6 hs6))
      refine HK3.out _ _ ?_
      obtain ⟨s7, k7⟩ := HF.out w6 leaf h6 (by rw [if_pos h0]) hg6
      gi_wp2
      exact ⟨O', k7, by simp only [HPL.out]; exact s7⟩
    · have h16 : i < 16 := by
        have h1 := HI.out
        obtain ⟨k, rfl⟩ : ∃ k, x = k + 1 := ⟨x - 1, by omega⟩
        rw [pathAt_succ] at h1
        have := pathAt_le HB.out k
        omega
      have hi16 : ¬ (16 : Int) ≤ (i : Int) := by omega
      gi_wp2
      refine HK2.out _ _ ?_
      refine wpIn_cond_false rfl ?_
      refine wpIn_skip ?_
      refine HK1.out _ _ ?_
      obtain ⟨L, hL⟩ : ∃ L, L = 2 * i := ⟨_, rfl⟩
      obtain ⟨M, hM⟩ : ∃ M, M = L + 1 := ⟨_, rfl⟩
      have hLi : 2 * (i : Int) = (L : Int) := by omega
      have hMi : (L : Int) + 1 = (M : Int) := by omega
      have hL32 : (L : Int) < 32 := by omega
      have hM32 : (M : Int) < 32 := by omega
      have hL0 : (0 : Int) ≤ (L : Int) := by omega
      have hM0 : (0 : Int) ≤ (M : Int) := by omega
      have hlt := len_cl (key := key) HXL.out hl HB.out x
      have heL := len_elt hlt (i := L) (by omega)
      have heM := len_elt hlt (i := M) (by omega)
      have dL := Lib.hid (OwS.elt_ HST.out.row (i := L) (by omega))
      have dM := Lib.hid (OwS.elt_ HST.out.row (i := M) (by omega))
      obtain ⟨xx, hxx⟩ : ∃ xx, xx = elt (cl key xs leaf b x) L := ⟨_, rfl⟩
      obtain ⟨yy, hyy⟩ : ∃ yy, yy = elt (cl key xs leaf b x) M := ⟨_, rfl⟩
      obtain ⟨jj, hjj⟩ : ∃ jj, jj = joinOf key (i : Int) xx yy := ⟨_, rfl⟩
      have hlj : jj.length = 32 := by rw [hjj, len_joinOf]
      rw [← hxx] at dL heL
      rw [← hyy] at dM heM
      have HJE := Lib.hid (show jj = if x = 0 then leaf else joinOf key (i : Int) (elt (cl key xs leaf b x) (2 * i)) (elt (cl key xs leaf b x) (2 * i + 1)) by rw [if_neg h0, hjj, hxx, hyy, hM, hL])
      have HJJ := Lib.hid hjj
      clear hjj hxx hyy hL hM hlt hi16 dt
      refine wpIn_region_rel (free_rd l') rfl 17 (fun W W' => Below W.heap.size W W') (fun W => Below W'.heap.size W' W)
        [Det (.slice (some ⟨gr, 0, none⟩) 32 c2), Det (.int .i64 (i : Int)), Det (.slice A n c), Det (.int .i64 (i : Int)), Det (.slice (some ⟨gr, 0, none⟩) 32 c2), Det (.int .i64 (i : Int)), Det (.int .i64 (L : Int)), Det (.pointer (some ⟨gr, L * 32, none⟩)), Det (.agg (arr8 xx)), Det (.slice (some ⟨gr, 0, none⟩) 32 c2), Det (.int .i64 (i : Int)), Det (.int .i64 (L : Int)), Det (.int .i64 (M : Int)), Det (.pointer (some ⟨gr, M * 32, none⟩)), Det (.agg (arr8 yy)), Det (.agg (arr8 jj)), Det (.pointer (some ⟨gr, i * 32, none⟩)), Any]
        [[], [], [], [], [], [], [(5, some 27)], [(4, some 26), (6, some 28)], [(7, some 29)], [], [], [(10, some 32)], [(11, some 33)], [(9, some 31), (12, some 34)], [(13, some 35)], [(2, some 24), (3, some 25), (8, some 30), (14, some 36)], [(0, some 22), (1, some 23)], [(16, some 38), (15, some 37)]]
        [[], [], [], [], [], [], [5], [4, 5, 6], [4, 5, 6, 7], [], [], [10], [10, 11], [9, 10, 11, 12], [9, 10, 11, 12, 13], [2, 3, 4, 5, 6, 7, 8, 9, 10, 11, 12, 13, 14], [0, 1, 2, 3, 4, 5, 6, 7, 8, 9, 10, 11, 12, 13, 14, 15], [0, 1, 2, 3, 4, 5, 6, 7, 8, 9, 10, 11, 12, 13, 14, 15, 16]]
        [(0, some 22), (1, some 23), (2, some 24), (3, some 25), (4, some 26), (5, some 27), (6, some 28), (7, some 29), (8, some 30), (9, some 31), (10, some 32), (11, some 33), (12, some 34), (13, some 35), (14, some 36), (15, some 37), (16, some 38), (17, none)] (by kernel_rfl) (by kernel_rfl) (by kernel_rfl) (fun W W' h1 h2 => h1.trans (h2.mono h1.size)) ((Below.refl _ _).drew) ?_ ?_ ?_
      · exact (AllMono.cons Det.later (AllMono.cons Det.later (AllMono.cons Det.later (AllMono.cons Det.later (AllMono.cons Det.later (AllMono.cons Det.later (AllMono.cons Det.later (AllMono.cons Det.later (AllMono.cons Det.later (AllMono.cons Det.later (AllMono.cons Det.later (AllMono.cons Det.later (AllMono.cons Det.later (AllMono.cons Det.later (AllMono.cons Det.later (AllMono.cons Det.later (AllMono.cons Det.later (AllMono.cons Any.later AllMono.nil))))))))))))))))))
      · refine AllOb.cons ?_ (AllOb.cons ?_ (AllOb.cons ?_ (AllOb.cons ?_ (AllOb.cons ?_ (AllOb.cons ?_ (AllOb.cons ?_ (AllOb.cons ?_ (AllOb.cons ?_ (AllOb.cons ?_ (AllOb.cons ?_ (AllOb.cons ?_ (AllOb.cons ?_ (AllOb.cons ?_ (AllOb.cons ?_ (AllOb.cons ?_ (AllOb.cons ?_ (AllOb.nil)))))))))))))))))
        · intro uF W hC' hU aF hF
          have hC : Below W'.heap.size W' W := hC'
          clear hC'
          simp only [puts] at hF
          subst hF
          have d1 : W.cell? ⟨gt, 0, none⟩ = some (.slice (some ⟨gr, 0, none⟩) 32 c2) := by rw [(HST.out.on hC).bt.cell]; rfl
          go_wp2_with (fail)
          exact ⟨rfl, rfl, (Below.refl _ _), rfl⟩
        · intro uF W hC' hU aF hF
          have hC : Below W'.heap.size W' W := hC'
          clear hC'
          simp only [puts] at hF
          subst hF
          go_wp2_with (fail)
          exact ⟨rfl, rfl, (Below.refl _ _), rfl⟩
        · intro uF W hC' hU aF hF
          have hC : Below W'.heap.size W' W := hC'
          clear hC'
          simp only [puts] at hF
          subst hF
          have d1 : W.cell? ⟨gk, 0, none⟩ = some (.slice A n c) := by rw [(HST.out.on hC).bk.cell]; rfl
          go_wp2_with (fail)
          exact ⟨rfl, rfl, (Below.refl _ _), rfl⟩
        · intro uF W hC' hU aF hF
          have hC : Below W'.heap.size W' W := hC'
          clear hC'
          simp only [puts] at hF
          subst hF
          go_wp2_with (fail)
          exact ⟨rfl, rfl, (Below.refl _ _), rfl⟩
        · intro uF W hC' hU aF hF
          have hC : Below W'.heap.size W' W := hC'
          clear hC'
          simp only [puts] at hF
          subst hF
          have d1 : W.cell? ⟨gt, 0, none⟩ = some (.slice (some ⟨gr, 0, none⟩) 32 c2) := by rw [(HST.out.on hC).bt.cell]; rfl
          go_wp2_with (fail)
          exact ⟨rfl, rfl, (Below.refl _ _), rfl⟩
        · intro uF W hC' hU aF hF
          have hC : Below W'.heap.size W' W := hC'
          clear hC'
          simp only [puts] at hF
          subst hF
          go_wp2_with (fail)
          exact ⟨rfl, rfl, (Below.refl _ _), rfl⟩
        · intro uF W hC' hU aF hF
          have hC : Below W'.heap.size W' W := hC'
          clear hC'
          have h27 : (Det (.int .i64 (i : Int))) (uF 5) W := hU.1
          clear hU
          simp only [puts, Act.put, List.setIfInBounds_toArray, List.set_cons_zero, List.set_cons_succ] at hF
          generalize uF 5 = x27 at h27 hF
          obtain rfl : x27 = (.int .i64 (i : Int)) := h27
          subst hF
          go_wp2_with (fail)
          exact ⟨rfl, rfl, (Below.refl _ _), rfl⟩
        · intro uF W hC' hU aF hF
          have hC : Below W'.heap.size W' W := hC'
          clear hC'
          have h26 : (Det (.slice (some ⟨gr, 0, none⟩) 32 c2)) (uF 4) W := hU.1
          have h28 : (Det (.int .i64 (L : Int))) (uF 6) W := hU.2.1
          clear hU
          simp only [puts, Act.put, List.setIfInBounds_toArray, List.set_cons_zero, List.set_cons_succ] at hF
          generalize uF 4 = x26 at h26 hF
          generalize uF 6 = x28 at h28 hF
          obtain rfl : x26 = (.slice (some ⟨gr, 0, none⟩) 32 c2) := h26
          obtain rfl : x28 = (.int .i64 (L : Int)) := h28
          subst hF
          go_wp2_with (fail)
          exact ⟨rfl, rfl, (Below.refl _ _), rfl⟩
        · intro uF W hC' hU aF hF
          have hC : Below W'.heap.size W' W := hC'
          clear hC'
          have h29 : (Det (.pointer (some ⟨gr, L * 32, none⟩))) (uF 7) W := hU.1
          clear hU
          simp only [puts, Act.put, List.setIfInBounds_toArray, List.set_cons_zero, List.set_cons_succ] at hF
          generalize uF 7 = x29 at h29 hF
          obtain rfl : x29 = (.pointer (some ⟨gr, L * 32, none⟩)) := h29
          subst hF
          go_wp2_with (((with_reducible show wpList _ _ _ (Oper.mk _ (Op.load 28 _) _ _ _ _ :: _) _ _); refine wpList_load_agg (by rfl) 28 (.tmp 29) rfl gr (L * 32) rfl (arr8 xx) agg44 (by rw [size_arr8, heL]) (fun j v hv => (hC.cell (show (⟨gr, L * 32 + j, none⟩ : Addr).block < W'.heap.size from hgr')).trans (dL.out j v hv)) ?_))
          exact ⟨rfl, rfl, (Below.refl _ _), rfl⟩
        · intro uF W hC' hU aF hF
          have hC : Below W'.heap.size W' W := hC'
          clear hC'
          simp only [puts] at hF
          subst hF
          have d1 : W.cell? ⟨gt, 0, none⟩ = some (.slice (some ⟨gr, 0, none⟩) 32 c2) := by rw [(HST.out.on hC).bt.cell]; rfl
          go_wp2_with (fail)
          exact ⟨rfl, rfl, (Below.refl _ _), rfl⟩
        · intro uF W hC' hU aF hF
          have hC : Below W'.heap.size W' W := hC'
          clear hC'
          simp only [puts] at hF
          subst hF
          go_wp2_with (fail)
          exact ⟨rfl, rfl, (Below.refl _ _), rfl⟩
        · intro uF W hC' hU aF hF
          have hC : Below W'.heap.size W' W := hC'
          clear hC'
          have h32 : (Det (.int .i64 (i : Int))) (uF 10) W := hU.1
          clear hU
          simp only [puts, Act.put, List.setIfInBounds_toArray, List.set_cons_zero, List.set_cons_succ] at hF
          generalize uF 10 = x32 at h32 hF
          obtain rfl : x32 = (.int .i64 (i : Int)) := h32
          subst hF
          go_wp2_with (fail)
          exact ⟨rfl, rfl, (Below.refl _ _), rfl⟩
        · intro uF W hC' hU aF hF
          have hC : Below W'.heap.size W' W := hC'
          clear hC'
          have h33 : (Det (.int .i64 (L : Int))) (uF 11) W := hU.1
          clear hU
          simp only [puts, Act.put, List.setIfInBounds_toArray, List.set_cons_zero, List.set_cons_succ] at hF
          generalize uF 11 = x33 at h33 hF
          obtain rfl : x33 = (.int .i64 (L : Int)) := h33
          subst hF
          go_wp2_with (fail)
          exact ⟨rfl, rfl, (Below.refl _ _), rfl⟩
        · intro uF W hC' hU aF hF
          have hC : Below W'.heap.size W' W := hC'
          clear hC'
          have h31 : (Det (.slice (some ⟨gr, 0, none⟩) 32 c2)) (uF 9) W := hU.1
          have h34 : (Det (.int .i64 (M : Int))) (uF 12) W := hU.2.1
          clear hU
          simp only [puts, Act.put, List.setIfInBounds_toArray, List.set_cons_zero, List.set_cons_succ] at hF
          generalize uF 9 = x31 at h31 hF
          generalize uF 12 = x34 at h34 hF
          obtain rfl : x31 = (.slice (some ⟨gr, 0, none⟩) 32 c2) := h31
          obtain rfl : x34 = (.int .i64 (M : Int)) := h34
          subst hF
          go_wp2_with (fail)
          exact ⟨rfl, rfl, (Below.refl _ _), rfl⟩
        · intro uF W hC' hU aF hF
          have hC : Below W'.heap.size W' W := hC'
          clear hC'
          have h35 : (Det (.pointer (some ⟨gr, M * 32, none⟩))) (uF 13) W := hU.1
          clear hU
          simp only [puts, Act.put, List.setIfInBounds_toArray, List.set_cons_zero, List.set_cons_succ] at hF
          generalize uF 13 = x35 at h35 hF
          obtain rfl : x35 = (.pointer (some ⟨gr, M * 32, none⟩)) := h35
          subst hF
          go_wp2_with (((with_reducible show wpList _ _ _ (Oper.mk _ (Op.load 28 _) _ _ _ _ :: _) _ _); refine wpList_load_agg (by rfl) 28 (.tmp 35) rfl gr (M * 32) rfl (arr8 yy) agg44 (by rw [size_arr8, heM]) (fun j v hv => (hC.cell (show (⟨gr, M * 32 + j, none⟩ : Addr).block < W'.heap.size from hgr')).trans (dM.out j v hv)) ?_))
          exact ⟨rfl, rfl, (Below.refl _ _), rfl⟩
        · intro uF W hC' hU aF hF
          have hC : Below W'.heap.size W' W := hC'
          clear hC'
          have h24 : (Det (.slice A n c)) (uF 2) W := hU.1
          have h25 : (Det (.int .i64 (i : Int))) (uF 3) W := hU.2.1
          have h30 : (Det (.agg (arr8 xx))) (uF 8) W := hU.2.2.1
          have h36 : (Det (.agg (arr8 yy))) (uF 14) W := hU.2.2.2.1
          clear hU
          simp only [puts, Act.put, List.setIfInBounds_toArray, List.set_cons_zero, List.set_cons_succ] at hF
          generalize uF 2 = x24 at h24 hF
          generalize uF 3 = x25 at h25 hF
          generalize uF 8 = x30 at h30 hF
          generalize uF 14 = x36 at h36 hF
          obtain rfl : x24 = (.slice A n c) := h24
          obtain rfl : x25 = (.int .i64 (i : Int)) := h25
          obtain rfl : x30 = (.agg (arr8 xx)) := h30
          obtain rfl : x36 = (.agg (arr8 yy)) := h36
          subst hF
          go_wp2_with ((go_at_call 28; refine (node_c (HK.out.below ((HST.out.on hC).below.mono hB)) (Nat.le_trans hB (HST.out.on hC).below.size) hn (i : Int) xx yy heL heM).mono ?_; rintro e W1 ⟨rfl, hb⟩; rw [← HJJ.out]))
          exact ⟨rfl, rfl, hb, rfl⟩
        · intro uF W hC' hU aF hF
          have hC : Below W'.heap.size W' W := hC'
          clear hC'
          have h22 : (Det (.slice (some ⟨gr, 0, none⟩) 32 c2)) (uF 0) W := hU.1
          have h23 : (Det (.int .i64 (i : Int))) (uF 1) W := hU.2.1
          clear hU
          simp only [puts, Act.put, List.setIfInBounds_toArray, List.set_cons_zero, List.set_cons_succ] at hF
          generalize uF 0 = x22 at h22 hF
          generalize uF 1 = x23 at h23 hF
          obtain rfl : x22 = (.slice (some ⟨gr, 0, none⟩) 32 c2) := h22
          obtain rfl : x23 = (.int .i64 (i : Int)) := h23
          subst hF
          go_wp2_with (fail)
          exact ⟨rfl, rfl, (Below.refl _ _), rfl⟩
      intro uF W5 hC' hU aF hF
      have hCW5 : Below W'.heap.size W' W5 := hC'
      clear hC'
      have h37 : (Det (.agg (arr8 jj))) (uF 15) W5 := hU.2.2.2.2.2.2.2.2.2.2.2.2.2.2.2.1
      have h38 : (Det (.pointer (some ⟨gr, i * 32, none⟩))) (uF 16) W5 := hU.2.2.2.2.2.2.2.2.2.2.2.2.2.2.2.2.1
      clear hU
      simp only [List.take_succ_cons, List.take_zero, puts, Act.put, List.setIfInBounds_toArray, List.set_cons_zero, List.set_cons_succ] at hF
      generalize uF 0 = x22 at hF
      generalize uF 1 = x23 at hF
      generalize uF 2 = x24 at hF
      generalize uF 3 = x25 at hF
      generalize uF 4 = x26 at hF
      generalize uF 5 = x27 at hF
      generalize uF 6 = x28 at hF
      generalize uF 7 = x29 at hF
      generalize uF 8 = x30 at hF
      generalize uF 9 = x31 at hF
      generalize uF 10 = x32 at hF
      generalize uF 11 = x33 at hF
      generalize uF 12 = x34 at hF
      generalize uF 13 = x35 at hF
      generalize uF 14 = x36 at hF
      generalize uF 15 = x37 at h37 hF
      generalize uF 16 = x38 at h38 hF
      obtain rfl : x37 = (.agg (arr8 jj)) := h37
      obtain rfl : x38 = (.pointer (some ⟨gr, i * 32, none⟩)) := h38
      subst hF
      simp only [List.drop_succ_cons, List.drop_zero]
      refine wpListIn_of (free_rd l') (fun ⟨_, _, h⟩ => h) rfl ?_
      refine wpList_storeS rfl 28 (.tmp 38) (.tmp 37) rfl gr i rfl jj rfl agg44 hlj (OwS.below HST.out.row hCW5) (by omega) ?_
      intro w6 h6 hg6 hs6
      refine wpList_nil ?_
      obtain ⟨s7, k7⟩ := HF.out w6 jj h6 HJE.out (grownBy_trans (grownBy_of_below hCW5) hg6)
      exact ⟨O', k7, by simp only [HPL.out]; exact s7⟩
  · rintro D O' ys W' hD hys st hK
    have h5 : ys.length = 5 := by rw [hys, len_upTo]; exact if_pos HB.out
    rw [h5] at st
    have d9 : W'.cell? ⟨gt, 0, none⟩ = some (.slice (some ⟨gr, 0, none⟩) 32 c2) := by rw [st.bt.cell]; rfl
    have HST := Lib.hid st
    have HKK := Lib.hid hK
    clear st hK hys
    go_wp2_with fail
    refine ⟨by simp, .inl ⟨_, _, rfl, run_takeDeferred HKK.out, ?_⟩⟩
    have hc := calm_putObj (B := w.heap.size) (.deferred none) (Nat.le_trans hz4 hD) HKK.out rfl
    refine ⟨_, results_tmp rfl _ _ _, ⟨gr, c2, rfl, ?_, ?_⟩⟩
    · exact hc.row HST.out.row
    · exact hc.below HST.out.below (Nat.le_refl _) (Nat.le_refl _)
  · rintro D c pre W' hD _ h
    exact h.elim
end Go.Proofs.Ytdifepfplfkfoaa

