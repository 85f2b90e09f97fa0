/-
  The reference's Node and Build.
-/
import Derived.Test.YtbjiokjmidipaaaBuild
namespace Go.Proofs.Ytbjiokjmidipaaa
open Go.RowKit
set_option linter.unusedVariables false
set_option linter.unusedSimpArgs false
set_option maxRecDepth 100000

set_option maxHeartbeats 4000000 in
theorem refnode_c {w0 : World} {B B' : Nat} {A A' : Option Addr} {n c c' : Nat} {key leaves : List UInt8} (hk : SlB w0 B A n c key) (hB : B ≤ w0.heap.size) (hn : n ≤ 1099511627776) (hl : SlS w0 B' A' 16 c' leaves) (hB' : B' ≤ w0.heap.size) :
    ∀ (d i : Nat), 32 ≤ i + d → i < 32 → ∀ (w : World), Below w0.heap.size w0 w →
    Calls Try.prog 52 #[.slice A n c, .slice A' 16 c', .int .i64 (i : Int)] w fun e w' => e = .returned (.agg (arr8 (elt (buildT key leaves) i))) ∧ Below w.heap.size w w' := by
  have hll : leaves.length = 16 * 32 := hl.len
  have HK := Lib.hid hk
  have HL := Lib.hid hl
  have HLL := Lib.hid hll
  clear hk hl hll
  intro d
  induction d with
  | zero => intro i h1 h2; omega
  | succ d ih =>
    intro i hid hi32 w hw0
    have IH := Lib.hid ih
    have hzw := hw0.size
    have b6 := Blk.new w 40 (arr8 (z8' 32))
    have hb0 := below_alloc w (.cells (arr8 (z8' 32)) 40)
    obtain ⟨v, hv⟩ : ∃ v, v = w.alloc (.cells (arr8 (z8' 32)) 40) := ⟨_, rfl⟩
    rw [← hv] at b6 hb0
    have hz0 := hb0.size
    have HV := Lib.hid hv
    have hw0v := hw0.trans (hb0.mono hzw)
    clear hv ih
    have hiz : (i : Int) < 32 := by omega
    have hi00 : (0 : Int) ≤ (i : Int) := by omega
    by_cases h0 : i < 1
    · obtain rfl : i = 0 := by omega
      rw [build_zero HLL.out]
      have hii : ((0 : Nat) : Int) < 1 := by omega
      go_enter Try.func52, Try.ntmps52
      go_wp2_with (first
        | ((with_reducible show wpList _ _ _ (Oper.mk _ (Op.alloc 40) _ _ _ _ :: _) _ _); refine wpList_alloc_agg rfl 40 rfl (arr8 (z8' 32)) zero44 ?_; rw [← HV.out])
        | ((with_reducible show wpList _ _ _ (Oper.mk _ (Op.build 40 _) _ _ _ _ :: _) _ _); refine wpList_build (by rfl) 40 _ rfl #[] (by simp only [List.map_toArray, List.map_nil]) _ (build44 _) ?_)
        | ((with_reducible show wpList _ _ _ (Oper.mk none (Op.store 40 _ _) _ _ _ _ :: _) _ _); refine wpList_store8 rfl 40 (.tmp 6) (.tmp 9) rfl w.heap.size rfl noS rfl agg44 len_noS _ _ b6 (by rw [size_arr8, len_z8']) ?_; intro w4 hb4 hg4 hs4))
      refine bodyPost_ret (results_cell_one rfl _ w.heap.size _ (arr8 noS) agg44 (by rw [size_arr8, len_noS]) rfl hb4) rfl ⟨rfl, ?_⟩
      exact hb0.grown hg4 hz0 (fun k hk => by cases hk; exact Nat.le_refl _)
    · have hii : ¬ (i : Int) < 1 := by omega
      by_cases h16 : 16 ≤ i
      · obtain ⟨j, hj⟩ : ∃ j, i = 16 + j := ⟨i - 16, by omega⟩
        have hij : (16 : Int) ≤ (i : Int) := by omega
        have hjj : (i : Int) - 16 = (j : Int) := by omega
        have hj16 : (j : Int) < 16 := by omega
        have hj0 : (0 : Int) ≤ (j : Int) := by omega
        have he : elt (buildT key leaves) i = elt leaves j := by rw [hj, build_leaf HLL.out (by omega)]
        rw [he]
        obtain ⟨x, hx⟩ : ∃ x, x = elt leaves j := ⟨_, rfl⟩
        have hlx : x.length = 32 := by rw [hx, len_elt HLL.out (by omega)]
        have hl1 := (HL.out.below (hw0v.mono hB'))
        obtain ⟨bb, off, rfl, hbB, hcl⟩ := hl1.at_ (by have := hl1.le; omega)
        have dj := Lib.hid (hcl j (by omega))
        rw [← hx] at dj ⊢
        clear hcl hx hl1 he hj
        go_enter Try.func52, Try.ntmps52
        go_wp2_with (first
          | ((with_reducible show wpList _ _ _ (Oper.mk _ (Op.alloc 40) _ _ _ _ :: _) _ _); refine wpList_alloc_agg rfl 40 rfl (arr8 (z8' 32)) zero44 ?_; rw [← HV.out])
          | ((with_reducible show wpList _ _ _ (Oper.mk _ (Op.load 40 (.tmp 15)) _ _ _ _ :: _) _ _); refine wpList_load_agg rfl 40 (.tmp 15) rfl bb (off + j * 32) rfl (arr8 x) agg44 (by rw [size_arr8, hlx]) dj.out ?_)
          | ((with_reducible show wpList _ _ _ (Oper.mk none (Op.store 40 _ _) _ _ _ _ :: _) _ _); refine wpList_store8 rfl 40 (.tmp 6) (.tmp 16) rfl w.heap.size rfl x rfl agg44 hlx _ _ b6 (by rw [size_arr8, len_z8']) ?_; intro w4 hb4 hg4 hs4))
        refine bodyPost_ret (results_cell_one rfl _ w.heap.size _ (arr8 x) agg44 (by rw [size_arr8, hlx]) rfl hb4) rfl ⟨rfl, ?_⟩
        exact hb0.grown hg4 hz0 (fun k hk => by cases hk; exact Nat.le_refl _)
      · have hij : ¬ (16 : Int) ≤ (i : Int) := by omega
        obtain ⟨L, hL⟩ : ∃ L, L = 2 * i := ⟨_, rfl⟩
        obtain ⟨M, hM⟩ : ∃ M, M = 2 * i + 1 := ⟨_, rfl⟩
        have hLi : 2 * (i : Int) = (L : Int) := by omega
        have hMi : (L : Int) + 1 = (M : Int) := by omega
        have hL32 : (L : Int) < 32 := by omega
        have hM32 : (M : Int) < 32 := by omega
        have hL0 : (0 : Int) ≤ (L : Int) := by omega
        have hM0 : (0 : Int) ≤ (M : Int) := by omega
        have he := build_node (key := key) HLL.out (i := i) (by omega) (by omega)
        rw [← hM, ← hL] at he
        have hlx := len_elt (len_buildT (key := key) HLL.out) (i := L) (by omega)
        have hly := len_elt (len_buildT (key := key) HLL.out) (i := M) (by omega)
        have hlj := len_joinOf key (i : Int) (elt (buildT key leaves) L) (elt (buildT key leaves) M)
        rw [he]
        obtain ⟨x, hx⟩ : ∃ x, x = elt (buildT key leaves) L := ⟨_, rfl⟩
        obtain ⟨y, hy⟩ : ∃ y, y = elt (buildT key leaves) M := ⟨_, rfl⟩
        have HX := Lib.hid hx
        have HY := Lib.hid hy
        rw [← hx, ← hy] at hlj ⊢
        rw [← hx] at hlx
        rw [← hy] at hly
        obtain ⟨jj, hjj⟩ : ∃ jj, jj = joinOf key (i : Int) x y := ⟨_, rfl⟩
        rw [← hjj] at hlj ⊢
        have HJ := Lib.hid hjj
        have hL1 : L < 32 ∧ 32 ≤ L + d := by omega
        have hM1 : M < 32 ∧ 32 ≤ M + d := by omega
        clear hx hy hjj he hL hM
        go_enter Try.func52, Try.ntmps52
        go_wp2_with (first
          | ((with_reducible show wpList _ _ _ (Oper.mk _ (Op.alloc 40) _ _ _ _ :: _) _ _); refine wpList_alloc_agg rfl 40 rfl (arr8 (z8' 32)) zero44 ?_; rw [← HV.out])
          | (go_at_call 52; (with_reducible show Calls _ _ #[.slice A n c, .slice A' 16 c', .int .i64 (L : Int)] v _); refine (IH.out L hL1.2 hL1.1 v hw0v).mono ?_; rintro e v2 ⟨rfl, hb2⟩; rw [← HX.out]; have hv2 := hb0.trans (hb2.mono hz0); have hw02 := hw0.trans (hv2.mono hzw); have hz2 := hb2.size)
          | (go_at_call 52; (with_reducible show Calls _ _ #[.slice A n c, .slice A' 16 c', .int .i64 (M : Int)] v2 _); refine (IH.out M hM1.2 hM1.1 v2 hw02).mono ?_; rintro e v3 ⟨rfl, hb3⟩; rw [← HY.out]; have hv3 := hb2.trans (hb3.mono hz2); have hw03 := hw0v.trans (hv3.mono hw0v.size))
          | (go_at_call 56; refine (refjoin_c (HK.out.below (hw03.mono hB)) (Nat.le_trans hB hw03.size) hn (i : Int) x y hlx hly).mono ?_; rintro e v4 ⟨rfl, hb4⟩; rw [← HJ.out]; have hv4 := hv3.trans (hb4.mono hv3.size); have b64 := b6.below hv4 b6.lt; have hw4 := hb0.trans (hv4.mono hz0))
          | ((with_reducible show wpList _ _ _ (Oper.mk none (Op.store 40 _ _) _ _ _ _ :: _) _ _); refine wpList_store8 rfl 40 (.tmp 6) (.tmp 30) rfl w.heap.size rfl jj rfl agg44 hlj _ _ b64 (by rw [size_arr8, len_z8']) ?_; intro w5 hb5 hg5 hs5))
        refine bodyPost_ret (results_cell_one rfl _ w.heap.size _ (arr8 jj) agg44 (by rw [size_arr8, hlj]) rfl hb5) rfl ⟨rfl, ?_⟩
        exact hw4.grown hg5 hw4.size (fun k hk => by cases hk; exact Nat.le_refl _)

/-- The first i digests of a tree. -/
theorem take_elt {xs : List UInt8} {n : Nat} (h : xs.length = n * 32) {i : Nat} (hi : i < n) : xs.take (32 * (i + 1)) = xs.take (32 * i) ++ elt xs i := by
  rw [elt, Nat.mul_add, Nat.mul_one, List.take_add]

set_option maxHeartbeats 2000000 in
theorem refbuild_c {w : World} {B B' : Nat} {A A' : Option Addr} {n c c' : Nat} {key leaves : List UInt8} (hk : SlB w B A n c key) (hB : B ≤ w.heap.size) (hn : n ≤ 1099511627776) (hl : SlS w B' A' 16 c' leaves) (hB' : B' ≤ w.heap.size) :
    Calls Try.prog 23 #[.slice A n c, .slice A' 16 c'] w fun e w' => ∃ A2 c2, e = .returned (.slice A2 32 c2) ∧ OwS w' w.heap.size A2 32 c2 (buildT key leaves) ∧ Below w.heap.size w w' := by
  have hlen := len_buildT (key := key) hl.len
  have hnode := refnode_c hk hB hn hl hB' 32
  have HN := Lib.hid hnode
  have n0 : OwS w w.heap.size none 0 0 [] := Row.nil _ _ _ _ _
  clear hk hl hnode
  obtain ⟨xs, hxs⟩ : ∃ xs, xs = buildT key leaves := ⟨_, rfl⟩
  rw [← hxs] at hlen ⊢
  have HX := Lib.hid hxs
  clear hxs
  go_enter Try.func23, Try.ntmps23
  go_wp2_with fail
  go_loopw [5, 6] (fun v5 v6 wr => ∃ (i : Nat) (A5 : Option Addr) (c5 : Nat), i ≤ 32 ∧ v6 = .int .i64 (i : Int) ∧ v5 = .slice A5 i c5 ∧ OwS wr w.heap.size A5 i c5 (xs.take (32 * i)) ∧ Below w.heap.size w wr) (fun _ v6 _ => 32 - (intOf v6).toNat)
  case atStart => exact ⟨0, none, 0, by omega, rfl, rfl, by simpa using n0, Below.refl _ _⟩
  case round =>
    clear n0
    obtain ⟨i, A5, c5, hi, rfl, rfl, h5, hw⟩ := hrel
    have hz := hw.size
    by_cases hlt : i < 32
    · have hii : (i : Int) < 32 := by omega
      have hle := len_elt hlen hlt
      have htk := take_elt hlen hlt
      obtain ⟨x, hx⟩ : ∃ x, x = elt xs i := ⟨_, rfl⟩
      rw [← hx] at hle htk
      have HE := Lib.hid hx
      have HT := Lib.hid htk
      have H5 := Lib.hid h5
      have HW := Lib.hid hw
      clear hx htk h5 hw
      go_wp2_with (first
        | (go_at_call 52; refine (HN.out i (by omega) hlt wr HW.out).mono ?_; rintro e v2 ⟨rfl, hb2⟩; rw [← HX.out, ← HE.out]; have hw2 := HW.out.trans (hb2.mono hz); have hz2 := hw2.size; have h52 := OwS.below H5.out hb2; have o2 := SlS.one hle (w := v2) (B := (v2.alloc (.cells (arr8 x) 40)).heap.size) (by simp); have h53 := Row.alloc h52 (.cells (arr8 x) 40))
        | ((with_reducible show wpList _ _ _ (Oper.mk (some 16) (Op.buildSlice _ _ _) _ _ _ _ :: _) _ _); refine wpList_one_row (by rfl) 27 (.tmp 15) rfl Try.underlying27 agg44.2 zero44 (by rfl) (by omega) (by omega) (arr8 x) rfl (by rw [size_arr8, hle]) ?_)
        | (at_builtin; refine wpList_appendS rfl (.tmp 11) (.tmp 16) rfl rfl h53 rfl o2 (by omega) (Nat.le_trans hz2 (by simp)) (i + 1) rfl ?_; intro A4 c4 v4 h4 q4; have hw4 : Below w.heap.size w v4 := q4.below h53 (hw2.alloc hz2 _) (Nat.le_refl _) (Nat.le_trans hz2 (by simp))))
      exact ⟨⟨i + 1, A4, c4, by omega, by go_num, rfl, by rw [HT.out]; exact h4, hw4⟩, by simp [intOf]; omega⟩
    · obtain rfl : i = 32 := by omega
      have hii : ¬ ((32 : Nat) : Int) < 32 := by omega
      rw [List.take_of_length_le (by omega)] at h5
      go_wp2_with fail
      go_ret
      exact ⟨A5, c5, rfl, h5, hw⟩
end Go.Proofs.Ytbjiokjmidipaaa
