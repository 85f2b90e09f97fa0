/-
  tree: a block's tag, the tag over two children; the reference's.
-/
import Derived.Test.YtdifepfplfkfoaaTagUse
namespace Go.Proofs.Ytdifepfplfkfoaa
open Go.RowKit
set_option linter.unusedVariables false
set_option linter.unusedSimpArgs false
set_option maxRecDepth 100000

/-- A number's low byte. -/
def lowB (a : Int) : UInt8 := UInt8.ofNat (a % 256).toNat
theorem b8_lowB (a : Int) : Value.int .u8 (a % 256) = b8 (lowB a) := by
  rw [b8_def, lowB, UInt8.toNat_ofNat']
  congr 1
  omega
def noS : List UInt8 := z8' 32
theorem len_noS : noS.length = 32 := len_z8' 32
def leafOf (key : List UInt8) (block : Int) (c : List UInt8) : List UInt8 := hmac key ([1, lowB block] ++ c)
theorem len_leafOf (key : List UInt8) (block : Int) (c : List UInt8) : (leafOf key block c).length = 32 := len_hmac _ _
/-- The tag over two children: noughts over noughts. -/
def joinOf (key : List UInt8) (i : Int) (a b : List UInt8) : List UInt8 := if a = noS ∧ b = noS then noS else hmac key ([2, lowB i] ++ (a ++ b))
theorem len_joinOf (key : List UInt8) (i : Int) (a b : List UInt8) : (joinOf key i a b).length = 32 := by
  unfold joinOf; split
  · exact len_noS
  · exact len_hmac _ _
theorem joinOf_none (key : List UInt8) (i : Int) : joinOf key i noS noS = noS := if_pos ⟨rfl, rfl⟩
theorem agg128 : AggT Try.prog 34 128 := ⟨⟨_, Try.underlying34, rfl⟩, by kernel_rfl⟩
theorem zero128 : (Try.prog.info? 34).bind (·.zero) = some (.agg (arr8 (z8' 128))) := by kernel_rfl
theorem build44 (w : World) : (Instr.build 28 #[]).run Try.prog w = .ok (.agg (arr8 noS)) w := by kernel_rfl
theorem cell_sl {w : World} {g : Nat} {t : TypeId} {bs : List UInt8} (hb : Blk w g t (arr8 bs)) (hl : bs.length = 128) : SlB w w.heap.size (some ⟨g, 0, none⟩) 128 128 bs := by
  have := SlB.ofBlk hb (lo := 0) (hi := 128) (c := 128) (B := w.heap.size) (by omega) (by omega) (by omega) (by simp [maxLen]) hb.lt
  rwa [List.drop_zero, List.take_of_length_le (by omega)] at this

set_option maxHeartbeats 1000000 in
theorem leaf_c {w : World} {B : Nat} {A : Option Addr} {n c : Nat} {key : List UInt8} (hk : SlB w B A n c key) (hB : B ≤ w.heap.size) (hn : n ≤ 1099511627776) (block : Int) (cs : List UInt8) (hc : cs.length = 128) :
    Calls Try.prog 12 #[.slice A n c, .int .i64 block, .agg (arr8 cs)] w fun e w' => e = .returned (.agg (arr8 (leafOf key block cs))) ∧ Below w.heap.size w w' := by
  have b5 := (Blk.new w 34 (arr8 cs)).alloc (.cells (arr8 (z8' 32)) 28)
  have b6 := Blk.new (w.alloc (.cells (arr8 cs) 34)) 28 (arr8 (z8' 32))
  rw [World.size_alloc] at b6
  have hb0 : Below w.heap.size w ((w.alloc (.cells (arr8 cs) 34)).alloc (.cells (arr8 (z8' 32)) 28)) := ((Below.refl _ _).alloc (Nat.le_refl _) _).alloc (by simp) _
  obtain ⟨v, hv⟩ : ∃ v, v = (w.alloc (.cells (arr8 cs) 34)).alloc (.cells (arr8 (z8' 32)) 28) := ⟨_, rfl⟩
  rw [← hv] at b5 b6 hb0
  have hz0 := hb0.size
  have HV := Lib.hid hv
  have hx0 := b8_lowB block
  have r1 : SlB (v.alloc (.cells #[.int .u8 1, .int .u8 (block % 256)] 5)) (v.alloc (.cells #[.int .u8 1, .int .u8 (block % 256)] 5)).heap.size (some ⟨v.heap.size, 0, none⟩) 2 2 [1, lowB block] := SlB.new v _ [1, lowB block] 2 (by simp) rfl (by simp [maxLen]) (by rw [hx0]; rfl)
  have hvv := below_alloc v (.cells #[.int .u8 1, .int .u8 (block % 256)] 5)
  have hp := RelP.two r1 (cell_sl (b5.below hvv b5.lt) hc)
  have hfl : ([[1, lowB block], cs] : List (List UInt8)).flatten = [1, lowB block] ++ cs := by simp
  have hlen : ([[1, lowB block], cs] : List (List UInt8)).flatten.length ≤ 1099511627000 := by rw [hfl, List.length_append, hc]; simp
  have hall := arr_all_run (P := Try.prog) (T := 34) Try.underlying34 size1 (by omega) w.heap.size
  obtain ⟨v1, hv1⟩ : ∃ v1, v1 = v.alloc (.cells #[.int .u8 1, .int .u8 (block % 256)] 5) := ⟨_, rfl⟩
  rw [← hv1] at r1 hvv hp
  have h12 := below_alloc v1 (.cells #[.slice (some ⟨v.heap.size, 0, none⟩) 2 2, .slice (some ⟨w.heap.size, 0, none⟩) 128 128] 22)
  have hv2 := hvv.trans (h12.mono hvv.size)
  have h02 := hb0.trans (hv2.mono hz0)
  have HV1 := Lib.hid hv1
  have HZ1 := Lib.hid (show v.heap.size + 1 = v1.heap.size by rw [hv1, World.size_alloc])
  have HP := Lib.hid hp
  have HK := Lib.hid (hk.below (h02.mono hB))
  have HSZ := h02.size
  clear hv hv1 hk hp r1 hx0
  go_enter Try.func12, Try.ntmps12
  go_wp2_with (first
    | ((with_reducible show wpList _ _ _ (Oper.mk _ (Op.alloc 28) _ _ _ _ :: _) _ _); refine wpList_alloc_agg rfl 28 rfl (arr8 (z8' 32)) zero44 ?_; rw [World.size_alloc, ← HV.out])
    | (go_at_call 30; rw [← HV1.out, HZ1.out]; refine (tag_p HK.out (Nat.le_trans hB HSZ) hn HP.out hlen (by omega)).mono ?_; rintro e w3 ⟨rfl, hb3⟩; have h23 := hv2.trans (hb3.mono hv2.size); have h03 := hb0.trans (h23.mono hz0); have b63 := b6.below h23 b6.lt; rw [hfl])
    | ((with_reducible show wpList _ _ _ (Oper.mk none (Op.store 28 _ _) _ _ _ _ :: _) _ _); refine wpList_store8 rfl 28 (.tmp 6) (.tmp 13) rfl (w.heap.size + 1) rfl (leafOf key block cs) rfl agg44 (len_leafOf _ _ _) _ _ b63 (by rw [size_arr8, len_z8']) ?_; intro w4 hb4 hg4 hs4))
  refine bodyPost_ret (results_cell_one rfl _ (w.heap.size + 1) _ (arr8 (leafOf key block cs)) agg44 (by rw [size_arr8, len_leafOf]) rfl hb4) rfl ⟨rfl, ?_⟩
  exact h03.grown hg4 h03.size (fun k hk => by cases hk; omega)

set_option maxHeartbeats 1000000 in
theorem refleaf_c {w : World} {B : Nat} {A : Option Addr} {n c : Nat} {key : List UInt8} (hk : SlB w B A n c key) (hB : B ≤ w.heap.size) (hn : n ≤ 1099511627776) (block : Int) (cs : List UInt8) (hc : cs.length = 128) :
    Calls Try.prog 13 #[.slice A n c, .int .i64 block, .agg (arr8 cs)] w fun e w' => e = .returned (.agg (arr8 (leafOf key block cs))) ∧ Below w.heap.size w w' := by
  have b5 := (Blk.new w 34 (arr8 cs)).alloc (.cells (arr8 (z8' 32)) 28)
  have b6 := Blk.new (w.alloc (.cells (arr8 cs) 34)) 28 (arr8 (z8' 32))
  rw [World.size_alloc] at b6
  have hb0 : Below w.heap.size w ((w.alloc (.cells (arr8 cs) 34)).alloc (.cells (arr8 (z8' 32)) 28)) := ((Below.refl _ _).alloc (Nat.le_refl _) _).alloc (by simp) _
  obtain ⟨v, hv⟩ : ∃ v, v = (w.alloc (.cells (arr8 cs) 34)).alloc (.cells (arr8 (z8' 32)) 28) := ⟨_, rfl⟩
  rw [← hv] at b5 b6 hb0
  have hz0 := hb0.size
  have HV := Lib.hid hv
  have hx0 := b8_lowB block
  have h0 : OwB (v.alloc (.cells #[.int .u8 1, .int .u8 (block % 256)] 5)) v.heap.size (some ⟨v.heap.size, 0, none⟩) 2 2 [1, lowB block] := OwB.lit v v.heap.size _ [1, lowB block] 2 (Nat.le_refl _) rfl (by simp [maxLen]) (by rw [hx0]; rfl)
  have hal := below_alloc v (.cells #[.int .u8 1, .int .u8 (block % 256)] 5)
  have hs1 := cell_sl (b5.below hal b5.lt) hc
  have hall := arr_all_run (P := Try.prog) (T := 34) Try.underlying34 size1 (by omega) w.heap.size
  have H0 := Lib.hid h0
  have HS1 := Lib.hid hs1
  have HK := Lib.hid (hk.below (hb0.mono hB))
  clear hv hk h0 hs1 hx0
  go_enter Try.func13, Try.ntmps13
  go_wp2_with (first
    | ((with_reducible show wpList _ _ _ (Oper.mk _ (Op.alloc 28) _ _ _ _ :: _) _ _); refine wpList_alloc_agg rfl 28 rfl (arr8 (z8' 32)) zero44 ?_; rw [World.size_alloc, ← HV.out])
    | (at_builtin; refine wpList_append8 rfl (.tmp 10) (.tmp 11) rfl rfl H0.out rfl HS1.out (by omega) (by simp) 130 rfl ?_; intro A2 c2 v2 h2 q2; have hb2 : Below v.heap.size v v2 := q2.below H0.out hal (Nat.le_refl _) (by simp); have hz2 := hb2.size)
    | (go_at_call 31; refine (reftag_c (HK.out.below (hb2.mono (Nat.le_trans hB hz0))) (Nat.le_trans hB (Nat.le_trans hz0 hz2)) hn (Row.sl h2) (Nat.le_refl _) (by omega)).mono ?_; rintro e v4 ⟨rfl, hb4⟩; have b64 := b6.below (hb2.trans (hb4.mono hz2)) b6.lt; have hw4 := hb0.trans ((hb2.trans (hb4.mono hz2)).mono hz0))
    | ((with_reducible show wpList _ _ _ (Oper.mk none (Op.store 28 _ _) _ _ _ _ :: _) _ _); refine wpList_store8 rfl 28 (.tmp 6) (.tmp 13) rfl (w.heap.size + 1) rfl (leafOf key block cs) rfl agg44 (len_leafOf _ _ _) _ _ b64 (by rw [size_arr8, len_z8']) ?_; intro w4 hb4' hg4 hs4))
  refine bodyPost_ret (results_cell_one rfl _ (w.heap.size + 1) _ (arr8 (leafOf key block cs)) agg44 (by rw [size_arr8, len_leafOf]) rfl hb4') rfl ⟨rfl, ?_⟩
  exact hw4.grown hg4 hw4.size (fun k hk => by cases hk; omega)

theorem eq_noS (a : List UInt8) (ha : a.length = 32) (r : Bool) (hr : (a == noS) = r) (w : World) : (Op.equalIn 10000 28 (.agg (arr8 a)) (.agg (arr8 noS))).run Try.prog w = .ok r w := eq44 a noS ha len_noS r hr w

set_option maxHeartbeats 4000000 in
theorem node_c {w : World} {B : Nat} {A : Option Addr} {n c : Nat} {key : List UInt8} (hk : SlB w B A n c key) (hB : B ≤ w.heap.size) (hn : n ≤ 1099511627776) (i : Int) (a b : List UInt8) (ha : a.length = 32) (hb : b.length = 32) :
    Calls Try.prog 28 #[.slice A n c, .int .i64 i, .agg (arr8 a), .agg (arr8 b)] w fun e w' => e = .returned (.agg (arr8 (joinOf key i a b))) ∧ Below w.heap.size w w' := by
  obtain ⟨g6, hg6⟩ : ∃ g, g = w.heap.size := ⟨_, rfl⟩
  obtain ⟨g7, hg7⟩ : ∃ g, g = w.heap.size + 1 := ⟨_, rfl⟩
  obtain ⟨g8, hg8⟩ : ∃ g, g = w.heap.size + 1 + 1 := ⟨_, rfl⟩
  obtain ⟨g9, hg9⟩ : ∃ g, g = w.heap.size + 1 + 1 + 1 := ⟨_, rfl⟩
  obtain ⟨v, hv⟩ : ∃ v, v = ((w.alloc (.cells (arr8 a) 28)).alloc (.cells (arr8 b) 28)).alloc (.cells (arr8 (z8' 32)) 28) := ⟨_, rfl⟩
  have b6 : Blk v g6 28 (arr8 a) := by rw [hv, hg6]; exact ((Blk.new _ _ _).alloc _).alloc _
  have b7 : Blk v g7 28 (arr8 b) := by
    have := (Blk.new (w.alloc (.cells (arr8 a) 28)) 28 (arr8 b)).alloc (.cells (arr8 (z8' 32)) 28)
    rw [World.size_alloc] at this
    rw [hv, hg7]; exact this
  have bb8 : Blk v g8 28 (arr8 (z8' 32)) := by
    have := Blk.new ((w.alloc (.cells (arr8 a) 28)).alloc (.cells (arr8 b) 28)) 28 (arr8 (z8' 32))
    rw [World.size_alloc, World.size_alloc] at this
    rw [hv, hg8]; exact this
  have hbv : Below w.heap.size w v := by rw [hv]; exact (((Below.refl _ _).alloc (Nat.le_refl _) _).alloc (by simp) _).alloc (by simp; omega) _
  have hzv : v.heap.size = g9 := by rw [hv, hg9]; simp
  have b9 := Blk.new v 28 (arr8 (z8' 32))
  rw [hzv] at b9
  have HV := Lib.hid hv
  have HG6 := Lib.hid hg6
  have HG7 := Lib.hid hg7
  have HG8 := Lib.hid hg8
  have HG9 := Lib.hid hg9
  have HZV := Lib.hid hzv
  have hD : g6 < g7 ∧ g7 < g8 ∧ g8 < g9 := ⟨by omega, by omega, by omega⟩
  have hw6 : w.heap.size ≤ g6 := by omega
  have hall := arr_all_run (P := Try.prog) (T := 28) Try.underlying28 size1 (by omega) g6
  have hall7 := arr_all_run (P := Try.prog) (T := 28) Try.underlying28 size1 (by omega) g7
  have HK := Lib.hid hk
  clear hv hg6 hg7 hg8 hg9 hzv hk
  have hcase : ((a == noS) = false) ∨ ((a == noS) = true ∧ (b == noS) = false) ∨ (a = noS ∧ b = noS) := by
    cases h : a == noS
    · exact .inl rfl
    · cases h2 : b == noS
      · exact .inr (.inl ⟨rfl, rfl⟩)
      · exact .inr (.inr ⟨by simpa using h, by simpa using h2⟩)
  have hge := guard44
  have hnone : (a == noS) = false ∨ (b == noS) = false → joinOf key i a b = hmac key ([2, lowB i] ++ (a ++ b)) := fun h => by
    refine if_neg fun ⟨h1, h2⟩ => ?_
    subst h1; subst h2
    simp at h
  rcases hcase with h1 | ⟨h1, h2⟩ | ⟨h1, h2⟩
  rotate_left 2
  · subst h1
    subst h2
    have he := eq_noS noS len_noS true (by simp)
    rw [joinOf_none]
    go_enter Try.func28, Try.ntmps28
    go_wp2_with (first
      | ((with_reducible show wpList _ _ _ (Oper.mk (some 8) (Op.alloc 28) _ _ _ _ :: _) _ _); refine wpList_alloc_agg rfl 28 rfl (arr8 (z8' 32)) zero44 ?_; rw [World.size_alloc, World.size_alloc, ← HV.out, ← HG8.out, ← HG7.out, ← HG6.out])
      | ((with_reducible show wpList _ _ _ (Oper.mk (some 9) (Op.alloc 28) _ _ _ _ :: _) _ _); refine wpList_alloc_agg rfl 28 rfl (arr8 (z8' 32)) zero44 ?_; rw [HZV.out])
      | ((with_reducible show wpList _ _ _ (Oper.mk _ (Op.build 28 _) _ _ _ _ :: _) _ _); refine wpList_build rfl 28 _ rfl #[] (by simp only [List.map_toArray, List.map_nil]) _ (build44 _) ?_)
      | ((with_reducible show wpList _ _ _ (Oper.mk none (Op.store 28 (.tmp 9) _) _ _ _ _ :: _) _ _); refine wpList_store8 rfl 28 (.tmp 9) (.tmp 10) rfl g9 rfl noS rfl agg44 len_noS _ _ b9 (by rw [size_arr8, len_z8']) ?_; intro v2 hb2 hgr2 hs2; have c6 := (b6.alloc _).grown hgr2 (by simp; omega); have c7 := (b7.alloc _).grown hgr2 (by simp; omega); have c8 := (bb8.alloc _).grown hgr2 (by simp; omega); have hv2 := (hbv.alloc hbv.size _).grown hgr2 (Nat.le_trans hbv.size (by simp)) (fun k hk => by cases hk; omega))
      | ((with_reducible show wpList _ _ _ (Oper.mk _ (Op.load 28 (.tmp 6)) _ _ _ _ :: _) _ _); refine wpList_load_whole (by rfl) 28 (.tmp 6) rfl g6 rfl (arr8 noS) agg44 (by rw [size_arr8, len_noS]) 28 c6 ?_)
      | ((with_reducible show wpList _ _ _ (Oper.mk _ (Op.load 28 (.tmp 7)) _ _ _ _ :: _) _ _); refine wpList_load_whole (by rfl) 28 (.tmp 7) rfl g7 rfl (arr8 noS) agg44 (by rw [size_arr8, len_noS]) 28 c7 ?_)
      | ((with_reducible show wpList _ _ _ (Oper.mk _ (Op.load 28 (.tmp 9)) _ _ _ _ :: _) _ _); refine wpList_load_whole (by rfl) 28 (.tmp 9) rfl g9 rfl (arr8 noS) agg44 (by rw [size_arr8, len_noS]) 28 hb2 ?_)
      | ((with_reducible show wpList _ _ _ (Oper.mk none (Op.store 28 (.tmp 8) _) _ _ _ _ :: _) _ _); refine wpList_store8 rfl 28 (.tmp 8) (.tmp 19) rfl g8 rfl noS rfl agg44 len_noS _ _ c8 (by rw [size_arr8, len_z8']) ?_; intro v3 hb3 hgr3 hs3))
    refine bodyPost_ret (results_cell_one rfl _ g8 _ (arr8 noS) agg44 (by rw [size_arr8, len_noS]) rfl hb3) rfl ⟨rfl, ?_⟩
    exact hv2.grown hgr3 hv2.size (fun k hk => by cases hk; omega)
  all_goals
    have hj : joinOf key i a b = hmac key ([2, lowB i] ++ (a ++ b)) := hnone (by first | exact .inl h1 | exact .inr h2)
    have hlj := len_joinOf key i a b
    first
      | (have he2 := eq_noS b hb false h2; have he := eq_noS a ha true h1)
      | (have he := eq_noS a ha false h1)
    have HJ := Lib.hid hj
    clear hj hnone
    obtain ⟨jj, hjj⟩ : ∃ jj, jj = joinOf key i a b := ⟨_, rfl⟩
    rw [← hjj] at hlj ⊢
    have HJJ := Lib.hid hjj
    clear hjj
    have HBI := Lib.hid (b8_lowB i)
    go_enter Try.func28, Try.ntmps28
    go_wp2_with (first
      | ((with_reducible show wpList _ _ _ (Oper.mk (some 8) (Op.alloc 28) _ _ _ _ :: _) _ _); refine wpList_alloc_agg rfl 28 rfl (arr8 (z8' 32)) zero44 ?_; rw [World.size_alloc, World.size_alloc, ← HV.out, ← HG8.out, ← HG7.out, ← HG6.out])
      | ((with_reducible show wpList _ _ _ (Oper.mk (some 9) (Op.alloc 28) _ _ _ _ :: _) _ _); refine wpList_alloc_agg rfl 28 rfl (arr8 (z8' 32)) zero44 ?_; rw [HZV.out])
      | ((with_reducible show wpList _ _ _ (Oper.mk _ (Op.build 28 _) _ _ _ _ :: _) _ _); refine wpList_build rfl 28 _ rfl #[] (by simp only [List.map_toArray, List.map_nil]) _ (build44 _) ?_)
      | ((with_reducible show wpList _ _ _ (Oper.mk none (Op.store 28 (.tmp 9) _) _ _ _ _ :: _) _ _); refine wpList_store8 rfl 28 (.tmp 9) (.tmp 10) rfl g9 rfl noS rfl agg44 len_noS _ _ b9 (by rw [size_arr8, len_z8']) ?_; intro v2 hb2 hgr2 hs2; have c6 := (b6.alloc _).grown hgr2 (by simp; omega); have c7 := (b7.alloc _).grown hgr2 (by simp; omega); have c8 := (bb8.alloc _).grown hgr2 (by simp; omega); have hv2 := (hbv.alloc hbv.size _).grown hgr2 (Nat.le_trans hbv.size (by simp)) (fun k hk => by cases hk; omega))
      | ((with_reducible show wpList _ _ _ (Oper.mk _ (Op.load 28 (.tmp 6)) _ _ _ _ :: _) _ _); refine wpList_load_whole (by rfl) 28 (.tmp 6) rfl g6 rfl (arr8 a) agg44 (by rw [size_arr8, ha]) 28 c6 ?_)
      | ((with_reducible show wpList _ _ _ (Oper.mk _ (Op.load 28 (.tmp 7)) _ _ _ _ :: _) _ _); refine wpList_load_whole (by rfl) 28 (.tmp 7) rfl g7 rfl (arr8 b) agg44 (by rw [size_arr8, hb]) 28 c7 ?_)
      | ((with_reducible show wpList _ _ _ (Oper.mk _ (Op.load 28 (.tmp 9)) _ _ _ _ :: _) _ _); refine wpList_load_whole (by rfl) 28 (.tmp 9) rfl g9 rfl (arr8 noS) agg44 (by rw [size_arr8, len_noS]) 28 hb2 ?_))
    have hz2 := hv2.size
    clear hs2 he
    refine Code.wp_mono (Q := Exit.then (fun a' w' => (∃ T : Array Value, a' = { tmps := T, defers := [] } ∧ T.getD 8 undef = .pointer (some ⟨g8, 0, none⟩)) ∧ Blk w' g8 28 (arr8 jj) ∧ Below w.heap.size w w') (fun _ _ _ => False)) ?_ ?_
    rotate_left
    · refine (wpIn_wide (n := 4)).1 ?_
      refine wpIn_region_rel free_wide rfl 8 (fun W W' => Below W.heap.size W W') (fun W => Below v2.heap.size v2 W)
        [Det (.slice A n c), Det (.int .i64 i), Det (.int .u8 (i % 256)), RelB 2 [2, lowB i], RelB 32 a, RelB 32 b, RelP 3 [[2, lowB i], a, b], Det (.agg (arr8 jj)), Any]
        [[], [], [(1, some 21)], [(2, some 22)], [], [], [(3, some 23), (4, some 24), (5, some 25)], [(0, some 20), (6, some 26)], [(7, some 27)]]
        [[], [], [1], [1, 2], [], [], [1, 2, 3, 4, 5], [0, 1, 2, 3, 4, 5, 6], [0, 1, 2, 3, 4, 5, 6, 7]]
        [(0, some 20), (1, some 21), (2, some 22), (3, some 23), (4, some 24), (5, some 25), (6, some 26), (7, some 27), (8, none)] (by kernel_rfl) (by kernel_rfl) (by kernel_rfl) (fun W W' h1 h2 => h1.trans (h2.mono h1.size)) ((Below.refl _ _).drew) ?_ ?_ ?_
      · exact (AllMono.cons Det.later (AllMono.cons Det.later (AllMono.cons Det.later (AllMono.cons RelB.later (AllMono.cons RelB.later (AllMono.cons RelB.later (AllMono.cons RelP.later (AllMono.cons Det.later (AllMono.cons Any.later AllMono.nil)))))))))
      · refine AllOb.cons ?_ (AllOb.cons ?_ (AllOb.cons ?_ (AllOb.cons ?_ (AllOb.cons ?_ (AllOb.cons ?_ (AllOb.cons ?_ (AllOb.cons ?_ (AllOb.nil))))))))
        · intro uF W hC' hU aF hF
          have hC : Below v2.heap.size v2 W := hC'
          clear hC'
          simp only [puts] at hF
          subst hF
          go_wp2_with (fail)
          exact ⟨rfl, rfl, (Below.refl _ _), rfl⟩
        · intro uF W hC' hU aF hF
          have hC : Below v2.heap.size v2 W := hC'
          clear hC'
          simp only [puts] at hF
          subst hF
          go_wp2_with (fail)
          exact ⟨rfl, rfl, (Below.refl _ _), rfl⟩
        · intro uF W hC' hU aF hF
          have hC : Below v2.heap.size v2 W := hC'
          clear hC'
          have h21 : (Det (.int .i64 i)) (uF 1) W := hU.1
          clear hU
          simp only [puts, Act.put, List.setIfInBounds_toArray, List.set_cons_zero, List.set_cons_succ] at hF
          generalize uF 1 = x21 at h21 hF
          obtain rfl : x21 = (.int .i64 i) := h21
          subst hF
          go_wp2_with (fail)
          exact ⟨rfl, rfl, (Below.refl _ _), rfl⟩
        · intro uF W hC' hU aF hF
          have hC : Below v2.heap.size v2 W := hC'
          clear hC'
          have h22 : (Det (.int .u8 (i % 256))) (uF 2) W := hU.1
          clear hU
          simp only [puts, Act.put, List.setIfInBounds_toArray, List.set_cons_zero, List.set_cons_succ] at hF
          generalize uF 2 = x22 at h22 hF
          obtain rfl : x22 = (.int .u8 (i % 256)) := h22
          subst hF
          go_wp2_with (fail)
          exact ⟨rfl, rfl, (below_alloc _ _), RelB.new _ [2, lowB i] 2 rfl (by simp [maxLen]) (by rw [HBI.out]; rfl)⟩
        · intro uF W hC' hU aF hF
          have hC : Below v2.heap.size v2 W := hC'
          clear hC'
          simp only [puts] at hF
          subst hF
          go_wp2_with (fail)
          exact ⟨rfl, rfl, (Below.refl _ _), ⟨_, _, rfl, sum_sl (c6.below hC c6.lt) ha⟩⟩
        · intro uF W hC' hU aF hF
          have hC : Below v2.heap.size v2 W := hC'
          clear hC'
          simp only [puts] at hF
          subst hF
          go_wp2_with (fail)
          exact ⟨rfl, rfl, (Below.refl _ _), ⟨_, _, rfl, sum_sl (c7.below hC c7.lt) hb⟩⟩
        · intro uF W hC' hU aF hF
          have hC : Below v2.heap.size v2 W := hC'
          clear hC'
          have h23 : (RelB 2 [2, lowB i]) (uF 3) W := hU.1
          have h24 : (RelB 32 a) (uF 4) W := hU.2.1
          have h25 : (RelB 32 b) (uF 5) W := hU.2.2.1
          clear hU
          simp only [puts, Act.put, List.setIfInBounds_toArray, List.set_cons_zero, List.set_cons_succ] at hF
          generalize uF 3 = x23 at h23 hF
          generalize uF 4 = x24 at h24 hF
          generalize uF 5 = x25 at h25 hF
          obtain ⟨A23, c23, rfl, s23⟩ := h23
          obtain ⟨A24, c24, rfl, s24⟩ := h24
          obtain ⟨A25, c25, rfl, s25⟩ := h25
          subst hF
          go_wp2_with (fail)
          exact ⟨rfl, rfl, (below_alloc _ _), RelP.three s23 s24 s25⟩
        · intro uF W hC' hU aF hF
          have hC : Below v2.heap.size v2 W := hC'
          clear hC'
          have h20 : (Det (.slice A n c)) (uF 0) W := hU.1
          have h26 : (RelP 3 [[2, lowB i], a, b]) (uF 6) W := hU.2.1
          clear hU
          simp only [puts, Act.put, List.setIfInBounds_toArray, List.set_cons_zero, List.set_cons_succ] at hF
          generalize uF 0 = x20 at h20 hF
          generalize uF 6 = x26 at h26 hF
          obtain rfl : x20 = (.slice A n c) := h20
          subst hF
          go_wp2_with ((go_at_call 30; refine (tag_p ((HK.out.below (hv2.mono hB)).below (hC.mono (Nat.le_trans hB hz2))) (Nat.le_trans hB (Nat.le_trans hz2 hC.size)) hn h26 (by simp [ha, hb]) (by omega)).mono ?_; rintro e W1 ⟨rfl, hb⟩; rw [show ([[2, lowB i], a, b] : List (List UInt8)).flatten = [2, lowB i] ++ (a ++ b) from by simp, ← HJ.out, ← HJJ.out]))
          exact ⟨rfl, rfl, hb, rfl⟩
      intro uF W5 hC' hU aF hF
      have hCW5 : Below v2.heap.size v2 W5 := hC'
      clear hC'
      have h27 : (Det (.agg (arr8 jj))) (uF 7) W5 := hU.2.2.2.2.2.2.2.1
      clear hU
      simp only [List.take_succ_cons, List.take_zero, puts, Act.put, List.setIfInBounds_toArray, List.set_cons_zero, List.set_cons_succ] at hF
      generalize uF 0 = x20 at hF
      generalize uF 1 = x21 at hF
      generalize uF 2 = x22 at hF
      generalize uF 3 = x23 at hF
      generalize uF 4 = x24 at hF
      generalize uF 5 = x25 at hF
      generalize uF 6 = x26 at hF
      generalize uF 7 = x27 at h27 hF
      obtain rfl : x27 = (.agg (arr8 jj)) := h27
      subst hF
      simp only [List.drop_succ_cons, List.drop_zero]
      refine wpListIn_of free_wide (fun ⟨_, _, h⟩ => h) rfl ?_
      refine wpList_store8 rfl 28 (.tmp 8) (.tmp 27) rfl g8 rfl jj rfl agg44 hlj _ _ (c8.below hCW5 c8.lt) (by rw [size_arr8, len_z8']) ?_
      intro w4 hb4 hg4 hs4
      have hw5 := hv2.trans (hCW5.mono hz2)
      exact wpList_nil ⟨⟨_, rfl, rfl⟩, hb4, hw5.grown hg4 hw5.size (fun k hk => by cases hk; omega)⟩
    rintro e a' w' h
    cases e with
    | normal =>
      obtain ⟨⟨T, rfl, hT⟩, hbk, hbw⟩ := h
      go_wp2_with fail
      exact bodyPost_ret (results_cell_one rfl _ g8 _ (arr8 jj) agg44 (by rw [size_arr8, hlj]) hT hbk) rfl ⟨rfl, hbw⟩
    | _ => exact h.elim

set_option maxHeartbeats 4000000 in
theorem refjoin_c {w : World} {B : Nat} {A : Option Addr} {n c : Nat} {key : List UInt8} (hk : SlB w B A n c key) (hB : B ≤ w.heap.size) (hn : n ≤ 1099511627776) (i : Int) (a b : List UInt8) (ha : a.length = 32) (hb : b.length = 32) :
    Calls Try.prog 29 #[.slice A n c, .int .i64 i, .agg (arr8 a), .agg (arr8 b)] w fun e w' => e = .returned (.agg (arr8 (joinOf key i a b))) ∧ Below w.heap.size w w' := by
  obtain ⟨g6, hg6⟩ : ∃ g, g = w.heap.size := ⟨_, rfl⟩
  obtain ⟨g7, hg7⟩ : ∃ g, g = w.heap.size + 1 := ⟨_, rfl⟩
  obtain ⟨g8, hg8⟩ : ∃ g, g = w.heap.size + 1 + 1 := ⟨_, rfl⟩
  obtain ⟨v, hv⟩ : ∃ v, v = ((w.alloc (.cells (arr8 a) 28)).alloc (.cells (arr8 b) 28)).alloc (.cells (arr8 (z8' 32)) 28) := ⟨_, rfl⟩
  have b6 : Blk v g6 28 (arr8 a) := by rw [hv, hg6]; exact ((Blk.new _ _ _).alloc _).alloc _
  have b7 : Blk v g7 28 (arr8 b) := by
    have := (Blk.new (w.alloc (.cells (arr8 a) 28)) 28 (arr8 b)).alloc (.cells (arr8 (z8' 32)) 28)
    rw [World.size_alloc] at this
    rw [hv, hg7]; exact this
  have bb8 : Blk v g8 28 (arr8 (z8' 32)) := by
    have := Blk.new ((w.alloc (.cells (arr8 a) 28)).alloc (.cells (arr8 b) 28)) 28 (arr8 (z8' 32))
    rw [World.size_alloc, World.size_alloc] at this
    rw [hv, hg8]; exact this
  have hbv : Below w.heap.size w v := by rw [hv]; exact (((Below.refl _ _).alloc (Nat.le_refl _) _).alloc (by simp) _).alloc (by simp; omega) _
  have HV := Lib.hid hv
  have HG6 := Lib.hid hg6
  have HG7 := Lib.hid hg7
  have HG8 := Lib.hid hg8
  have hD : g6 < g7 ∧ g7 < g8 := ⟨by omega, by omega⟩
  have hw6 : w.heap.size ≤ g6 := by omega
  have hzv := hbv.size
  have hall := arr_all_run (P := Try.prog) (T := 28) Try.underlying28 size1 (by omega) g6
  have hall7 := arr_all_run (P := Try.prog) (T := 28) Try.underlying28 size1 (by omega) g7
  have HK := Lib.hid hk
  clear hv hg6 hg7 hg8 hk
  have hcase : ((a == noS) = false) ∨ ((a == noS) = true ∧ (b == noS) = false) ∨ (a = noS ∧ b = noS) := by
    cases h : a == noS
    · exact .inl rfl
    · cases h2 : b == noS
      · exact .inr (.inl ⟨rfl, rfl⟩)
      · exact .inr (.inr ⟨by simpa using h, by simpa using h2⟩)
  have hge := guard44
  have hnone : (a == noS) = false ∨ (b == noS) = false → joinOf key i a b = hmac key ([2, lowB i] ++ (a ++ b)) := fun h => by
    refine if_neg fun ⟨h1, h2⟩ => ?_
    subst h1; subst h2
    simp at h
  rcases hcase with h1 | ⟨h1, h2⟩ | ⟨h1, h2⟩
  rotate_left 2
  · subst h1
    subst h2
    have he := eq_noS noS len_noS true (by simp)
    rw [joinOf_none]
    go_enter Try.func29, Try.ntmps29
    go_wp2_with (first
      | ((with_reducible show wpList _ _ _ (Oper.mk (some 8) (Op.alloc 28) _ _ _ _ :: _) _ _); refine wpList_alloc_agg rfl 28 rfl (arr8 (z8' 32)) zero44 ?_; rw [World.size_alloc, World.size_alloc, ← HV.out, ← HG8.out, ← HG7.out, ← HG6.out])
      | ((with_reducible show wpList _ _ _ (Oper.mk _ (Op.build 28 _) _ _ _ _ :: _) _ _); refine wpList_build (by rfl) 28 _ rfl #[] (by simp only [List.map_toArray, List.map_nil]) _ (build44 _) ?_)
      | ((with_reducible show wpList _ _ _ (Oper.mk _ (Op.load 28 (.tmp 6)) _ _ _ _ :: _) _ _); refine wpList_load_whole (by rfl) 28 (.tmp 6) rfl g6 rfl (arr8 noS) agg44 (by rw [size_arr8, len_noS]) 28 b6 ?_)
      | ((with_reducible show wpList _ _ _ (Oper.mk _ (Op.load 28 (.tmp 7)) _ _ _ _ :: _) _ _); refine wpList_load_whole (by rfl) 28 (.tmp 7) rfl g7 rfl (arr8 noS) agg44 (by rw [size_arr8, len_noS]) 28 b7 ?_)
      | ((with_reducible show wpList _ _ _ (Oper.mk none (Op.store 28 (.tmp 8) _) _ _ _ _ :: _) _ _); refine wpList_store8 rfl 28 (.tmp 8) (.tmp 18) rfl g8 rfl noS rfl agg44 len_noS _ _ bb8 (by rw [size_arr8, len_z8']) ?_; intro v3 hb3 hgr3 hs3))
    refine bodyPost_ret (results_cell_one rfl _ g8 _ (arr8 noS) agg44 (by rw [size_arr8, len_noS]) rfl hb3) rfl ⟨rfl, ?_⟩
    exact hbv.grown hgr3 hbv.size (fun k hk => by cases hk; omega)
  all_goals
    have hj : joinOf key i a b = hmac key ([2, lowB i] ++ (a ++ b)) := hnone (by first | exact .inl h1 | exact .inr h2)
    have hlj := len_joinOf key i a b
    first
      | (have he2 := eq_noS b hb false h2; have he := eq_noS a ha true h1)
      | (have he := eq_noS a ha false h1)
    have HJ := Lib.hid hj
    clear hj hnone
    obtain ⟨jj, hjj⟩ : ∃ jj, jj = joinOf key i a b := ⟨_, rfl⟩
    rw [← hjj] at hlj ⊢
    have HJJ := Lib.hid hjj
    clear hjj
    have hbi := b8_lowB i
    have h0 : OwB (v.alloc (.cells #[.int .u8 2, .int .u8 (i % 256)] 5)) v.heap.size (some ⟨v.heap.size, 0, none⟩) 2 2 [2, lowB i] := OwB.lit v v.heap.size _ [2, lowB i] 2 (Nat.le_refl _) rfl (by simp [maxLen]) (by rw [hbi]; rfl)
    have hal := below_alloc v (.cells #[.int .u8 2, .int .u8 (i % 256)] 5)
    have hs1 := sum_sl (b6.below hal b6.lt) ha
    have H0 := Lib.hid h0
    have HS1 := Lib.hid hs1
    clear h0 hs1 hbi
    go_enter Try.func29, Try.ntmps29
    go_wp2_with (first
      | ((with_reducible show wpList _ _ _ (Oper.mk (some 8) (Op.alloc 28) _ _ _ _ :: _) _ _); refine wpList_alloc_agg rfl 28 rfl (arr8 (z8' 32)) zero44 ?_; rw [World.size_alloc, World.size_alloc, ← HV.out, ← HG8.out, ← HG7.out, ← HG6.out])
      | ((with_reducible show wpList _ _ _ (Oper.mk _ (Op.build 28 _) _ _ _ _ :: _) _ _); refine wpList_build (by rfl) 28 _ rfl #[] (by simp only [List.map_toArray, List.map_nil]) _ (build44 _) ?_)
      | ((with_reducible show wpList _ _ _ (Oper.mk _ (Op.load 28 (.tmp 6)) _ _ _ _ :: _) _ _); refine wpList_load_whole (by rfl) 28 (.tmp 6) rfl g6 rfl (arr8 a) agg44 (by rw [size_arr8, ha]) 28 b6 ?_)
      | ((with_reducible show wpList _ _ _ (Oper.mk _ (Op.load 28 (.tmp 7)) _ _ _ _ :: _) _ _); refine wpList_load_whole (by rfl) 28 (.tmp 7) rfl g7 rfl (arr8 b) agg44 (by rw [size_arr8, hb]) 28 b7 ?_)
      | (at_builtin; refine wpList_append8 rfl (.tmp 21) (.tmp 22) rfl rfl H0.out rfl HS1.out (by omega) (by simp) 34 rfl ?_; intro A2 c2 v2 h2 q2; have hb2 : Below v.heap.size v v2 := q2.below H0.out hal (Nat.le_refl _) (by simp); have hz2 := hb2.size; have hs2 := sum_sl (b7.below hb2 b7.lt) hb)
      | (at_builtin; refine wpList_append8 rfl (.tmp 25) (.tmp 26) rfl rfl h2 rfl hs2 (by omega) hz2 66 rfl ?_; intro A3 c3 v3 h3 q3; have hb3 : Below v.heap.size v v3 := q3.below h2 hb2 (Nat.le_refl _) hz2; have hz3 := hb3.size)
      | (go_at_call 31; refine (reftag_c ((HK.out.below (hbv.mono hB)).below (hb3.mono (Nat.le_trans hB hzv))) (Nat.le_trans hB (Nat.le_trans hzv hz3)) hn (Row.sl h3) (Nat.le_refl _) (by omega)).mono ?_; rintro e v4 ⟨rfl, hb4⟩; rw [List.append_assoc, ← HJ.out, ← HJJ.out]; have b84 := bb8.below (hb3.trans (hb4.mono hz3)) bb8.lt; have hw4 := hbv.trans ((hb3.trans (hb4.mono hz3)).mono hzv))
      | ((with_reducible show wpList _ _ _ (Oper.mk none (Op.store 28 (.tmp 8) _) _ _ _ _ :: _) _ _); refine wpList_store8 rfl 28 (.tmp 8) (.tmp 28) rfl g8 rfl jj rfl agg44 hlj _ _ b84 (by rw [size_arr8, len_z8']) ?_; intro w4 hb4' hg4 hs4))
    refine bodyPost_ret (results_cell_one rfl _ g8 _ (arr8 jj) agg44 (by rw [size_arr8, hlj]) rfl hb4') rfl ⟨rfl, ?_⟩
    exact hw4.grown hg4 hw4.size (fun k hk => by cases hk; omega)
end Go.Proofs.Ytdifepfplfkfoaa

