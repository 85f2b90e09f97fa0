/-
  CdbBlocks: which blocks a command has (printed by wip/gen_cblks.py).
-/
import Derived.Test.YtjjpifppdjpcnaaBlocksL
import Derived.Test.YtjjpifppdjpcnaaCdbLaw
import Derived.Test.YtjjpifppdjpcnaaErr
namespace Go.Proofs.Ytjjpifppdjpcnaa.cdbBlocks
open Go.RowKit Go.Shelf
set_option linter.unusedVariables false
set_option linter.unusedSimpArgs false
set_option maxRecDepth 100000
attribute [local go_sem] Oper.semAt_some

theorem okB_ex : okB 1 1 2 3 0 0 0 0 0 0 false := by unfold okB goodC; decide
theorem info8 : (Try.prog.info? 5).map (·.size) = some 1 := by kernel_rfl

set_option maxHeartbeats 4000000 in
theorem walk_big (kind unit block many op who key new ty most : Int) (st : Bool) (A : Option Addr) (m c : Nat) (ds : List UInt8) (w : World) (w0 : SlB w w.heap.size A m c ds)
    (HX : Hid ((Lit.int .i64 kind).wf = true ∧ (Lit.int .i64 unit).wf = true ∧ (Lit.int .i64 block).wf = true ∧ (Lit.int .i64 many).wf = true)) (HY : Hid ((Lit.int .i64 op).wf = true ∧ (Lit.int .i64 key).wf = true ∧ (Lit.int .i64 new).wf = true ∧ (Lit.int .i64 ty).wf = true)) (hbi : (16384 : Int) < (m : Int)) :
    Calls Try.prog 12 #[.agg #[.int .i64 kind, .int .i64 unit, .int .i64 block, .int .i64 many, .slice A m c, .int .i64 op, .int .i64 who, .int .i64 key, .int .i64 new, .int .i64 ty, .bool st], .int .i64 most] w fun e w' => e = .returned (.bool true) ∧ Below w.heap.size w w' := by
  have hmx := w0.mx
  have hmc := w0.le
  have HLEN := Lib.hid w0.len
  obtain ⟨g2, hg2⟩ : ∃ g, g = w.heap.size := ⟨_, rfl⟩
  obtain ⟨g3, hg3⟩ : ∃ g, g = w.heap.size + 1 := ⟨_, rfl⟩
  obtain ⟨g4, hg4⟩ : ∃ g, g = w.heap.size + 1 + 1 := ⟨_, rfl⟩
  obtain ⟨v, hv⟩ : ∃ v, v = ((w.alloc (.cells #[.int .i64 kind, .int .i64 unit, .int .i64 block, .int .i64 many, .slice A m c, .int .i64 op, .int .i64 who, .int .i64 key, .int .i64 new, .int .i64 ty, .bool st] 56)).alloc (.cells #[.int .i64 most] 3)).alloc (.cells #[.bool false] 4) := ⟨_, rfl⟩
  have b2 : Blk v g2 56 #[.int .i64 kind, .int .i64 unit, .int .i64 block, .int .i64 many, .slice A m c, .int .i64 op, .int .i64 who, .int .i64 key, .int .i64 new, .int .i64 ty, .bool st] := by rw [hv, hg2]; exact ((Blk.new _ _ _).alloc _).alloc _
  have b3 : Blk v g3 3 #[.int .i64 most] := by
    have := (Blk.new (w.alloc (.cells #[.int .i64 kind, .int .i64 unit, .int .i64 block, .int .i64 many, .slice A m c, .int .i64 op, .int .i64 who, .int .i64 key, .int .i64 new, .int .i64 ty, .bool st] 56)) 3 #[.int .i64 most]).alloc (.cells #[.bool false] 4)
    rw [World.size_alloc] at this
    rw [hv, hg3]; exact this
  have b4 : Blk v g4 4 #[.bool false] := by
    have := Blk.new ((w.alloc (.cells #[.int .i64 kind, .int .i64 unit, .int .i64 block, .int .i64 many, .slice A m c, .int .i64 op, .int .i64 who, .int .i64 key, .int .i64 new, .int .i64 ty, .bool st] 56)).alloc (.cells #[.int .i64 most] 3)) 4 #[.bool false]
    rw [World.size_alloc, World.size_alloc] at this
    rw [hv, hg4]; exact this
  have hbv : Below w.heap.size w v := by rw [hv]; exact (((Below.refl _ _).alloc (Nat.le_refl _) _).alloc (by simp) _).alloc (by simp only [World.size_alloc]; omega) _
  have hz := hbv.size
  have hg4v := b4.lt
  have hG : g2 < g3 ∧ g3 < g4 ∧ w.heap.size ≤ g2 := by omega
  have HS0 := Lib.hid (show Stay w [(g2, 56, #[.int .i64 kind, .int .i64 unit, .int .i64 block, .int .i64 many, .slice A m c, .int .i64 op, .int .i64 who, .int .i64 key, .int .i64 new, .int .i64 ty, .bool st]), (g3, 3, #[.int .i64 most]), (g4, 4, #[.bool false])] (fun _ => False) v from ⟨fun p hp => by
    simp only [List.mem_cons, List.not_mem_nil, or_false] at hp
    rcases hp with rfl | rfl | rfl
    · exact ⟨fun e => e, b2⟩
    · exact ⟨fun e => e, b3⟩
    · exact ⟨fun e => e, b4⟩, hbv⟩)
  have HD := Lib.hid w0
  have HV := Lib.hid hv
  have HG2 := Lib.hid hg2
  have HG3 := Lib.hid hg3
  have HG4 := Lib.hid hg4
  have HB2 := Lib.hid b2
  have HB4 := Lib.hid b4
  clear hv hg2 hg3 hg4 w0 b2 b3 b4
  refine calls_of_wp_marks Try.func12 rfl ?_
  simp only [Try.ntmps12, List.size_toArray, List.length_cons, List.length_nil, Nat.reduceAdd, Nat.reduceSub, Array.replicate_succ, Array.replicate_zero, List.push_toArray, List.append_toArray, List.nil_append, List.cons_append]
  go_wp2_with (first
    | (go_at_call 28; (fail_if_success have hx := X0); rw [← HV.out, ← HG4.out, ← HG3.out, ← HG2.out]; refine (example_c v).mono ?_; rintro e wa ⟨rfl, hba⟩; have hza := hba.size; have X0 := True.intro)
    | (go_at_call 27; refine (cenc_ex wa).mono ?_; rintro e wb ⟨Ab, cb, rfl, hob, hbb⟩; have hvb := hba.trans (hbb.mono hza); have hzb := hvb.size; have b2b := HB2.out.below hvb HB2.out.lt; clear hob)
    | ((with_reducible show wpList _ _ _ (Oper.mk (some 25) (Op.load 56 _) _ _ _ _ :: _) _ _); refine wpList_load_whole rfl 56 (.tmp 2) rfl (g2) rfl #[.int .i64 kind, .int .i64 unit, .int .i64 block, .int .i64 many, .slice A m c, .int .i64 op, .int .i64 who, .int .i64 key, .int .i64 new, .int .i64 ty, .bool st] aggCm rfl _ (b2b) ?_)
    | (go_at_call 29; refine (large15_c kind unit block many op who key new ty st hmx true (decide_eq_true hbi)).mono ?_; rintro e w2 ⟨rfl, hb2⟩; have hv2 := hvb.trans (hb2.mono hzb); have hz2 := hv2.size; have b42 := HB4.out.below hv2 HB4.out.lt; have d4 : w2.cell? ⟨g4, 0, none⟩ = some (.bool false) := (by rw [b42.cell]; rfl); have f4 := b42.frozen 0))
  have hb4' : Blk (w2.setCell ⟨g4, 0, none⟩ (.bool true)) g4 4 #[.bool true] := by simpa using b42.set_ 0 (.bool true)
  refine ⟨_, res_bool rfl _ g4 4 true Try.underlying4 rfl hb4', rfl, ?_⟩
  exact (hbv.trans (hv2.mono hz)).setCell (p := ⟨g4, 0, none⟩) (by show w.heap.size ≤ g4; omega) _

set_option maxHeartbeats 4000000 in
theorem walk_A1 (kind unit block many op who key new ty most : Int) (st : Bool) (A : Option Addr) (m c : Nat) (ds : List UInt8) (w : World) (w0 : SlB w w.heap.size A m c ds)
    (HX : Hid ((Lit.int .i64 kind).wf = true ∧ (Lit.int .i64 unit).wf = true ∧ (Lit.int .i64 block).wf = true ∧ (Lit.int .i64 many).wf = true)) (HY : Hid ((Lit.int .i64 op).wf = true ∧ (Lit.int .i64 key).wf = true ∧ (Lit.int .i64 new).wf = true ∧ (Lit.int .i64 ty).wf = true)) (hbi : ¬ (16384 : Int) < (m : Int)) (HOK : Hid (okB kind unit block many m op who key new ty st)) (HK : Hid (kind = 1)) (M z N : Nat) (HMY : Hid (okB kind unit block many m op who key new ty st → (M : Int) = many)) (HMN : Hid (¬ okB kind unit block many m op who key new ty st → M = 0)) (HZZ : Hid (z = 128 * M - m)) (HNN : Hid (N = m + z)) (hrc : ∀ v, Below w.heap.size w v → Calls Try.prog 34 #[.agg #[.int .i64 kind, .int .i64 unit, .int .i64 block, .int .i64 many, .slice A m c, .int .i64 op, .int .i64 who, .int .i64 key, .int .i64 new, .int .i64 ty, .bool st]] v fun e w' => e = .returned (.int .i64 0) ∧ Below v.heap.size v w') :
    Calls Try.prog 12 #[.agg #[.int .i64 kind, .int .i64 unit, .int .i64 block, .int .i64 many, .slice A m c, .int .i64 op, .int .i64 who, .int .i64 key, .int .i64 new, .int .i64 ty, .bool st], .int .i64 most] w fun e w' => e = .returned (.bool true) ∧ Below w.heap.size w w' := by
  have hmx := w0.mx
  have hmc := w0.le
  have HLEN := Lib.hid w0.len
  obtain ⟨g2, hg2⟩ : ∃ g, g = w.heap.size := ⟨_, rfl⟩
  obtain ⟨g3, hg3⟩ : ∃ g, g = w.heap.size + 1 := ⟨_, rfl⟩
  obtain ⟨g4, hg4⟩ : ∃ g, g = w.heap.size + 1 + 1 := ⟨_, rfl⟩
  obtain ⟨v, hv⟩ : ∃ v, v = ((w.alloc (.cells #[.int .i64 kind, .int .i64 unit, .int .i64 block, .int .i64 many, .slice A m c, .int .i64 op, .int .i64 who, .int .i64 key, .int .i64 new, .int .i64 ty, .bool st] 56)).alloc (.cells #[.int .i64 most] 3)).alloc (.cells #[.bool false] 4) := ⟨_, rfl⟩
  have b2 : Blk v g2 56 #[.int .i64 kind, .int .i64 unit, .int .i64 block, .int .i64 many, .slice A m c, .int .i64 op, .int .i64 who, .int .i64 key, .int .i64 new, .int .i64 ty, .bool st] := by rw [hv, hg2]; exact ((Blk.new _ _ _).alloc _).alloc _
  have b3 : Blk v g3 3 #[.int .i64 most] := by
    have := (Blk.new (w.alloc (.cells #[.int .i64 kind, .int .i64 unit, .int .i64 block, .int .i64 many, .slice A m c, .int .i64 op, .int .i64 who, .int .i64 key, .int .i64 new, .int .i64 ty, .bool st] 56)) 3 #[.int .i64 most]).alloc (.cells #[.bool false] 4)
    rw [World.size_alloc] at this
    rw [hv, hg3]; exact this
  have b4 : Blk v g4 4 #[.bool false] := by
    have := Blk.new ((w.alloc (.cells #[.int .i64 kind, .int .i64 unit, .int .i64 block, .int .i64 many, .slice A m c, .int .i64 op, .int .i64 who, .int .i64 key, .int .i64 new, .int .i64 ty, .bool st] 56)).alloc (.cells #[.int .i64 most] 3)) 4 #[.bool false]
    rw [World.size_alloc, World.size_alloc] at this
    rw [hv, hg4]; exact this
  have hbv : Below w.heap.size w v := by rw [hv]; exact (((Below.refl _ _).alloc (Nat.le_refl _) _).alloc (by simp) _).alloc (by simp only [World.size_alloc]; omega) _
  have hz := hbv.size
  have hg4v := b4.lt
  have hG : g2 < g3 ∧ g3 < g4 ∧ w.heap.size ≤ g2 := by omega
  have HS0 := Lib.hid (show Stay w [(g2, 56, #[.int .i64 kind, .int .i64 unit, .int .i64 block, .int .i64 many, .slice A m c, .int .i64 op, .int .i64 who, .int .i64 key, .int .i64 new, .int .i64 ty, .bool st]), (g3, 3, #[.int .i64 most]), (g4, 4, #[.bool false])] (fun _ => False) v from ⟨fun p hp => by
    simp only [List.mem_cons, List.not_mem_nil, or_false] at hp
    rcases hp with rfl | rfl | rfl
    · exact ⟨fun e => e, b2⟩
    · exact ⟨fun e => e, b3⟩
    · exact ⟨fun e => e, b4⟩, hbv⟩)
  have HD := Lib.hid w0
  have HV := Lib.hid hv
  have HG2 := Lib.hid hg2
  have HG3 := Lib.hid hg3
  have HG4 := Lib.hid hg4
  have HB2 := Lib.hid b2
  have HB4 := Lib.hid b4
  clear hv hg2 hg3 hg4 w0 b2 b3 b4
  refine calls_of_wp_marks Try.func12 rfl ?_
  simp only [Try.ntmps12, List.size_toArray, List.length_cons, List.length_nil, Nat.reduceAdd, Nat.reduceSub, Array.replicate_succ, Array.replicate_zero, List.push_toArray, List.append_toArray, List.nil_append, List.cons_append]
  go_wp2_with (first
    | (go_at_call 28; (fail_if_success have hx := X0); rw [← HV.out, ← HG4.out, ← HG3.out, ← HG2.out]; refine (example_c v).mono ?_; rintro e wa ⟨rfl, hba⟩; have hza := hba.size; have X0 := True.intro)
    | (go_at_call 27; refine (cenc_ex wa).mono ?_; rintro e wb ⟨Ab, cb, rfl, hob, hbb⟩; have hvb := hba.trans (hbb.mono hza); have hzb := hvb.size; have b2b := HB2.out.below hvb HB2.out.lt; clear hob)
    | ((with_reducible show wpList _ _ _ (Oper.mk (some 25) (Op.load 56 _) _ _ _ _ :: _) _ _); refine wpList_load_whole rfl 56 (.tmp 2) rfl (g2) rfl #[.int .i64 kind, .int .i64 unit, .int .i64 block, .int .i64 many, .slice A m c, .int .i64 op, .int .i64 who, .int .i64 key, .int .i64 new, .int .i64 ty, .bool st] aggCm rfl _ (b2b) ?_)
    | (go_at_call 29; refine (large15_c kind unit block many op who key new ty st hmx false (decide_eq_false (by omega))).mono ?_; rintro e w2 ⟨rfl, hb2⟩; have hv2 := hvb.trans (hb2.mono hzb); have hz2 := hv2.size; have b42 := HB4.out.below hv2 HB4.out.lt; have d4 : w2.cell? ⟨g4, 0, none⟩ = some (.bool false) := (by rw [b42.cell]; rfl); have f4 := b42.frozen 0)
    | (go_at_call 28; have hprev := X0; clear hprev; obtain ⟨g7, hg7⟩ : ∃ g, g = w2.heap.size := ⟨_, rfl⟩; obtain ⟨w3, hw3⟩ : ∃ w3, w3 = w2.alloc (.cells #[.int .i64 0] 3) := ⟨_, rfl⟩; rw [← hw3, ← hg7]; have b73 : Blk w3 g7 3 #[.int .i64 0] := (by rw [hw3, hg7]; exact Blk.new _ _ _); have h23 : Below w2.heap.size w2 w3 := (by rw [hw3]; exact below_alloc _ _); have hv3 := hv2.trans (h23.mono hz2); have hz3 := hv3.size; have hg74 : g4 < g7 := (by omega); clear hg7 hw3 d4 f4 b42; refine (example_c w3).mono ?_; rintro e w4 ⟨rfl, hb4⟩; have hv4 := hv3.trans (hb4.mono hz3); have hz4 := hv4.size; have b74 := b73.below hb4 b73.lt)
    | (go_at_call 39; (fail_if_success have hx := K0); refine (blocks_c 1 1 2 3 0 0 0 0 0 false (SlB.nil w4 0 none) (Nat.zero_le _) (by omega) ⟨by decide, by decide, by decide, by decide⟩ ⟨by decide, by decide, by decide, by decide⟩ 3 384 384 (fun _ => rfl) (fun h => absurd okB_ex h) rfl rfl).mono ?_; rintro e w5 ⟨gq, Aq, cq, rfl, hgq, p2, p3, p4, hoq, hnq, hb5⟩; have hv5 := hv4.trans (hb5.mono hz4); have hz5 := hv5.size; have b75 := b74.below hb5 b74.lt; have K0 := True.intro))
  have st5 : Stay w [(g2, 56, #[.int .i64 kind, .int .i64 unit, .int .i64 block, .int .i64 many, .slice A m c, .int .i64 op, .int .i64 who, .int .i64 key, .int .i64 new, .int .i64 ty, .bool st]), (g3, 3, #[.int .i64 most]), (g4, 4, #[.bool false])] (fun k => k = g7) w5 := (HS0.out.on hv5).imp (fun p hp => by
    simp only [List.mem_cons, List.not_mem_nil, or_false] at hp
    rcases hp with rfl | rfl | rfl <;> (show ¬ _ = g7; omega))
  have hz5w := st5.2.size
  have hg7l := b74.lt
  have hg75 := b75.lt
  have HB75 := Lib.hid b75
  have HS5 := Lib.hid st5
  have HP2 := Lib.hid p2
  have HP3 := Lib.hid p3
  have HP4 := Lib.hid p4
  have HOQ := Lib.hid hoq
  clear b75 st5 p2 p3 p4 hoq b73 b74
  refine wp_at fun a0 ha0 => ?_
  refine wp_range (O := fun k => k = g7) (a := a0) (by rw [ha0]; rfl) (enters_of Try.func61 (by kernel_rfl) rfl) (blocks_iter (M := 3) (block := 2) HP3.out HP2.out rfl HP4.out HOQ.out (by omega) (by omega) (fun _ => by omega)) (Below.refl _ _) (fun _ => rfl) (fun k hk => ⟨⟨by rw [hk]; omega, by rw [hk]; omega, by rw [hk]; omega, by rw [hk]; exact not_wrote HOQ.out (by omega)⟩, by rw [hk]; exact hg75⟩)
    (fun O' pre W' => Stay w [(g2, 56, #[.int .i64 kind, .int .i64 unit, .int .i64 block, .int .i64 many, .slice A m c, .int .i64 op, .int .i64 who, .int .i64 key, .int .i64 new, .int .i64 ty, .bool st]), (g3, 3, #[.int .i64 most]), (g4, 4, #[.bool false])] O' W' ∧ O' g7 ∧ Blk W' g7 3 #[.int .i64 (pre.length : Int)])
    (fun c pre W' => False) (fun O' => ownFrom_of fun s X X' hs hc => ⟨hs.1.calm hc hz5w, hs.2.1, hc.blk hs.2.2⟩) (fun c => ownFrom_of fun s X X' hs hc => hs) ⟨HS5.out, rfl, HB75.out⟩
    (fun O' pre x a' W' => (Stay w [(g2, 56, #[.int .i64 kind, .int .i64 unit, .int .i64 block, .int .i64 many, .slice A m c, .int .i64 op, .int .i64 who, .int .i64 key, .int .i64 new, .int .i64 ty, .bool st]), (g3, 3, #[.int .i64 most]), (g4, 4, #[.bool false])] O' W' ∧ O' g7 ∧ Blk W' g7 3 #[.int .i64 (pre.length : Int)]) ∧ x = pre.length ∧ x < 3 ∧ a' = { tmps := (a0.tmps.setIfInBounds 29 (.int .i64 (2 + (x : Int)))).setIfInBounds 30 (.agg (arr8 (blkAt ([] ++ List.replicate 384 0) x))), defers := [] })
    (fun O' pre x a' => ownFrom_of fun s X X' hs hc => ⟨⟨hs.1.1.calm hc hz5w, hs.1.2.1, hc.blk hs.1.2.2⟩, hs.2⟩) ?_ ?_ ?_ ?_
  · rintro l' O' pre x W' K hI ⟨hx1, hx2⟩ hK
    simp only [fold_two]
    refine wpIn_skip ?_
    exact hK O' _ _ (Kept.refl _ _) ⟨hI, hx1, hx2, rfl⟩
  · rintro l' O' pre x a' W' ⟨⟨sx, ho, bf⟩, hx1, hx2, rfl⟩
    subst ha0
    rw [← hx1] at bf
    have df : W'.cell? ⟨g7, 0, none⟩ = some (.int .i64 (x : Int)) := by rw [bf.cell]; rfl
    have ff : W'.frozen? ⟨g7, 0, none⟩ = false := bf.frozen 0
    obtain ⟨V, hV⟩ : ∃ V, V = W'.setCell ⟨g7, 0, none⟩ (.int .i64 ((x : Int) + 1)) := ⟨_, rfl⟩
    have bfV : Blk V g7 3 #[.int .i64 ((x : Int) + 1)] := by rw [hV]; simpa using bf.set_ 0 (.int .i64 ((x : Int) + 1))
    have stV : Stay w [(g2, 56, #[.int .i64 kind, .int .i64 unit, .int .i64 block, .int .i64 many, .slice A m c, .int .i64 op, .int .i64 who, .int .i64 key, .int .i64 new, .int .i64 ty, .bool st]), (g3, 3, #[.int .i64 most]), (g4, 4, #[.bool false])] O' V := by rw [hV]; exact sx.step (grownBy_setCell _ g7 0 _) ho (by omega)
    have hkV : Kept O' O' W' V := by rw [hV]; exact Kept.setCell ho 0 _
    have d8 : V.cell? ⟨g7, 0, none⟩ = some (.int .i64 ((x : Int) + 1)) := by rw [bfV.cell]; rfl
    rw [hV] at d8
    have HVV := Lib.hid hV
    have hpl : (((pre ++ [x]).length : Nat) : Int) = (x : Int) + 1 := by rw [List.length_append, List.length_cons, List.length_nil, hx1]; rfl
    have HPL := Lib.hid hpl
    have HS := Lib.hid stV
    have HB := Lib.hid bfV
    have HKV := Lib.hid hkV
    have hx0 : (0 : Int) ≤ (x : Int) := by omega
    have hxb : (x : Int) ≤ 3 := by omega
    have hx3 : ¬ (3 : Int) < (x : Int) + 1 := by omega
    clear hpl stV bfV hkV hV sx bf hx1
    simp only [List.setIfInBounds_toArray, List.set_cons_succ, List.set_cons_zero]
    gi_wp2
    rw [← HVV.out]
    exact ⟨O', HKV.out, HS.out, ho, by simp only [HPL.out]; exact HB.out⟩
  · rintro D O' ys W' hD hys ⟨sx, ho, bf⟩ hK
    have h3 : ys.length = 3 := by rw [hys, len_upTo]
    rw [h3] at bf
    subst ha0
    obtain ⟨u, hu⟩ : ∃ u : Nat, IntKind.u64.wrap most = (u : Int) := ⟨(IntKind.u64.wrap most).toNat, by rw [Int.toNat_of_nonneg (wrap_u64_nn _)]⟩
    obtain ⟨kk, hkk⟩ : ∃ kk : Nat, kk = u % 20 := ⟨_, rfl⟩
    obtain ⟨mm, hmm⟩ : ∃ mm : Nat, mm = 1 + kk := ⟨_, rfl⟩
    have hM1 : 1 ≤ mm := by omega
    have hM20 : mm ≤ 20 := by omega
    have htm : ((u : Int)).tmod 20 = (kk : Int) := by rw [Int.tmod_eq_emod_of_nonneg (by omega)]; omega
    have hmd : (u : Int) % 20 = (kk : Int) := by omega
    have hMi : 1 + (kk : Int) = (mm : Int) := by omega
    have hu20 : (kk : Int) < 20 := by omega
    have hu0 : (0 : Int) ≤ (kk : Int) := by omega
    clear hkk hmm
    have c3 := (sx.1 _ (List.Mem.tail _ (List.Mem.head _))).2
    have d3 : W'.cell? ⟨g3, 0, none⟩ = some (.int .i64 most) := by rw [c3.cell]; rfl
    have f3 : W'.frozen? ⟨g3, 0, none⟩ = false := c3.frozen 0
    have hDn : D < W'.heap.size := by
      rcases Nat.lt_or_ge D W'.heap.size with h | h
      · exact h
      · rw [Array.getElem?_eq_none h] at hK; cases hK
    obtain ⟨V6, hV6⟩ : ∃ V6, V6 = W'.setCell ⟨g3, 0, none⟩ (.int .i64 (mm : Int)) := ⟨_, rfl⟩
    have s6 : Stay w [(g2, 56, #[.int .i64 kind, .int .i64 unit, .int .i64 block, .int .i64 many, .slice A m c, .int .i64 op, .int .i64 who, .int .i64 key, .int .i64 new, .int .i64 ty, .bool st]), (g3, 3, #[.int .i64 (mm : Int)]), (g4, 4, #[.bool false]), (g7, 3, #[.int .i64 3])] (fun _ => False) V6 := by
      rw [hV6]
      refine ⟨fun p hp => ?_, sx.2.setCell (p := ⟨g3, 0, none⟩) (by show w.heap.size ≤ g3; omega) _⟩
      simp only [List.mem_cons, List.not_mem_nil, or_false] at hp
      rcases hp with rfl | rfl | rfl | rfl
      · exact ⟨fun e => e, (sx.1 _ (List.Mem.head _)).2.far (by show g2 ≠ g3; omega) _⟩
      · exact ⟨fun e => e, by simpa using c3.set_ 0 (.int .i64 (mm : Int))⟩
      · exact ⟨fun e => e, (sx.1 _ (List.Mem.tail _ (List.Mem.tail _ (List.Mem.head _)))).2.far (by show g4 ≠ g3; omega) _⟩
      · exact ⟨fun e => e, bf.far (by show g7 ≠ g3; omega) _⟩
    have hK6 : V6.heap[D]? = some (.deferred (some [])) := by rw [hV6]; exact (Below.heap_setCell _ _ _ _ (by show D ≠ g3; omega)).trans hK
    have hz6 : V6.heap.size = W'.heap.size := by rw [hV6, World.size_setCell]
    obtain ⟨g8, hg8⟩ : ∃ g, g = W'.heap.size := ⟨_, rfl⟩
    obtain ⟨V7, hV7⟩ : ∃ V7, V7 = V6.alloc (.cells #[.int .i64 0] 3) := ⟨_, rfl⟩
    have b87 : Blk V7 g8 3 #[.int .i64 0] := by rw [hV7, hg8, ← hz6]; exact Blk.new _ _ _
    have h67 : Below V6.heap.size V6 V7 := by rw [hV7]; exact below_alloc _ _
    have s7 := s6.on h67
    have hK7 := (h67.block D (by omega)).trans hK6
    have hg8D : D < g8 ∧ g7 < g8 := by have := bf.lt; omega
    have hg87 : g8 < V7.heap.size := b87.lt
    have HV6 := Lib.hid hV6
    have HV7 := Lib.hid hV7
    have HG8 := Lib.hid hg8
    have HS7 := Lib.hid s7
    have HB87 := Lib.hid b87
    have HK7 := Lib.hid hK7
    clear hV6 hV7 hg8 s6 s7 b87 h67 hK6 hK7 hz6 sx bf hK c3 hys ho
    go_wp2_with (first
      | ((with_reducible show wpList _ _ _ (Oper.mk (some 40) (Op.load 56 _) _ _ _ _ :: _) _ _); rw [← HV6.out, ← HV7.out, ← HG8.out]; refine wpList_load_whole rfl 56 (.tmp 2) rfl g2 rfl #[.int .i64 kind, .int .i64 unit, .int .i64 block, .int .i64 many, .slice A m c, .int .i64 op, .int .i64 who, .int .i64 key, .int .i64 new, .int .i64 ty, .bool st] aggCm rfl _ (HS7.out.1 _ (List.Mem.head _)).2 ?_)
      | (go_at_call 34; refine (hrc V7 HS7.out.2).mono ?_; rintro e w8 ⟨rfl, hb8⟩; have s8 := HS7.out.on hb8; have b88 := HB87.out.below hb8 HB87.out.lt; have hK8 := (hb8.block D (by omega)).trans HK7.out; have hz8 := hb8.size; have k20 : w8.cell? ⟨g2, 0, none⟩ = some (.int .i64 kind) := (by rw [s8.cell (List.Mem.head _)]; rfl); have k23 : w8.cell? ⟨g2, 3, none⟩ = some (.int .i64 many) := (by rw [s8.cell (List.Mem.head _)]; rfl); have d8 : w8.cell? ⟨g8, 0, none⟩ = some (.int .i64 0) := (by rw [b88.cell]; rfl); have f8 := b88.frozen 0; have e1 : (kind == 1) = true := (by rw [HK.out]; rfl); have e2 : (kind == 2) = false := (by rw [HK.out]; rfl))
      | ((with_reducible show wpList _ _ _ (Oper.mk (some 55) (Op.load 56 _) _ _ _ _ :: _) _ _); obtain ⟨V9, hV9⟩ : ∃ V9, V9 = w8.setCell ⟨g8, 0, none⟩ (.int .i64 many) := ⟨_, rfl⟩; rw [← hV9]; have s9 : Stay w [(g2, 56, #[.int .i64 kind, .int .i64 unit, .int .i64 block, .int .i64 many, .slice A m c, .int .i64 op, .int .i64 who, .int .i64 key, .int .i64 new, .int .i64 ty, .bool st]), (g3, 3, #[.int .i64 (mm : Int)]), (g4, 4, #[.bool false]), (g7, 3, #[.int .i64 3]), (g8, 3, #[.int .i64 (M : Int)])] (fun _ => False) V9 := (by rw [hV9]; exact Stay.snoc (s8.far (fun p hp => by simp only [List.mem_cons, List.not_mem_nil, or_false] at hp; rcases hp with rfl | rfl | rfl | rfl <;> (show _ ≠ g8; omega)) (by omega) 0 _) (fun e => e) (by have := b88.set_ 0 (.int .i64 many); rw [← HMY.out HOK.out] at this ⊢; simpa using this)); have hz9 : V9.heap.size = w8.heap.size := (by rw [hV9, World.size_setCell]); have hK9 : V9.heap[D]? = some (.deferred (some [])) := (by rw [hV9]; exact (Below.heap_setCell _ _ _ _ (by show D ≠ g8; omega)).trans hK8); obtain ⟨g9, hg9⟩ : ∃ g, g = w8.heap.size := ⟨_, rfl⟩; obtain ⟨V10, hV10⟩ : ∃ V10, V10 = V9.alloc (.cells #[.int .i64 0] 3) := ⟨_, rfl⟩; rw [← hV10, ← hg9]; have h90 : Below V9.heap.size V9 V10 := (by rw [hV10]; exact below_alloc _ _); have s10 := s9.on h90; have b90 : Blk V10 g9 3 #[.int .i64 0] := (by rw [hV10, hg9, ← hz9]; exact Blk.new _ _ _); have hK10 := (h90.block D (by omega)).trans hK9; have hg98 : g8 < g9 := (by omega); have hg910 : g9 < V10.heap.size := b90.lt; clear hV9 hV10 hg9 s9 h90 hK9 hz9 k20 k23 d8 f8 s8 b88 hK8; refine wpList_load_whole rfl 56 (.tmp 2) rfl g2 rfl #[.int .i64 kind, .int .i64 unit, .int .i64 block, .int .i64 many, .slice A m c, .int .i64 op, .int .i64 who, .int .i64 key, .int .i64 new, .int .i64 ty, .bool st] aggCm rfl _ (s10.1 _ (List.Mem.head _)).2 ?_)
      | (go_at_call 39; have hprev := K0; clear hprev; refine (blocks_c kind unit block many op who key new ty st (HD.out.below s10.2) s10.2.size (by omega) HX.out HY.out M z N HMY.out HMN.out HZZ.out HNN.out).mono ?_; rintro e w11 ⟨gr, Ar, cr, rfl, hgr, q2, q3, q4, hor, hnr, hb11⟩; have s11 := s10.on hb11; have b911 := b90.below hb11 b90.lt; have hK11 := (hb11.block D (by omega)).trans hK10; have hz11 := hb11.size; clear s10 b90 hK10))
    have hz11w := s11.2.size
    have hg911 := b911.lt
    have hMle : M ≤ 65536 := by have h := HMY.out HOK.out; have h2 := HOK.out.2.2.2.2; have := HOK.out.1.2.2.2.2.1; omega
    have hN128 : 128 * M ≤ N := by have := HZZ.out; have := HNN.out; omega
    have hDall : D < w11.heap.size := by omega
    have hbl : 0 < M → 0 ≤ block ∧ block ≤ 65536 := by intro _; have h2 := HOK.out.2.2.2; have := HOK.out.1.2.2.2.2.1; omega
    have HLB := Lib.hid (show ∀ x, x < M → (blkAt (ds ++ List.replicate z 0) x).length = 128 from fun x hx => len_blkAt (M := M) (by rw [OwB.len hor]; exact hN128) hx)
    have HZ1 := Lib.hid (show ∀ x, x < M → blkAt (ds ++ List.replicate z 0) x = List.replicate 128 0 from fun x hx => by
      have hm0 : m = 0 := HOK.out.1.2.2.2.2.2.2.2.2.2.1 (by rw [HK.out]; decide)
      have : ds = [] := List.eq_nil_of_length_eq_zero (by rw [HLEN.out, hm0])
      rw [this, List.nil_append]
      exact blk_zero (by have := HZZ.out; omega) hx)
    have HS11 := Lib.hid s11
    have HB911 := Lib.hid b911
    have HK11 := Lib.hid hK11
    have HQ2 := Lib.hid q2
    have HQ3 := Lib.hid q3
    have HQ4 := Lib.hid q4
    have HOR := Lib.hid hor
    clear s11 b911 hK11 q2 q3 q4 hor
    refine wp_at fun a1 ha1 => ?_
    refine wp_range (O := fun k => k = g9) (a := a1) (by rw [ha1]; rfl) (enters_of Try.func61 (by kernel_rfl) rfl) (blocks_iter (M := M) (block := block) HQ3.out HQ2.out rfl HQ4.out HOR.out hMle hN128 hbl) (Below.refl _ _) (fun _ => rfl) (fun k hk => ⟨⟨by rw [hk]; omega, by rw [hk]; omega, by rw [hk]; omega, by rw [hk]; exact not_wrote HOR.out (by omega)⟩, by rw [hk]; exact hg911⟩)
      (fun O' pre W' => Stay w [(g2, 56, #[.int .i64 kind, .int .i64 unit, .int .i64 block, .int .i64 many, .slice A m c, .int .i64 op, .int .i64 who, .int .i64 key, .int .i64 new, .int .i64 ty, .bool st]), (g3, 3, #[.int .i64 (mm : Int)]), (g4, 4, #[.bool false]), (g7, 3, #[.int .i64 3]), (g8, 3, #[.int .i64 (M : Int)])] O' W' ∧ O' g9 ∧ Blk W' g9 3 #[.int .i64 (pre.length : Int)] ∧ W'.heap[D]? = some (.deferred (some [])) ∧ pre.length < mm)
      (fun cx pre W' => cx = .exit 2 ∧ (∃ O', Stay w [(g2, 56, #[.int .i64 kind, .int .i64 unit, .int .i64 block, .int .i64 many, .slice A m c, .int .i64 op, .int .i64 who, .int .i64 key, .int .i64 new, .int .i64 ty, .bool st]), (g3, 3, #[.int .i64 (mm : Int)]), (g4, 4, #[.bool false]), (g7, 3, #[.int .i64 3]), (g8, 3, #[.int .i64 (M : Int)])] O' W') ∧ Blk W' g9 3 #[.int .i64 (pre.length : Int)] ∧ W'.heap[D]? = some (.deferred (some [])) ∧ pre.length = mm ∧ pre.length ≤ M)
      (fun O' => ownFrom_of fun s X X' hs hc => ⟨hs.1.calm hc hz11w, hs.2.1, hc.blk hs.2.2.1, calm_heap hc hDall hs.2.2.2.1, hs.2.2.2.2⟩) (fun c => ownFrom_of fun s X X' hs hc => ⟨hs.1, by obtain ⟨O', h⟩ := hs.2.1; exact ⟨O', h.calm hc hz11w⟩, hc.blk hs.2.2.1, calm_heap hc hDall hs.2.2.2.1, hs.2.2.2.2⟩) ⟨HS11.out.imp (fun p hp => by
        simp only [List.mem_cons, List.not_mem_nil, or_false] at hp
        rcases hp with rfl | rfl | rfl | rfl | rfl <;> (show ¬ _ = g9; omega)), rfl, HB911.out, HK11.out, by show 0 < mm; omega⟩
      (fun O' pre x a' W' => (Stay w [(g2, 56, #[.int .i64 kind, .int .i64 unit, .int .i64 block, .int .i64 many, .slice A m c, .int .i64 op, .int .i64 who, .int .i64 key, .int .i64 new, .int .i64 ty, .bool st]), (g3, 3, #[.int .i64 (mm : Int)]), (g4, 4, #[.bool false]), (g7, 3, #[.int .i64 3]), (g8, 3, #[.int .i64 (M : Int)])] O' W' ∧ O' g9 ∧ Blk W' g9 3 #[.int .i64 (pre.length : Int)] ∧ W'.heap[D]? = some (.deferred (some [])) ∧ pre.length < mm) ∧ x = pre.length ∧ x < M ∧ ∃ gx, Blk W' gx 75 (arr8 (blkAt (ds ++ List.replicate z 0) x)) ∧ a' = { tmps := (((a1.tmps.setIfInBounds 57 (.int .i64 (block + (x : Int)))).setIfInBounds 58 (.agg (arr8 (blkAt (ds ++ List.replicate z 0) x)))).setIfInBounds 10 (.int .i64 (block + (x : Int)))).setIfInBounds 11 (.pointer (some ⟨gx, 0, none⟩)), defers := [] })
      (fun O' pre x a' => ownFrom_of fun s X X' hs hc => ⟨⟨hs.1.1.calm hc hz11w, hs.1.2.1, hc.blk hs.1.2.2.1, calm_heap hc hDall hs.1.2.2.2.1, hs.1.2.2.2.2⟩, hs.2.1, hs.2.2.1, by obtain ⟨gx, h2, h3⟩ := hs.2.2.2; exact ⟨gx, hc.blk h2, h3⟩⟩) ?_ ?_ ?_ ?_
    · rintro l' O' pre x W' K ⟨sx, ho, b9, hKD, hlt⟩ ⟨hx1, hx2⟩ hK
      have HX1 := Lib.hid hx1
      clear hx1
      simp only [fold_two]
      subst ha1
      simp only [List.setIfInBounds_toArray, List.set_cons_succ, List.set_cons_zero]
      refine wpIn_seq_k fun K1 hK1 => ?_
      have HK1 := Lib.hid hK1
      clear hK1
      gi_wp2
      refine HK1.out _ _ ?_
      refine wpIn_region_of (free_rd l') rfl (fun ⟨_, _, h⟩ => h) ?_
      refine wpList_alloc_agg rfl 75 rfl (arr8 (List.replicate 128 0)) zeroC ?_
      refine wpList_store8 rfl 75 (.tmp 11) (.tmp 58) rfl W'.heap.size rfl (blkAt (ds ++ List.replicate z 0) x) rfl aggC (HLB.out x hx2) _ _ (Blk.new _ _ _) (by rw [size_arr8]; simp) ?_
      intro W5 hb5' hg5 hs5
      have hbb : Below W'.heap.size W' W5 := ((Below.refl _ _).alloc (Nat.le_refl _) _).grown hg5 (by simp) (fun k hk => by cases hk; exact Nat.le_refl _)
      have hDW : D < W'.heap.size := (Array.getElem?_eq_some_iff.1 hKD).1
      exact hK O' _ _ (Kept.below hbb) ⟨⟨sx.on hbb, ho, b9.below hbb b9.lt, (hbb.block D hDW).trans hKD, hlt⟩, HX1.out, hx2, W'.heap.size, hb5', rfl⟩
    · rintro l' O' pre x a' W' ⟨⟨sx, ho, b9, hKD, hlt⟩, hx1, hx2, gx, hbx, rfl⟩
      subst ha1
      rw [← hx1] at b9 hlt
      have hxg : gx ≠ g9 := fun e => by
        have h1 := b9
        rw [← e, Blk, show W'.heap[gx]? = _ from hbx] at h1
        simp at h1
      have k9 : W'.cell? ⟨g9, 0, none⟩ = some (.int .i64 (x : Int)) := by rw [b9.cell]; rfl
      have k8 : W'.cell? ⟨g8, 0, none⟩ = some (.int .i64 (M : Int)) := by rw [sx.cell (List.Mem.tail _ (List.Mem.tail _ (List.Mem.tail _ (List.Mem.tail _ (List.Mem.head _)))))]; rfl
      have k22 : W'.cell? ⟨g2, 2, none⟩ = some (.int .i64 block) := by rw [sx.cell (List.Mem.head _)]; rfl
      have hil : ¬ (M : Int) ≤ (x : Int) := by omega
      have hne1 : ((block + (x : Int)) != (block + (x : Int))) = false := by simp
      obtain ⟨hb0, hb1⟩ := hbl (by omega)
      have hx0 : (0 : Int) ≤ (x : Int) := by omega
      have hxb : (x : Int) ≤ 65536 := by omega
      have HX1 := Lib.hid hx1
      have HSX := Lib.hid sx
      have HB9 := Lib.hid b9
      have HKD := Lib.hid hKD
      have HBX := Lib.hid hbx
      have HLT := Lib.hid hlt
      clear sx b9 hKD hbx hx1 hlt
      simp only [List.setIfInBounds_toArray, List.set_cons_succ, List.set_cons_zero]
      refine wpIn_block ?_
      refine wpIn_seq_k fun K1 hK1 => ?_
      have HK1 := Lib.hid hK1
      clear hK1
      gi_wp2
      refine HK1.out _ _ ?_
      refine wpIn_seq_k fun K2 hK2 => ?_
      have HK2 := Lib.hid hK2
      clear hK2
      refine wpIn_region_of (free_rd l') rfl (fun ⟨_, _, h⟩ => h) ?_
      refine wpList_build rfl 75 _ rfl #[] (by simp only [List.map_toArray, List.map_nil]) _ (buildC _) ?_
      refine wpList_alloc_agg rfl 75 rfl (arr8 (List.replicate 128 0)) zeroC ?_
      refine wpList_store8 rfl 75 (.tmp 12) (.tmp 70) rfl W'.heap.size rfl (List.replicate 128 0) rfl aggC (by simp) _ _ (Blk.new _ _ _) (by rw [size_arr8]; simp) ?_
      intro W5 bw hg5 hs5
      have h5 : Below W'.heap.size W' W5 := ((Below.refl _ _).alloc (Nat.le_refl _) _).grown hg5 (by simp) (fun k hk => by cases hk; exact Nat.le_refl _)
      have hDW : D < W'.heap.size := (Array.getElem?_eq_some_iff.1 HKD.out).1
      have hg9W := HB9.out.lt
      have hgxW := HBX.out.lt
      obtain ⟨gw, hgw⟩ : ∃ gw, gw = W'.heap.size := ⟨_, rfl⟩
      rw [← hgw] at bw ⊢
      have HS5 := Lib.hid (HSX.out.on h5)
      have HB95 := Lib.hid (HB9.out.below h5 HB9.out.lt)
      have HBX5 := Lib.hid (HBX.out.below h5 HBX.out.lt)
      have HKD5 := Lib.hid ((h5.block D hDW).trans HKD.out)
      have HKP5 := Lib.hid (show Kept O' O' W' W5 from Kept.below h5)
      have hz5' := h5.size
      have hgw5 := bw.lt
      have hgwW : W'.heap.size ≤ gw := by omega
      clear hg5 hs5 hgw
      refine wpList_nil ?_
      refine HK2.out _ _ ?_
      refine wpIn_seq_k fun K3 hK3 => ?_
      have HK3 := Lib.hid hK3
      clear hK3
      have k20 : W5.cell? ⟨g2, 0, none⟩ = some (.int .i64 kind) := by rw [HS5.out.cell (List.Mem.head _)]; rfl
      gi_wp2
      rw [← HZ1.out x hx2] at bw
      have HS6 := HS5
      have HB96 := HB95
      have HBX6 := HBX5
      have HKD6 := HKD5
      have HKP6 := HKP5
      have HBW6 := Lib.hid bw
      obtain ⟨W6, hW6⟩ : ∃ W6, W6 = W5 := ⟨_, rfl⟩
      rw [← hW6] at HS6 HB96 HBX6 HKD6 HKP6 HBW6 ⊢
      clear hW6
      refine HK3.out _ _ ?_
      refine wpIn_seq_k fun K4 hK4 => ?_
      have HK4 := Lib.hid hK4
      clear hK4
      refine wpIn_seq_k fun K5 hK5 => ?_
      have HK5 := Lib.hid hK5
      clear hK5
      refine wpIn_region_of (free_rd l') rfl (fun ⟨_, _, h⟩ => h) ?_
      have he := eqC (blkAt (ds ++ List.replicate z 0) x) (blkAt (ds ++ List.replicate z 0) x) (HLB.out x hx2) (HLB.out x hx2) true (by simp)
      have hgd := guardC
      go_wp2_with (first
        | ((with_reducible show wpList _ _ _ (Oper.mk (some 84) (Op.load 75 _) _ _ _ _ :: _) _ _); refine wpList_load_whole (by rfl) 75 (.tmp 11) rfl gx rfl (arr8 (blkAt (ds ++ List.replicate z 0) x)) aggC (by rw [size_arr8]; exact HLB.out x hx2) 75 HBX6.out ?_)
        | ((with_reducible show wpList _ _ _ (Oper.mk (some 85) (Op.load 75 _) _ _ _ _ :: _) _ _); refine wpList_load_whole (by rfl) 75 (.tmp 12) rfl gw rfl (arr8 (blkAt (ds ++ List.replicate z 0) x)) aggC (by rw [size_arr8]; exact (HLB.out x hx2)) 75 HBW6.out ?_))
      refine HK5.out _ _ ?_
      gi_wp2
      refine HK4.out _ _ ?_
      have k96 : W6.cell? ⟨g9, 0, none⟩ = some (.int .i64 (x : Int)) := by rw [HB96.out.cell]; rfl
      have f96 : W6.frozen? ⟨g9, 0, none⟩ = false := HB96.out.frozen 0
      obtain ⟨V, hV⟩ : ∃ V, V = W6.setCell ⟨g9, 0, none⟩ (.int .i64 ((x : Int) + 1)) := ⟨_, rfl⟩
      have bV : Blk V g9 3 #[.int .i64 ((x : Int) + 1)] := by rw [hV]; simpa using HB96.out.set_ 0 (.int .i64 ((x : Int) + 1))
      have sV : Stay w [(g2, 56, #[.int .i64 kind, .int .i64 unit, .int .i64 block, .int .i64 many, .slice A m c, .int .i64 op, .int .i64 who, .int .i64 key, .int .i64 new, .int .i64 ty, .bool st]), (g3, 3, #[.int .i64 (mm : Int)]), (g4, 4, #[.bool false]), (g7, 3, #[.int .i64 3]), (g8, 3, #[.int .i64 (M : Int)])] O' V := by rw [hV]; exact HS6.out.step (grownBy_setCell _ g9 0 _) ho (by omega)
      have hkV : Kept O' O' W' V := by rw [hV]; exact HKP6.out.trans (Kept.setCell ho 0 _)
      have hKV : V.heap[D]? = some (.deferred (some [])) := by rw [hV]; exact (Below.heap_setCell _ _ _ _ (by show D ≠ g9; omega)).trans HKD6.out
      have k9V : V.cell? ⟨g9, 0, none⟩ = some (.int .i64 ((x : Int) + 1)) := by rw [bV.cell]; rfl
      have k3V : V.cell? ⟨g3, 0, none⟩ = some (.int .i64 (mm : Int)) := by rw [sV.cell (List.Mem.tail _ (List.Mem.head _))]; rfl
      rw [hV] at k9V k3V
      have hpl : (pre ++ [x]).length = x + 1 := by rw [List.length_append, List.length_cons, List.length_nil, HX1.out]
      have HPL := Lib.hid hpl
      have HSV := Lib.hid sV
      have HBV := Lib.hid bV
      have HKV := Lib.hid hkV
      have HKDV := Lib.hid hKV
      have HVV := Lib.hid hV
      have hltm := HLT.out
      clear hpl sV bV hkV hKV hV
      by_cases heq : x + 1 = mm
      · have hei : (x : Int) + 1 = (mm : Int) := by omega
        have e9 := HVV.out
        have e10 := HBV.out
        rw [hei] at k9V k3V e9 e10
        have HV9 := Lib.hid e9
        have HV10 := Lib.hid e10
        clear e9 e10
        gi_wp2
        rw [← HV9.out]
        exact ⟨HKV.out.from_ _, rfl, ⟨O', HSV.out⟩, by rw [HPL.out, heq]; exact HV10.out, HKDV.out, by rw [HPL.out]; exact heq, by rw [HPL.out]; omega⟩
      · have hei : ¬ (x : Int) + 1 = (mm : Int) := by omega
        gi_wp2
        rw [← HVV.out]
        exact ⟨O', HKV.out, HSV.out, ho, by rw [HPL.out]; exact HBV.out, HKDV.out, by rw [HPL.out]; omega⟩
    · rintro D2 O2 ys2 W' hD2 hys2 ⟨sx, ho, b9, hKD, hlt⟩ hK2
      have h5 : ys2.length = M := by rw [hys2, len_upTo]
      rw [h5] at b9 hlt
      have hcm1 : (M : Int) < (mm : Int) := by omega
      clear hys2 ho
      have k7 : W'.cell? ⟨g7, 0, none⟩ = some (.int .i64 3) := by rw [sx.cell (List.Mem.tail _ (List.Mem.tail _ (List.Mem.tail _ (List.Mem.head _))))]; rfl
      have k9 : W'.cell? ⟨g9, 0, none⟩ = some (.int .i64 (M : Int)) := by rw [b9.cell]; rfl
      have k3 : W'.cell? ⟨g3, 0, none⟩ = some (.int .i64 (mm : Int)) := by rw [sx.cell (List.Mem.tail _ (List.Mem.head _))]; rfl
      have k8 : W'.cell? ⟨g8, 0, none⟩ = some (.int .i64 (M : Int)) := by rw [sx.cell (List.Mem.tail _ (List.Mem.tail _ (List.Mem.tail _ (List.Mem.tail _ (List.Mem.head _)))))]; rfl
      have c4 := (sx.1 _ (List.Mem.tail _ (List.Mem.tail _ (List.Mem.head _)))).2
      have k4 : W'.cell? ⟨g4, 0, none⟩ = some (.bool false) := by rw [c4.cell]; rfl
      have f4 : W'.frozen? ⟨g4, 0, none⟩ = false := c4.frozen 0
      have hc2 : ((M : Int) == (M : Int)) = true := by simp
      have HC4 := Lib.hid c4
      have HBW := Lib.hid sx.2
      have HKK := Lib.hid hKD
      have HKK2 := Lib.hid hK2
      have hg4w : w.heap.size ≤ g4 := by omega
      have hDg4 : D ≠ g4 := by omega
      have hD24 : D2 ≠ g4 ∧ D2 ≠ D := by omega
      subst ha1
      clear sx b9 hKD hK2 c4
      go_wp2_with fail
      have hb4' : Blk (W'.setCell ⟨g4, 0, none⟩ (.bool true)) g4 4 #[.bool true] := by simpa using HC4.out.set_ 0 (.bool true)
      have hD2' : (W'.setCell ⟨g4, 0, none⟩ (.bool true)).heap[D2]? = some (.deferred (some [])) := (Below.heap_setCell _ _ _ _ hD24.1).trans HKK2.out
      have hD1' : (W'.setCell ⟨g4, 0, none⟩ (.bool true)).heap[D]? = some (.deferred (some [])) := (Below.heap_setCell _ _ _ _ hDg4).trans HKK.out
      have hD1'' := (World.putObj_heap_other (o := .deferred none) (w := W'.setCell ⟨g4, 0, none⟩ (.bool true)) (Ne.symm hD24.2)).trans hD1'
      refine ⟨by simp, .inl ⟨_, _, rfl, run_takeDeferred hD2', ?_⟩⟩
      refine ⟨by simp, .inl ⟨_, _, rfl, run_takeDeferred hD1'', ?_⟩⟩
      refine ⟨_, res_bool rfl _ g4 4 true Try.underlying4 rfl ((World.putObj_heap_other (Ne.symm hDg4)).trans ((World.putObj_heap_other (Ne.symm hD24.1)).trans hb4')), rfl, ?_⟩
      have hbw := HBW.out.setCell (p := ⟨g4, 0, none⟩) hg4w (.bool true)
      have hc2 := (calm_putObj (B := w.heap.size) (.deferred none) (by omega) hD2' rfl).below hbw (Nat.le_refl _) (Nat.le_refl _)
      exact (calm_putObj (B := w.heap.size) (.deferred none) (by omega) hD1'' rfl).below hc2 (Nat.le_refl _) (Nat.le_refl _)
    · rintro D2 cx pre W' hD2 ⟨k, hk, hpre⟩ ⟨rfl, ⟨O2, sx⟩, b9, hKD, hpl, hple⟩ hK2
      rw [hpl] at b9 hple
      have hcm1 : ¬ (M : Int) < (mm : Int) := by omega
      clear hk hpre hpl
      have k7 : W'.cell? ⟨g7, 0, none⟩ = some (.int .i64 3) := by rw [sx.cell (List.Mem.tail _ (List.Mem.tail _ (List.Mem.tail _ (List.Mem.head _))))]; rfl
      have k9 : W'.cell? ⟨g9, 0, none⟩ = some (.int .i64 (mm : Int)) := by rw [b9.cell]; rfl
      have k3 : W'.cell? ⟨g3, 0, none⟩ = some (.int .i64 (mm : Int)) := by rw [sx.cell (List.Mem.tail _ (List.Mem.head _))]; rfl
      have k8 : W'.cell? ⟨g8, 0, none⟩ = some (.int .i64 (M : Int)) := by rw [sx.cell (List.Mem.tail _ (List.Mem.tail _ (List.Mem.tail _ (List.Mem.tail _ (List.Mem.head _)))))]; rfl
      have c4 := (sx.1 _ (List.Mem.tail _ (List.Mem.tail _ (List.Mem.head _)))).2
      have k4 : W'.cell? ⟨g4, 0, none⟩ = some (.bool false) := by rw [c4.cell]; rfl
      have f4 : W'.frozen? ⟨g4, 0, none⟩ = false := c4.frozen 0
      have hc2 : ((mm : Int) == (mm : Int)) = true := by simp
      have HC4 := Lib.hid c4
      have HBW := Lib.hid sx.2
      have HKK := Lib.hid hKD
      have HKK2 := Lib.hid hK2
      have hg4w : w.heap.size ≤ g4 := by omega
      have hDg4 : D ≠ g4 := by omega
      have hD24 : D2 ≠ g4 ∧ D2 ≠ D := by omega
      subst ha1
      clear sx b9 hKD hK2 c4
      go_wp2_with fail
      have hb4' : Blk (W'.setCell ⟨g4, 0, none⟩ (.bool true)) g4 4 #[.bool true] := by simpa using HC4.out.set_ 0 (.bool true)
      have hD2' : (W'.setCell ⟨g4, 0, none⟩ (.bool true)).heap[D2]? = some (.deferred (some [])) := (Below.heap_setCell _ _ _ _ hD24.1).trans HKK2.out
      have hD1' : (W'.setCell ⟨g4, 0, none⟩ (.bool true)).heap[D]? = some (.deferred (some [])) := (Below.heap_setCell _ _ _ _ hDg4).trans HKK.out
      have hD1'' := (World.putObj_heap_other (o := .deferred none) (w := W'.setCell ⟨g4, 0, none⟩ (.bool true)) (Ne.symm hD24.2)).trans hD1'
      refine ⟨by simp, .inl ⟨_, _, rfl, run_takeDeferred hD2', ?_⟩⟩
      refine ⟨by simp, .inl ⟨_, _, rfl, run_takeDeferred hD1'', ?_⟩⟩
      refine ⟨_, res_bool rfl _ g4 4 true Try.underlying4 rfl ((World.putObj_heap_other (Ne.symm hDg4)).trans ((World.putObj_heap_other (Ne.symm hD24.1)).trans hb4')), rfl, ?_⟩
      have hbw := HBW.out.setCell (p := ⟨g4, 0, none⟩) hg4w (.bool true)
      have hc2 := (calm_putObj (B := w.heap.size) (.deferred none) (by omega) hD2' rfl).below hbw (Nat.le_refl _) (Nat.le_refl _)
      exact (calm_putObj (B := w.heap.size) (.deferred none) (by omega) hD1'' rfl).below hc2 (Nat.le_refl _) (Nat.le_refl _)
  · rintro D c pre W' hD _ h
    exact h.elim

set_option maxHeartbeats 4000000 in
theorem walk_A2 (kind unit block many op who key new ty most : Int) (st : Bool) (A : Option Addr) (m c : Nat) (ds : List UInt8) (w : World) (w0 : SlB w w.heap.size A m c ds)
    (HX : Hid ((Lit.int .i64 kind).wf = true ∧ (Lit.int .i64 unit).wf = true ∧ (Lit.int .i64 block).wf = true ∧ (Lit.int .i64 many).wf = true)) (HY : Hid ((Lit.int .i64 op).wf = true ∧ (Lit.int .i64 key).wf = true ∧ (Lit.int .i64 new).wf = true ∧ (Lit.int .i64 ty).wf = true)) (hbi : ¬ (16384 : Int) < (m : Int)) (HOK : Hid (okB kind unit block many m op who key new ty st)) (HK : Hid (kind = 2)) (M z N : Nat) (HMY : Hid (okB kind unit block many m op who key new ty st → (M : Int) = many)) (HMN : Hid (¬ okB kind unit block many m op who key new ty st → M = 0)) (HZZ : Hid (z = 128 * M - m)) (HNN : Hid (N = m + z)) (hrc : ∀ v, Below w.heap.size w v → Calls Try.prog 34 #[.agg #[.int .i64 kind, .int .i64 unit, .int .i64 block, .int .i64 many, .slice A m c, .int .i64 op, .int .i64 who, .int .i64 key, .int .i64 new, .int .i64 ty, .bool st]] v fun e w' => e = .returned (.int .i64 0) ∧ Below v.heap.size v w') :
    Calls Try.prog 12 #[.agg #[.int .i64 kind, .int .i64 unit, .int .i64 block, .int .i64 many, .slice A m c, .int .i64 op, .int .i64 who, .int .i64 key, .int .i64 new, .int .i64 ty, .bool st], .int .i64 most] w fun e w' => e = .returned (.bool true) ∧ Below w.heap.size w w' := by
  have hmx := w0.mx
  have hmc := w0.le
  have HLEN := Lib.hid w0.len
  obtain ⟨g2, hg2⟩ : ∃ g, g = w.heap.size := ⟨_, rfl⟩
  obtain ⟨g3, hg3⟩ : ∃ g, g = w.heap.size + 1 := ⟨_, rfl⟩
  obtain ⟨g4, hg4⟩ : ∃ g, g = w.heap.size + 1 + 1 := ⟨_, rfl⟩
  obtain ⟨v, hv⟩ : ∃ v, v = ((w.alloc (.cells #[.int .i64 kind, .int .i64 unit, .int .i64 block, .int .i64 many, .slice A m c, .int .i64 op, .int .i64 who, .int .i64 key, .int .i64 new, .int .i64 ty, .bool st] 56)).alloc (.cells #[.int .i64 most] 3)).alloc (.cells #[.bool false] 4) := ⟨_, rfl⟩
  have b2 : Blk v g2 56 #[.int .i64 kind, .int .i64 unit, .int .i64 block, .int .i64 many, .slice A m c, .int .i64 op, .int .i64 who, .int .i64 key, .int .i64 new, .int .i64 ty, .bool st] := by rw [hv, hg2]; exact ((Blk.new _ _ _).alloc _).alloc _
  have b3 : Blk v g3 3 #[.int .i64 most] := by
    have := (Blk.new (w.alloc (.cells #[.int .i64 kind, .int .i64 unit, .int .i64 block, .int .i64 many, .slice A m c, .int .i64 op, .int .i64 who, .int .i64 key, .int .i64 new, .int .i64 ty, .bool st] 56)) 3 #[.int .i64 most]).alloc (.cells #[.bool false] 4)
    rw [World.size_alloc] at this
    rw [hv, hg3]; exact this
  have b4 : Blk v g4 4 #[.bool false] := by
    have := Blk.new ((w.alloc (.cells #[.int .i64 kind, .int .i64 unit, .int .i64 block, .int .i64 many, .slice A m c, .int .i64 op, .int .i64 who, .int .i64 key, .int .i64 new, .int .i64 ty, .bool st] 56)).alloc (.cells #[.int .i64 most] 3)) 4 #[.bool false]
    rw [World.size_alloc, World.size_alloc] at this
    rw [hv, hg4]; exact this
  have hbv : Below w.heap.size w v := by rw [hv]; exact (((Below.refl _ _).alloc (Nat.le_refl _) _).alloc (by simp) _).alloc (by simp only [World.size_alloc]; omega) _
  have hz := hbv.size
  have hg4v := b4.lt
  have hG : g2 < g3 ∧ g3 < g4 ∧ w.heap.size ≤ g2 := by omega
  have HS0 := Lib.hid (show Stay w [(g2, 56, #[.int .i64 kind, .int .i64 unit, .int .i64 block, .int .i64 many, .slice A m c, .int .i64 op, .int .i64 who, .int .i64 key, .int .i64 new, .int .i64 ty, .bool st]), (g3, 3, #[.int .i64 most]), (g4, 4, #[.bool false])] (fun _ => False) v from ⟨fun p hp => by
    simp only [List.mem_cons, List.not_mem_nil, or_false] at hp
    rcases hp with rfl | rfl | rfl
    · exact ⟨fun e => e, b2⟩
    · exact ⟨fun e => e, b3⟩
    · exact ⟨fun e => e, b4⟩, hbv⟩)
  have HD := Lib.hid w0
  have HV := Lib.hid hv
  have HG2 := Lib.hid hg2
  have HG3 := Lib.hid hg3
  have HG4 := Lib.hid hg4
  have HB2 := Lib.hid b2
  have HB4 := Lib.hid b4
  clear hv hg2 hg3 hg4 w0 b2 b3 b4
  refine calls_of_wp_marks Try.func12 rfl ?_
  simp only [Try.ntmps12, List.size_toArray, List.length_cons, List.length_nil, Nat.reduceAdd, Nat.reduceSub, Array.replicate_succ, Array.replicate_zero, List.push_toArray, List.append_toArray, List.nil_append, List.cons_append]
  go_wp2_with (first
    | (go_at_call 28; (fail_if_success have hx := X0); rw [← HV.out, ← HG4.out, ← HG3.out, ← HG2.out]; refine (example_c v).mono ?_; rintro e wa ⟨rfl, hba⟩; have hza := hba.size; have X0 := True.intro)
    | (go_at_call 27; refine (cenc_ex wa).mono ?_; rintro e wb ⟨Ab, cb, rfl, hob, hbb⟩; have hvb := hba.trans (hbb.mono hza); have hzb := hvb.size; have b2b := HB2.out.below hvb HB2.out.lt; clear hob)
    | ((with_reducible show wpList _ _ _ (Oper.mk (some 25) (Op.load 56 _) _ _ _ _ :: _) _ _); refine wpList_load_whole rfl 56 (.tmp 2) rfl (g2) rfl #[.int .i64 kind, .int .i64 unit, .int .i64 block, .int .i64 many, .slice A m c, .int .i64 op, .int .i64 who, .int .i64 key, .int .i64 new, .int .i64 ty, .bool st] aggCm rfl _ (b2b) ?_)
    | (go_at_call 29; refine (large15_c kind unit block many op who key new ty st hmx false (decide_eq_false (by omega))).mono ?_; rintro e w2 ⟨rfl, hb2⟩; have hv2 := hvb.trans (hb2.mono hzb); have hz2 := hv2.size; have b42 := HB4.out.below hv2 HB4.out.lt; have d4 : w2.cell? ⟨g4, 0, none⟩ = some (.bool false) := (by rw [b42.cell]; rfl); have f4 := b42.frozen 0)
    | (go_at_call 28; have hprev := X0; clear hprev; obtain ⟨g7, hg7⟩ : ∃ g, g = w2.heap.size := ⟨_, rfl⟩; obtain ⟨w3, hw3⟩ : ∃ w3, w3 = w2.alloc (.cells #[.int .i64 0] 3) := ⟨_, rfl⟩; rw [← hw3, ← hg7]; have b73 : Blk w3 g7 3 #[.int .i64 0] := (by rw [hw3, hg7]; exact Blk.new _ _ _); have h23 : Below w2.heap.size w2 w3 := (by rw [hw3]; exact below_alloc _ _); have hv3 := hv2.trans (h23.mono hz2); have hz3 := hv3.size; have hg74 : g4 < g7 := (by omega); clear hg7 hw3 d4 f4 b42; refine (example_c w3).mono ?_; rintro e w4 ⟨rfl, hb4⟩; have hv4 := hv3.trans (hb4.mono hz3); have hz4 := hv4.size; have b74 := b73.below hb4 b73.lt)
    | (go_at_call 39; (fail_if_success have hx := K0); refine (blocks_c 1 1 2 3 0 0 0 0 0 false (SlB.nil w4 0 none) (Nat.zero_le _) (by omega) ⟨by decide, by decide, by decide, by decide⟩ ⟨by decide, by decide, by decide, by decide⟩ 3 384 384 (fun _ => rfl) (fun h => absurd okB_ex h) rfl rfl).mono ?_; rintro e w5 ⟨gq, Aq, cq, rfl, hgq, p2, p3, p4, hoq, hnq, hb5⟩; have hv5 := hv4.trans (hb5.mono hz4); have hz5 := hv5.size; have b75 := b74.below hb5 b74.lt; have K0 := True.intro))
  have st5 : Stay w [(g2, 56, #[.int .i64 kind, .int .i64 unit, .int .i64 block, .int .i64 many, .slice A m c, .int .i64 op, .int .i64 who, .int .i64 key, .int .i64 new, .int .i64 ty, .bool st]), (g3, 3, #[.int .i64 most]), (g4, 4, #[.bool false])] (fun k => k = g7) w5 := (HS0.out.on hv5).imp (fun p hp => by
    simp only [List.mem_cons, List.not_mem_nil, or_false] at hp
    rcases hp with rfl | rfl | rfl <;> (show ¬ _ = g7; omega))
  have hz5w := st5.2.size
  have hg7l := b74.lt
  have hg75 := b75.lt
  have HB75 := Lib.hid b75
  have HS5 := Lib.hid st5
  have HP2 := Lib.hid p2
  have HP3 := Lib.hid p3
  have HP4 := Lib.hid p4
  have HOQ := Lib.hid hoq
  clear b75 st5 p2 p3 p4 hoq b73 b74
  refine wp_at fun a0 ha0 => ?_
  refine wp_range (O := fun k => k = g7) (a := a0) (by rw [ha0]; rfl) (enters_of Try.func61 (by kernel_rfl) rfl) (blocks_iter (M := 3) (block := 2) HP3.out HP2.out rfl HP4.out HOQ.out (by omega) (by omega) (fun _ => by omega)) (Below.refl _ _) (fun _ => rfl) (fun k hk => ⟨⟨by rw [hk]; omega, by rw [hk]; omega, by rw [hk]; omega, by rw [hk]; exact not_wrote HOQ.out (by omega)⟩, by rw [hk]; exact hg75⟩)
    (fun O' pre W' => Stay w [(g2, 56, #[.int .i64 kind, .int .i64 unit, .int .i64 block, .int .i64 many, .slice A m c, .int .i64 op, .int .i64 who, .int .i64 key, .int .i64 new, .int .i64 ty, .bool st]), (g3, 3, #[.int .i64 most]), (g4, 4, #[.bool false])] O' W' ∧ O' g7 ∧ Blk W' g7 3 #[.int .i64 (pre.length : Int)])
    (fun c pre W' => False) (fun O' => ownFrom_of fun s X X' hs hc => ⟨hs.1.calm hc hz5w, hs.2.1, hc.blk hs.2.2⟩) (fun c => ownFrom_of fun s X X' hs hc => hs) ⟨HS5.out, rfl, HB75.out⟩
    (fun O' pre x a' W' => (Stay w [(g2, 56, #[.int .i64 kind, .int .i64 unit, .int .i64 block, .int .i64 many, .slice A m c, .int .i64 op, .int .i64 who, .int .i64 key, .int .i64 new, .int .i64 ty, .bool st]), (g3, 3, #[.int .i64 most]), (g4, 4, #[.bool false])] O' W' ∧ O' g7 ∧ Blk W' g7 3 #[.int .i64 (pre.length : Int)]) ∧ x = pre.length ∧ x < 3 ∧ a' = { tmps := (a0.tmps.setIfInBounds 29 (.int .i64 (2 + (x : Int)))).setIfInBounds 30 (.agg (arr8 (blkAt ([] ++ List.replicate 384 0) x))), defers := [] })
    (fun O' pre x a' => ownFrom_of fun s X X' hs hc => ⟨⟨hs.1.1.calm hc hz5w, hs.1.2.1, hc.blk hs.1.2.2⟩, hs.2⟩) ?_ ?_ ?_ ?_
  · rintro l' O' pre x W' K hI ⟨hx1, hx2⟩ hK
    simp only [fold_two]
    refine wpIn_skip ?_
    exact hK O' _ _ (Kept.refl _ _) ⟨hI, hx1, hx2, rfl⟩
  · rintro l' O' pre x a' W' ⟨⟨sx, ho, bf⟩, hx1, hx2, rfl⟩
    subst ha0
    rw [← hx1] at bf
    have df : W'.cell? ⟨g7, 0, none⟩ = some (.int .i64 (x : Int)) := by rw [bf.cell]; rfl
    have ff : W'.frozen? ⟨g7, 0, none⟩ = false := bf.frozen 0
    obtain ⟨V, hV⟩ : ∃ V, V = W'.setCell ⟨g7, 0, none⟩ (.int .i64 ((x : Int) + 1)) := ⟨_, rfl⟩
    have bfV : Blk V g7 3 #[.int .i64 ((x : Int) + 1)] := by rw [hV]; simpa using bf.set_ 0 (.int .i64 ((x : Int) + 1))
    have stV : Stay w [(g2, 56, #[.int .i64 kind, .int .i64 unit, .int .i64 block, .int .i64 many, .slice A m c, .int .i64 op, .int .i64 who, .int .i64 key, .int .i64 new, .int .i64 ty, .bool st]), (g3, 3, #[.int .i64 most]), (g4, 4, #[.bool false])] O' V := by rw [hV]; exact sx.step (grownBy_setCell _ g7 0 _) ho (by omega)
    have hkV : Kept O' O' W' V := by rw [hV]; exact Kept.setCell ho 0 _
    have d8 : V.cell? ⟨g7, 0, none⟩ = some (.int .i64 ((x : Int) + 1)) := by rw [bfV.cell]; rfl
    rw [hV] at d8
    have HVV := Lib.hid hV
    have hpl : (((pre ++ [x]).length : Nat) : Int) = (x : Int) + 1 := by rw [List.length_append, List.length_cons, List.length_nil, hx1]; rfl
    have HPL := Lib.hid hpl
    have HS := Lib.hid stV
    have HB := Lib.hid bfV
    have HKV := Lib.hid hkV
    have hx0 : (0 : Int) ≤ (x : Int) := by omega
    have hxb : (x : Int) ≤ 3 := by omega
    have hx3 : ¬ (3 : Int) < (x : Int) + 1 := by omega
    clear hpl stV bfV hkV hV sx bf hx1
    simp only [List.setIfInBounds_toArray, List.set_cons_succ, List.set_cons_zero]
    gi_wp2
    rw [← HVV.out]
    exact ⟨O', HKV.out, HS.out, ho, by simp only [HPL.out]; exact HB.out⟩
  · rintro D O' ys W' hD hys ⟨sx, ho, bf⟩ hK
    have h3 : ys.length = 3 := by rw [hys, len_upTo]
    rw [h3] at bf
    subst ha0
    obtain ⟨u, hu⟩ : ∃ u : Nat, IntKind.u64.wrap most = (u : Int) := ⟨(IntKind.u64.wrap most).toNat, by rw [Int.toNat_of_nonneg (wrap_u64_nn _)]⟩
    obtain ⟨kk, hkk⟩ : ∃ kk : Nat, kk = u % 20 := ⟨_, rfl⟩
    obtain ⟨mm, hmm⟩ : ∃ mm : Nat, mm = 1 + kk := ⟨_, rfl⟩
    have hM1 : 1 ≤ mm := by omega
    have hM20 : mm ≤ 20 := by omega
    have htm : ((u : Int)).tmod 20 = (kk : Int) := by rw [Int.tmod_eq_emod_of_nonneg (by omega)]; omega
    have hmd : (u : Int) % 20 = (kk : Int) := by omega
    have hMi : 1 + (kk : Int) = (mm : Int) := by omega
    have hu20 : (kk : Int) < 20 := by omega
    have hu0 : (0 : Int) ≤ (kk : Int) := by omega
    clear hkk hmm
    have c3 := (sx.1 _ (List.Mem.tail _ (List.Mem.head _))).2
    have d3 : W'.cell? ⟨g3, 0, none⟩ = some (.int .i64 most) := by rw [c3.cell]; rfl
    have f3 : W'.frozen? ⟨g3, 0, none⟩ = false := c3.frozen 0
    have hDn : D < W'.heap.size := by
      rcases Nat.lt_or_ge D W'.heap.size with h | h
      · exact h
      · rw [Array.getElem?_eq_none h] at hK; cases hK
    obtain ⟨V6, hV6⟩ : ∃ V6, V6 = W'.setCell ⟨g3, 0, none⟩ (.int .i64 (mm : Int)) := ⟨_, rfl⟩
    have s6 : Stay w [(g2, 56, #[.int .i64 kind, .int .i64 unit, .int .i64 block, .int .i64 many, .slice A m c, .int .i64 op, .int .i64 who, .int .i64 key, .int .i64 new, .int .i64 ty, .bool st]), (g3, 3, #[.int .i64 (mm : Int)]), (g4, 4, #[.bool false]), (g7, 3, #[.int .i64 3])] (fun _ => False) V6 := by
      rw [hV6]
      refine ⟨fun p hp => ?_, sx.2.setCell (p := ⟨g3, 0, none⟩) (by show w.heap.size ≤ g3; omega) _⟩
      simp only [List.mem_cons, List.not_mem_nil, or_false] at hp
      rcases hp with rfl | rfl | rfl | rfl
      · exact ⟨fun e => e, (sx.1 _ (List.Mem.head _)).2.far (by show g2 ≠ g3; omega) _⟩
      · exact ⟨fun e => e, by simpa using c3.set_ 0 (.int .i64 (mm : Int))⟩
      · exact ⟨fun e => e, (sx.1 _ (List.Mem.tail _ (List.Mem.tail _ (List.Mem.head _)))).2.far (by show g4 ≠ g3; omega) _⟩
      · exact ⟨fun e => e, bf.far (by show g7 ≠ g3; omega) _⟩
    have hK6 : V6.heap[D]? = some (.deferred (some [])) := by rw [hV6]; exact (Below.heap_setCell _ _ _ _ (by show D ≠ g3; omega)).trans hK
    have hz6 : V6.heap.size = W'.heap.size := by rw [hV6, World.size_setCell]
    obtain ⟨g8, hg8⟩ : ∃ g, g = W'.heap.size := ⟨_, rfl⟩
    obtain ⟨V7, hV7⟩ : ∃ V7, V7 = V6.alloc (.cells #[.int .i64 0] 3) := ⟨_, rfl⟩
    have b87 : Blk V7 g8 3 #[.int .i64 0] := by rw [hV7, hg8, ← hz6]; exact Blk.new _ _ _
    have h67 : Below V6.heap.size V6 V7 := by rw [hV7]; exact below_alloc _ _
    have s7 := s6.on h67
    have hK7 := (h67.block D (by omega)).trans hK6
    have hg8D : D < g8 ∧ g7 < g8 := by have := bf.lt; omega
    have hg87 : g8 < V7.heap.size := b87.lt
    have HV6 := Lib.hid hV6
    have HV7 := Lib.hid hV7
    have HG8 := Lib.hid hg8
    have HS7 := Lib.hid s7
    have HB87 := Lib.hid b87
    have HK7 := Lib.hid hK7
    clear hV6 hV7 hg8 s6 s7 b87 h67 hK6 hK7 hz6 sx bf hK c3 hys ho
    go_wp2_with (first
      | ((with_reducible show wpList _ _ _ (Oper.mk (some 40) (Op.load 56 _) _ _ _ _ :: _) _ _); rw [← HV6.out, ← HV7.out, ← HG8.out]; refine wpList_load_whole rfl 56 (.tmp 2) rfl g2 rfl #[.int .i64 kind, .int .i64 unit, .int .i64 block, .int .i64 many, .slice A m c, .int .i64 op, .int .i64 who, .int .i64 key, .int .i64 new, .int .i64 ty, .bool st] aggCm rfl _ (HS7.out.1 _ (List.Mem.head _)).2 ?_)
      | (go_at_call 34; refine (hrc V7 HS7.out.2).mono ?_; rintro e w8 ⟨rfl, hb8⟩; have s8 := HS7.out.on hb8; have b88 := HB87.out.below hb8 HB87.out.lt; have hK8 := (hb8.block D (by omega)).trans HK7.out; have hz8 := hb8.size; have k20 : w8.cell? ⟨g2, 0, none⟩ = some (.int .i64 kind) := (by rw [s8.cell (List.Mem.head _)]; rfl); have k23 : w8.cell? ⟨g2, 3, none⟩ = some (.int .i64 many) := (by rw [s8.cell (List.Mem.head _)]; rfl); have d8 : w8.cell? ⟨g8, 0, none⟩ = some (.int .i64 0) := (by rw [b88.cell]; rfl); have f8 := b88.frozen 0; have e1 : (kind == 1) = false := (by rw [HK.out]; rfl); have e2 : (kind == 2) = true := (by rw [HK.out]; rfl))
      | ((with_reducible show wpList _ _ _ (Oper.mk (some 55) (Op.load 56 _) _ _ _ _ :: _) _ _); obtain ⟨V9, hV9⟩ : ∃ V9, V9 = w8.setCell ⟨g8, 0, none⟩ (.int .i64 many) := ⟨_, rfl⟩; rw [← hV9]; have s9 : Stay w [(g2, 56, #[.int .i64 kind, .int .i64 unit, .int .i64 block, .int .i64 many, .slice A m c, .int .i64 op, .int .i64 who, .int .i64 key, .int .i64 new, .int .i64 ty, .bool st]), (g3, 3, #[.int .i64 (mm : Int)]), (g4, 4, #[.bool false]), (g7, 3, #[.int .i64 3]), (g8, 3, #[.int .i64 (M : Int)])] (fun _ => False) V9 := (by rw [hV9]; exact Stay.snoc (s8.far (fun p hp => by simp only [List.mem_cons, List.not_mem_nil, or_false] at hp; rcases hp with rfl | rfl | rfl | rfl <;> (show _ ≠ g8; omega)) (by omega) 0 _) (fun e => e) (by have := b88.set_ 0 (.int .i64 many); rw [← HMY.out HOK.out] at this ⊢; simpa using this)); have hz9 : V9.heap.size = w8.heap.size := (by rw [hV9, World.size_setCell]); have hK9 : V9.heap[D]? = some (.deferred (some [])) := (by rw [hV9]; exact (Below.heap_setCell _ _ _ _ (by show D ≠ g8; omega)).trans hK8); obtain ⟨g9, hg9⟩ : ∃ g, g = w8.heap.size := ⟨_, rfl⟩; obtain ⟨V10, hV10⟩ : ∃ V10, V10 = V9.alloc (.cells #[.int .i64 0] 3) := ⟨_, rfl⟩; rw [← hV10, ← hg9]; have h90 : Below V9.heap.size V9 V10 := (by rw [hV10]; exact below_alloc _ _); have s10 := s9.on h90; have b90 : Blk V10 g9 3 #[.int .i64 0] := (by rw [hV10, hg9, ← hz9]; exact Blk.new _ _ _); have hK10 := (h90.block D (by omega)).trans hK9; have hg98 : g8 < g9 := (by omega); have hg910 : g9 < V10.heap.size := b90.lt; clear hV9 hV10 hg9 s9 h90 hK9 hz9 k20 k23 d8 f8 s8 b88 hK8; refine wpList_load_whole rfl 56 (.tmp 2) rfl g2 rfl #[.int .i64 kind, .int .i64 unit, .int .i64 block, .int .i64 many, .slice A m c, .int .i64 op, .int .i64 who, .int .i64 key, .int .i64 new, .int .i64 ty, .bool st] aggCm rfl _ (s10.1 _ (List.Mem.head _)).2 ?_)
      | (go_at_call 39; have hprev := K0; clear hprev; refine (blocks_c kind unit block many op who key new ty st (HD.out.below s10.2) s10.2.size (by omega) HX.out HY.out M z N HMY.out HMN.out HZZ.out HNN.out).mono ?_; rintro e w11 ⟨gr, Ar, cr, rfl, hgr, q2, q3, q4, hor, hnr, hb11⟩; have s11 := s10.on hb11; have b911 := b90.below hb11 b90.lt; have hK11 := (hb11.block D (by omega)).trans hK10; have hz11 := hb11.size; clear s10 b90 hK10))
    have hz11w := s11.2.size
    have hg911 := b911.lt
    have hMle : M ≤ 65536 := by have h := HMY.out HOK.out; have h2 := HOK.out.2.2.2.2; have := HOK.out.1.2.2.2.2.1; omega
    have hN128 : 128 * M ≤ N := by have := HZZ.out; have := HNN.out; omega
    have hDall : D < w11.heap.size := by omega
    have hbl : 0 < M → 0 ≤ block ∧ block ≤ 65536 := by intro _; have h2 := HOK.out.2.2.2; have := HOK.out.1.2.2.2.2.1; omega
    have HLB := Lib.hid (show ∀ x, x < M → (blkAt (ds ++ List.replicate z 0) x).length = 128 from fun x hx => len_blkAt (M := M) (by rw [OwB.len hor]; exact hN128) hx)
    have HM2 := Lib.hid (show m = 128 * M by have h1 := (HOK.out.1.2.2.2.2.2.2.2.2.1 HK.out).2; have h2 := HMY.out HOK.out; omega)
    have HDD := Lib.hid (show (ds ++ List.replicate z 0) = ds by have := HZZ.out; have h := HM2.out; rw [show z = 0 by omega]; simp)
    have HS11 := Lib.hid s11
    have HB911 := Lib.hid b911
    have HK11 := Lib.hid hK11
    have HQ2 := Lib.hid q2
    have HQ3 := Lib.hid q3
    have HQ4 := Lib.hid q4
    have HOR := Lib.hid hor
    clear s11 b911 hK11 q2 q3 q4 hor
    refine wp_at fun a1 ha1 => ?_
    refine wp_range (O := fun k => k = g9) (a := a1) (by rw [ha1]; rfl) (enters_of Try.func61 (by kernel_rfl) rfl) (blocks_iter (M := M) (block := block) HQ3.out HQ2.out rfl HQ4.out HOR.out hMle hN128 hbl) (Below.refl _ _) (fun _ => rfl) (fun k hk => ⟨⟨by rw [hk]; omega, by rw [hk]; omega, by rw [hk]; omega, by rw [hk]; exact not_wrote HOR.out (by omega)⟩, by rw [hk]; exact hg911⟩)
      (fun O' pre W' => Stay w [(g2, 56, #[.int .i64 kind, .int .i64 unit, .int .i64 block, .int .i64 many, .slice A m c, .int .i64 op, .int .i64 who, .int .i64 key, .int .i64 new, .int .i64 ty, .bool st]), (g3, 3, #[.int .i64 (mm : Int)]), (g4, 4, #[.bool false]), (g7, 3, #[.int .i64 3]), (g8, 3, #[.int .i64 (M : Int)])] O' W' ∧ O' g9 ∧ Blk W' g9 3 #[.int .i64 (pre.length : Int)] ∧ W'.heap[D]? = some (.deferred (some [])) ∧ pre.length < mm)
      (fun cx pre W' => cx = .exit 2 ∧ (∃ O', Stay w [(g2, 56, #[.int .i64 kind, .int .i64 unit, .int .i64 block, .int .i64 many, .slice A m c, .int .i64 op, .int .i64 who, .int .i64 key, .int .i64 new, .int .i64 ty, .bool st]), (g3, 3, #[.int .i64 (mm : Int)]), (g4, 4, #[.bool false]), (g7, 3, #[.int .i64 3]), (g8, 3, #[.int .i64 (M : Int)])] O' W') ∧ Blk W' g9 3 #[.int .i64 (pre.length : Int)] ∧ W'.heap[D]? = some (.deferred (some [])) ∧ pre.length = mm ∧ pre.length ≤ M)
      (fun O' => ownFrom_of fun s X X' hs hc => ⟨hs.1.calm hc hz11w, hs.2.1, hc.blk hs.2.2.1, calm_heap hc hDall hs.2.2.2.1, hs.2.2.2.2⟩) (fun c => ownFrom_of fun s X X' hs hc => ⟨hs.1, by obtain ⟨O', h⟩ := hs.2.1; exact ⟨O', h.calm hc hz11w⟩, hc.blk hs.2.2.1, calm_heap hc hDall hs.2.2.2.1, hs.2.2.2.2⟩) ⟨HS11.out.imp (fun p hp => by
        simp only [List.mem_cons, List.not_mem_nil, or_false] at hp
        rcases hp with rfl | rfl | rfl | rfl | rfl <;> (show ¬ _ = g9; omega)), rfl, HB911.out, HK11.out, by show 0 < mm; omega⟩
      (fun O' pre x a' W' => (Stay w [(g2, 56, #[.int .i64 kind, .int .i64 unit, .int .i64 block, .int .i64 many, .slice A m c, .int .i64 op, .int .i64 who, .int .i64 key, .int .i64 new, .int .i64 ty, .bool st]), (g3, 3, #[.int .i64 (mm : Int)]), (g4, 4, #[.bool false]), (g7, 3, #[.int .i64 3]), (g8, 3, #[.int .i64 (M : Int)])] O' W' ∧ O' g9 ∧ Blk W' g9 3 #[.int .i64 (pre.length : Int)] ∧ W'.heap[D]? = some (.deferred (some [])) ∧ pre.length < mm) ∧ x = pre.length ∧ x < M ∧ ∃ gx, Blk W' gx 75 (arr8 (blkAt (ds ++ List.replicate z 0) x)) ∧ a' = { tmps := (((a1.tmps.setIfInBounds 57 (.int .i64 (block + (x : Int)))).setIfInBounds 58 (.agg (arr8 (blkAt (ds ++ List.replicate z 0) x)))).setIfInBounds 10 (.int .i64 (block + (x : Int)))).setIfInBounds 11 (.pointer (some ⟨gx, 0, none⟩)), defers := [] })
      (fun O' pre x a' => ownFrom_of fun s X X' hs hc => ⟨⟨hs.1.1.calm hc hz11w, hs.1.2.1, hc.blk hs.1.2.2.1, calm_heap hc hDall hs.1.2.2.2.1, hs.1.2.2.2.2⟩, hs.2.1, hs.2.2.1, by obtain ⟨gx, h2, h3⟩ := hs.2.2.2; exact ⟨gx, hc.blk h2, h3⟩⟩) ?_ ?_ ?_ ?_
    · rintro l' O' pre x W' K ⟨sx, ho, b9, hKD, hlt⟩ ⟨hx1, hx2⟩ hK
      have HX1 := Lib.hid hx1
      clear hx1
      simp only [fold_two]
      subst ha1
      simp only [List.setIfInBounds_toArray, List.set_cons_succ, List.set_cons_zero]
      refine wpIn_seq_k fun K1 hK1 => ?_
      have HK1 := Lib.hid hK1
      clear hK1
      gi_wp2
      refine HK1.out _ _ ?_
      refine wpIn_region_of (free_rd l') rfl (fun ⟨_, _, h⟩ => h) ?_
      refine wpList_alloc_agg rfl 75 rfl (arr8 (List.replicate 128 0)) zeroC ?_
      refine wpList_store8 rfl 75 (.tmp 11) (.tmp 58) rfl W'.heap.size rfl (blkAt (ds ++ List.replicate z 0) x) rfl aggC (HLB.out x hx2) _ _ (Blk.new _ _ _) (by rw [size_arr8]; simp) ?_
      intro W5 hb5' hg5 hs5
      have hbb : Below W'.heap.size W' W5 := ((Below.refl _ _).alloc (Nat.le_refl _) _).grown hg5 (by simp) (fun k hk => by cases hk; exact Nat.le_refl _)
      have hDW : D < W'.heap.size := (Array.getElem?_eq_some_iff.1 hKD).1
      exact hK O' _ _ (Kept.below hbb) ⟨⟨sx.on hbb, ho, b9.below hbb b9.lt, (hbb.block D hDW).trans hKD, hlt⟩, HX1.out, hx2, W'.heap.size, hb5', rfl⟩
    · rintro l' O' pre x a' W' ⟨⟨sx, ho, b9, hKD, hlt⟩, hx1, hx2, gx, hbx, rfl⟩
      subst ha1
      rw [← hx1] at b9 hlt
      have hxg : gx ≠ g9 := fun e => by
        have h1 := b9
        rw [← e, Blk, show W'.heap[gx]? = _ from hbx] at h1
        simp at h1
      have k9 : W'.cell? ⟨g9, 0, none⟩ = some (.int .i64 (x : Int)) := by rw [b9.cell]; rfl
      have k8 : W'.cell? ⟨g8, 0, none⟩ = some (.int .i64 (M : Int)) := by rw [sx.cell (List.Mem.tail _ (List.Mem.tail _ (List.Mem.tail _ (List.Mem.tail _ (List.Mem.head _)))))]; rfl
      have k22 : W'.cell? ⟨g2, 2, none⟩ = some (.int .i64 block) := by rw [sx.cell (List.Mem.head _)]; rfl
      have hil : ¬ (M : Int) ≤ (x : Int) := by omega
      have hne1 : ((block + (x : Int)) != (block + (x : Int))) = false := by simp
      obtain ⟨hb0, hb1⟩ := hbl (by omega)
      have hx0 : (0 : Int) ≤ (x : Int) := by omega
      have hxb : (x : Int) ≤ 65536 := by omega
      have HX1 := Lib.hid hx1
      have HSX := Lib.hid sx
      have HB9 := Lib.hid b9
      have HKD := Lib.hid hKD
      have HBX := Lib.hid hbx
      have HLT := Lib.hid hlt
      clear sx b9 hKD hbx hx1 hlt
      simp only [List.setIfInBounds_toArray, List.set_cons_succ, List.set_cons_zero]
      refine wpIn_block ?_
      refine wpIn_seq_k fun K1 hK1 => ?_
      have HK1 := Lib.hid hK1
      clear hK1
      gi_wp2
      refine HK1.out _ _ ?_
      refine wpIn_seq_k fun K2 hK2 => ?_
      have HK2 := Lib.hid hK2
      clear hK2
      refine wpIn_region_of (free_rd l') rfl (fun ⟨_, _, h⟩ => h) ?_
      refine wpList_build rfl 75 _ rfl #[] (by simp only [List.map_toArray, List.map_nil]) _ (buildC _) ?_
      refine wpList_alloc_agg rfl 75 rfl (arr8 (List.replicate 128 0)) zeroC ?_
      refine wpList_store8 rfl 75 (.tmp 12) (.tmp 70) rfl W'.heap.size rfl (List.replicate 128 0) rfl aggC (by simp) _ _ (Blk.new _ _ _) (by rw [size_arr8]; simp) ?_
      intro W5 bw hg5 hs5
      have h5 : Below W'.heap.size W' W5 := ((Below.refl _ _).alloc (Nat.le_refl _) _).grown hg5 (by simp) (fun k hk => by cases hk; exact Nat.le_refl _)
      have hDW : D < W'.heap.size := (Array.getElem?_eq_some_iff.1 HKD.out).1
      have hg9W := HB9.out.lt
      have hgxW := HBX.out.lt
      obtain ⟨gw, hgw⟩ : ∃ gw, gw = W'.heap.size := ⟨_, rfl⟩
      rw [← hgw] at bw ⊢
      have HS5 := Lib.hid (HSX.out.on h5)
      have HB95 := Lib.hid (HB9.out.below h5 HB9.out.lt)
      have HBX5 := Lib.hid (HBX.out.below h5 HBX.out.lt)
      have HKD5 := Lib.hid ((h5.block D hDW).trans HKD.out)
      have HKP5 := Lib.hid (show Kept O' O' W' W5 from Kept.below h5)
      have hz5' := h5.size
      have hgw5 := bw.lt
      have hgwW : W'.heap.size ≤ gw := by omega
      clear hg5 hs5 hgw
      refine wpList_nil ?_
      refine HK2.out _ _ ?_
      refine wpIn_seq_k fun K3 hK3 => ?_
      have HK3 := Lib.hid hK3
      clear hK3
      have k20 : W5.cell? ⟨g2, 0, none⟩ = some (.int .i64 kind) := by rw [HS5.out.cell (List.Mem.head _)]; rfl
      gi_wp2
      refine wpIn_region_rel (free_rd l') rfl 9 (fun W W' => Below W.heap.size W W') (fun W => Below W5.heap.size W5 W)
        [Det (.slice (some ⟨gw, 0, none⟩) 128 128), Det (.pointer (some ⟨g2, 4, none⟩)), Det (.slice A m c), Det (.int .i64 (x : Int)), Det (.int .i64 (128 * (x : Int))), Det (.int .i64 (x : Int)), Det (.int .i64 (128 * (x : Int))), Det (.int .i64 (128 * (x : Int) + 128)), RelB 128 (blkAt ds x), Det (.bool true)]
        [[], [], [(1, some 75)], [], [(3, some 77)], [], [(5, some 79)], [(6, some 80)], [(2, some 76), (4, some 78), (7, some 81)], [(0, some 74), (8, some 82)]]
        [[], [], [1], [], [3], [], [5], [5, 6], [1, 2, 3, 4, 5, 6, 7], [0, 1, 2, 3, 4, 5, 6, 7, 8]]
        [(0, some 74), (1, some 75), (2, some 76), (3, some 77), (4, some 78), (5, some 79), (6, some 80), (7, some 81), (8, some 82), (9, some 83)] (by kernel_rfl) (by kernel_rfl) (by kernel_rfl) (fun W W' h1 h2 => h1.trans (h2.mono h1.size)) ((Below.refl _ _).drew) ?_ ?_ ?_
      · exact (AllMono.cons Det.later (AllMono.cons Det.later (AllMono.cons Det.later (AllMono.cons Det.later (AllMono.cons Det.later (AllMono.cons Det.later (AllMono.cons Det.later (AllMono.cons Det.later (AllMono.cons RelB.later (AllMono.cons Det.later AllMono.nil))))))))))
      · refine AllOb.cons ?_ (AllOb.cons ?_ (AllOb.cons ?_ (AllOb.cons ?_ (AllOb.cons ?_ (AllOb.cons ?_ (AllOb.cons ?_ (AllOb.cons ?_ (AllOb.cons ?_ (AllOb.nil)))))))))
        · intro uF W hC' hU aF hF
          have hC : Below W5.heap.size W5 W := hC'
          clear hC'
          simp only [puts] at hF
          subst hF
          have hall := arr_off_run (P := Try.prog) (T := 75) Try.underlying75 size_of8 (by omega) gw 0
          go_wp2_with (fail)
          exact ⟨rfl, rfl, (Below.refl _ _), rfl⟩
        · intro uF W hC' hU aF hF
          have hC : Below W5.heap.size W5 W := hC'
          clear hC'
          simp only [puts] at hF
          subst hF
          go_wp2_with (fail)
          exact ⟨rfl, rfl, (Below.refl _ _), rfl⟩
        · intro uF W hC' hU aF hF
          have hC : Below W5.heap.size W5 W := hC'
          clear hC'
          have h75 : (Det (.pointer (some ⟨g2, 4, none⟩))) (uF 1) W := hU.1
          clear hU
          simp only [puts, Act.put, List.setIfInBounds_toArray, List.set_cons_zero, List.set_cons_succ] at hF
          generalize uF 1 = x75 at h75 hF
          obtain rfl : x75 = (.pointer (some ⟨g2, 4, none⟩)) := h75
          subst hF
          have d1 : W.cell? ⟨g2, 4, none⟩ = some (.slice A m c) := by rw [(HS5.out.on hC).cell (List.Mem.head _)]; rfl
          go_wp2_with (fail)
          exact ⟨rfl, rfl, (Below.refl _ _), rfl⟩
        · intro uF W hC' hU aF hF
          have hC : Below W5.heap.size W5 W := hC'
          clear hC'
          simp only [puts] at hF
          subst hF
          have d1 : W.cell? ⟨g9, 0, none⟩ = some (.int .i64 (x : Int)) := by rw [(HB95.out.below hC HB95.out.lt).cell]; rfl
          go_wp2_with (fail)
          exact ⟨rfl, rfl, (Below.refl _ _), rfl⟩
        · intro uF W hC' hU aF hF
          have hC : Below W5.heap.size W5 W := hC'
          clear hC'
          have h77 : (Det (.int .i64 (x : Int))) (uF 3) W := hU.1
          clear hU
          simp only [puts, Act.put, List.setIfInBounds_toArray, List.set_cons_zero, List.set_cons_succ] at hF
          generalize uF 3 = x77 at h77 hF
          obtain rfl : x77 = (.int .i64 (x : Int)) := h77
          subst hF
          go_wp2_with (fail)
          exact ⟨rfl, rfl, (Below.refl _ _), rfl⟩
        · intro uF W hC' hU aF hF
          have hC : Below W5.heap.size W5 W := hC'
          clear hC'
          simp only [puts] at hF
          subst hF
          have d1 : W.cell? ⟨g9, 0, none⟩ = some (.int .i64 (x : Int)) := by rw [(HB95.out.below hC HB95.out.lt).cell]; rfl
          go_wp2_with (fail)
          exact ⟨rfl, rfl, (Below.refl _ _), rfl⟩
        · intro uF W hC' hU aF hF
          have hC : Below W5.heap.size W5 W := hC'
          clear hC'
          have h79 : (Det (.int .i64 (x : Int))) (uF 5) W := hU.1
          clear hU
          simp only [puts, Act.put, List.setIfInBounds_toArray, List.set_cons_zero, List.set_cons_succ] at hF
          generalize uF 5 = x79 at h79 hF
          obtain rfl : x79 = (.int .i64 (x : Int)) := h79
          subst hF
          go_wp2_with (fail)
          exact ⟨rfl, rfl, (Below.refl _ _), rfl⟩
        · intro uF W hC' hU aF hF
          have hC : Below W5.heap.size W5 W := hC'
          clear hC'
          have h80 : (Det (.int .i64 (128 * (x : Int)))) (uF 6) W := hU.1
          clear hU
          simp only [puts, Act.put, List.setIfInBounds_toArray, List.set_cons_zero, List.set_cons_succ] at hF
          generalize uF 6 = x80 at h80 hF
          obtain rfl : x80 = (.int .i64 (128 * (x : Int))) := h80
          subst hF
          go_wp2_with (fail)
          exact ⟨rfl, rfl, (Below.refl _ _), rfl⟩
        · intro uF W hC' hU aF hF
          have hC : Below W5.heap.size W5 W := hC'
          clear hC'
          have h76 : (Det (.slice A m c)) (uF 2) W := hU.1
          have h78 : (Det (.int .i64 (128 * (x : Int)))) (uF 4) W := hU.2.1
          have h81 : (Det (.int .i64 (128 * (x : Int) + 128))) (uF 7) W := hU.2.2.1
          clear hU
          simp only [puts, Act.put, List.setIfInBounds_toArray, List.set_cons_zero, List.set_cons_succ] at hF
          generalize uF 2 = x76 at h76 hF
          generalize uF 4 = x78 at h78 hF
          generalize uF 7 = x81 at h81 hF
          obtain rfl : x76 = (.slice A m c) := h76
          obtain rfl : x78 = (.int .i64 (128 * (x : Int))) := h78
          obtain rfl : x81 = (.int .i64 (128 * (x : Int) + 128)) := h81
          subst hF
          obtain ⟨A2, hs2, hrun⟩ := SlB.cutRun (HD.out.below (HS5.out.on hC).2) (lo := 128 * x) (hi := 128 * x + 128) (by omega) (by have := HM2.out; omega) (128 * (x : Int)) (128 * (x : Int) + 128) (by omega) (by omega)
          rw [show 128 * x + 128 - 128 * x = 128 by omega] at hs2 hrun
          go_wp2_with (fail)
          exact ⟨rfl, rfl, (Below.refl _ _), ⟨_, _, rfl, hs2.more (HS5.out.on hC).2.size⟩⟩
      intro uF Wc hC' hU aF hF
      have hCWc : Below W5.heap.size W5 Wc := hC'
      clear hC'
      have h74 : (Det (.slice (some ⟨gw, 0, none⟩) 128 128)) (uF 0) Wc := hU.1
      have h82 : (RelB 128 (blkAt ds x)) (uF 8) Wc := hU.2.2.2.2.2.2.2.2.1
      clear hU
      simp only [List.take_succ_cons, List.take_zero, puts, Act.put, List.setIfInBounds_toArray, List.set_cons_zero, List.set_cons_succ] at hF
      generalize uF 0 = x74 at h74 hF
      generalize uF 1 = x75 at hF
      generalize uF 2 = x76 at hF
      generalize uF 3 = x77 at hF
      generalize uF 4 = x78 at hF
      generalize uF 5 = x79 at hF
      generalize uF 6 = x80 at hF
      generalize uF 7 = x81 at hF
      generalize uF 8 = x82 at h82 hF
      obtain rfl : x74 = (.slice (some ⟨gw, 0, none⟩) 128 128) := h74
      obtain ⟨A82, c82, rfl, s82⟩ := h82
      subst hF
      simp only [List.drop_succ_cons, List.drop_zero]
      refine wpListIn_of (free_rd l') (fun ⟨_, _, h⟩ => h) rfl ?_
      refine wpList_copy_blk rfl (.tmp 74) (.tmp 82) 22 rfl Try.underlying22 info8 rfl (bw.below hCWc bw.lt) rfl s82 (by rw [size_arr8]; decide) (b8_one _) ?_
      intro W6 hb6 hg6 hs6
      rw [splice_blk (by have := HLB.out x hx2; rw [HDD.out] at this; exact this), show blkAt ds x = blkAt (ds ++ List.replicate z 0) x by rw [HDD.out]] at hb6
      have h56 : Below W'.heap.size W' W6 := (h5.trans (hCWc.mono hz5')).grown hg6 (by have := hCWc.size; omega) (fun k hk => by cases hk; exact hgwW)
      have HS6 := Lib.hid (HSX.out.on h56)
      have HB96 := Lib.hid (HB9.out.below h56 HB9.out.lt)
      have HBX6 := Lib.hid (HBX.out.below h56 HBX.out.lt)
      have HKD6 := Lib.hid ((h56.block D hDW).trans HKD.out)
      have HKP6 := Lib.hid (show Kept O' O' W' W6 from Kept.below h56)
      have HBW6 := Lib.hid hb6
      clear hg6 hs6 hb6
      refine wpList_nil ?_
      refine HK3.out _ _ ?_
      refine wpIn_seq_k fun K4 hK4 => ?_
      have HK4 := Lib.hid hK4
      clear hK4
      refine wpIn_seq_k fun K5 hK5 => ?_
      have HK5 := Lib.hid hK5
      clear hK5
      refine wpIn_region_of (free_rd l') rfl (fun ⟨_, _, h⟩ => h) ?_
      have he := eqC (blkAt (ds ++ List.replicate z 0) x) (blkAt (ds ++ List.replicate z 0) x) (HLB.out x hx2) (HLB.out x hx2) true (by simp)
      have hgd := guardC
      go_wp2_with (first
        | ((with_reducible show wpList _ _ _ (Oper.mk (some 84) (Op.load 75 _) _ _ _ _ :: _) _ _); refine wpList_load_whole (by rfl) 75 (.tmp 11) rfl gx rfl (arr8 (blkAt (ds ++ List.replicate z 0) x)) aggC (by rw [size_arr8]; exact HLB.out x hx2) 75 HBX6.out ?_)
        | ((with_reducible show wpList _ _ _ (Oper.mk (some 85) (Op.load 75 _) _ _ _ _ :: _) _ _); refine wpList_load_whole (by rfl) 75 (.tmp 12) rfl gw rfl (arr8 (blkAt (ds ++ List.replicate z 0) x)) aggC (by rw [size_arr8]; exact (HLB.out x hx2)) 75 HBW6.out ?_))
      refine HK5.out _ _ ?_
      gi_wp2
      refine HK4.out _ _ ?_
      have k96 : W6.cell? ⟨g9, 0, none⟩ = some (.int .i64 (x : Int)) := by rw [HB96.out.cell]; rfl
      have f96 : W6.frozen? ⟨g9, 0, none⟩ = false := HB96.out.frozen 0
      obtain ⟨V, hV⟩ : ∃ V, V = W6.setCell ⟨g9, 0, none⟩ (.int .i64 ((x : Int) + 1)) := ⟨_, rfl⟩
      have bV : Blk V g9 3 #[.int .i64 ((x : Int) + 1)] := by rw [hV]; simpa using HB96.out.set_ 0 (.int .i64 ((x : Int) + 1))
      have sV : Stay w [(g2, 56, #[.int .i64 kind, .int .i64 unit, .int .i64 block, .int .i64 many, .slice A m c, .int .i64 op, .int .i64 who, .int .i64 key, .int .i64 new, .int .i64 ty, .bool st]), (g3, 3, #[.int .i64 (mm : Int)]), (g4, 4, #[.bool false]), (g7, 3, #[.int .i64 3]), (g8, 3, #[.int .i64 (M : Int)])] O' V := by rw [hV]; exact HS6.out.step (grownBy_setCell _ g9 0 _) ho (by omega)
      have hkV : Kept O' O' W' V := by rw [hV]; exact HKP6.out.trans (Kept.setCell ho 0 _)
      have hKV : V.heap[D]? = some (.deferred (some [])) := by rw [hV]; exact (Below.heap_setCell _ _ _ _ (by show D ≠ g9; omega)).trans HKD6.out
      have k9V : V.cell? ⟨g9, 0, none⟩ = some (.int .i64 ((x : Int) + 1)) := by rw [bV.cell]; rfl
      have k3V : V.cell? ⟨g3, 0, none⟩ = some (.int .i64 (mm : Int)) := by rw [sV.cell (List.Mem.tail _ (List.Mem.head _))]; rfl
      rw [hV] at k9V k3V
      have hpl : (pre ++ [x]).length = x + 1 := by rw [List.length_append, List.length_cons, List.length_nil, HX1.out]
      have HPL := Lib.hid hpl
      have HSV := Lib.hid sV
      have HBV := Lib.hid bV
      have HKV := Lib.hid hkV
      have HKDV := Lib.hid hKV
      have HVV := Lib.hid hV
      have hltm := HLT.out
      clear hpl sV bV hkV hKV hV
      by_cases heq : x + 1 = mm
      · have hei : (x : Int) + 1 = (mm : Int) := by omega
        have e9 := HVV.out
        have e10 := HBV.out
        rw [hei] at k9V k3V e9 e10
        have HV9 := Lib.hid e9
        have HV10 := Lib.hid e10
        clear e9 e10
        gi_wp2
        rw [← HV9.out]
        exact ⟨HKV.out.from_ _, rfl, ⟨O', HSV.out⟩, by rw [HPL.out, heq]; exact HV10.out, HKDV.out, by rw [HPL.out]; exact heq, by rw [HPL.out]; omega⟩
      · have hei : ¬ (x : Int) + 1 = (mm : Int) := by omega
        gi_wp2
        rw [← HVV.out]
        exact ⟨O', HKV.out, HSV.out, ho, by rw [HPL.out]; exact HBV.out, HKDV.out, by rw [HPL.out]; omega⟩
    · rintro D2 O2 ys2 W' hD2 hys2 ⟨sx, ho, b9, hKD, hlt⟩ hK2
      have h5 : ys2.length = M := by rw [hys2, len_upTo]
      rw [h5] at b9 hlt
      have hcm1 : (M : Int) < (mm : Int) := by omega
      clear hys2 ho
      have k7 : W'.cell? ⟨g7, 0, none⟩ = some (.int .i64 3) := by rw [sx.cell (List.Mem.tail _ (List.Mem.tail _ (List.Mem.tail _ (List.Mem.head _))))]; rfl
      have k9 : W'.cell? ⟨g9, 0, none⟩ = some (.int .i64 (M : Int)) := by rw [b9.cell]; rfl
      have k3 : W'.cell? ⟨g3, 0, none⟩ = some (.int .i64 (mm : Int)) := by rw [sx.cell (List.Mem.tail _ (List.Mem.head _))]; rfl
      have k8 : W'.cell? ⟨g8, 0, none⟩ = some (.int .i64 (M : Int)) := by rw [sx.cell (List.Mem.tail _ (List.Mem.tail _ (List.Mem.tail _ (List.Mem.tail _ (List.Mem.head _)))))]; rfl
      have c4 := (sx.1 _ (List.Mem.tail _ (List.Mem.tail _ (List.Mem.head _)))).2
      have k4 : W'.cell? ⟨g4, 0, none⟩ = some (.bool false) := by rw [c4.cell]; rfl
      have f4 : W'.frozen? ⟨g4, 0, none⟩ = false := c4.frozen 0
      have hc2 : ((M : Int) == (M : Int)) = true := by simp
      have HC4 := Lib.hid c4
      have HBW := Lib.hid sx.2
      have HKK := Lib.hid hKD
      have HKK2 := Lib.hid hK2
      have hg4w : w.heap.size ≤ g4 := by omega
      have hDg4 : D ≠ g4 := by omega
      have hD24 : D2 ≠ g4 ∧ D2 ≠ D := by omega
      subst ha1
      clear sx b9 hKD hK2 c4
      go_wp2_with fail
      have hb4' : Blk (W'.setCell ⟨g4, 0, none⟩ (.bool true)) g4 4 #[.bool true] := by simpa using HC4.out.set_ 0 (.bool true)
      have hD2' : (W'.setCell ⟨g4, 0, none⟩ (.bool true)).heap[D2]? = some (.deferred (some [])) := (Below.heap_setCell _ _ _ _ hD24.1).trans HKK2.out
      have hD1' : (W'.setCell ⟨g4, 0, none⟩ (.bool true)).heap[D]? = some (.deferred (some [])) := (Below.heap_setCell _ _ _ _ hDg4).trans HKK.out
      have hD1'' := (World.putObj_heap_other (o := .deferred none) (w := W'.setCell ⟨g4, 0, none⟩ (.bool true)) (Ne.symm hD24.2)).trans hD1'
      refine ⟨by simp, .inl ⟨_, _, rfl, run_takeDeferred hD2', ?_⟩⟩
      refine ⟨by simp, .inl ⟨_, _, rfl, run_takeDeferred hD1'', ?_⟩⟩
      refine ⟨_, res_bool rfl _ g4 4 true Try.underlying4 rfl ((World.putObj_heap_other (Ne.symm hDg4)).trans ((World.putObj_heap_other (Ne.symm hD24.1)).trans hb4')), rfl, ?_⟩
      have hbw := HBW.out.setCell (p := ⟨g4, 0, none⟩) hg4w (.bool true)
      have hc2 := (calm_putObj (B := w.heap.size) (.deferred none) (by omega) hD2' rfl).below hbw (Nat.le_refl _) (Nat.le_refl _)
      exact (calm_putObj (B := w.heap.size) (.deferred none) (by omega) hD1'' rfl).below hc2 (Nat.le_refl _) (Nat.le_refl _)
    · rintro D2 cx pre W' hD2 ⟨k, hk, hpre⟩ ⟨rfl, ⟨O2, sx⟩, b9, hKD, hpl, hple⟩ hK2
      rw [hpl] at b9 hple
      have hcm1 : ¬ (M : Int) < (mm : Int) := by omega
      clear hk hpre hpl
      have k7 : W'.cell? ⟨g7, 0, none⟩ = some (.int .i64 3) := by rw [sx.cell (List.Mem.tail _ (List.Mem.tail _ (List.Mem.tail _ (List.Mem.head _))))]; rfl
      have k9 : W'.cell? ⟨g9, 0, none⟩ = some (.int .i64 (mm : Int)) := by rw [b9.cell]; rfl
      have k3 : W'.cell? ⟨g3, 0, none⟩ = some (.int .i64 (mm : Int)) := by rw [sx.cell (List.Mem.tail _ (List.Mem.head _))]; rfl
      have k8 : W'.cell? ⟨g8, 0, none⟩ = some (.int .i64 (M : Int)) := by rw [sx.cell (List.Mem.tail _ (List.Mem.tail _ (List.Mem.tail _ (List.Mem.tail _ (List.Mem.head _)))))]; rfl
      have c4 := (sx.1 _ (List.Mem.tail _ (List.Mem.tail _ (List.Mem.head _)))).2
      have k4 : W'.cell? ⟨g4, 0, none⟩ = some (.bool false) := by rw [c4.cell]; rfl
      have f4 : W'.frozen? ⟨g4, 0, none⟩ = false := c4.frozen 0
      have hc2 : ((mm : Int) == (mm : Int)) = true := by simp
      have HC4 := Lib.hid c4
      have HBW := Lib.hid sx.2
      have HKK := Lib.hid hKD
      have HKK2 := Lib.hid hK2
      have hg4w : w.heap.size ≤ g4 := by omega
      have hDg4 : D ≠ g4 := by omega
      have hD24 : D2 ≠ g4 ∧ D2 ≠ D := by omega
      subst ha1
      clear sx b9 hKD hK2 c4
      go_wp2_with fail
      have hb4' : Blk (W'.setCell ⟨g4, 0, none⟩ (.bool true)) g4 4 #[.bool true] := by simpa using HC4.out.set_ 0 (.bool true)
      have hD2' : (W'.setCell ⟨g4, 0, none⟩ (.bool true)).heap[D2]? = some (.deferred (some [])) := (Below.heap_setCell _ _ _ _ hD24.1).trans HKK2.out
      have hD1' : (W'.setCell ⟨g4, 0, none⟩ (.bool true)).heap[D]? = some (.deferred (some [])) := (Below.heap_setCell _ _ _ _ hDg4).trans HKK.out
      have hD1'' := (World.putObj_heap_other (o := .deferred none) (w := W'.setCell ⟨g4, 0, none⟩ (.bool true)) (Ne.symm hD24.2)).trans hD1'
      refine ⟨by simp, .inl ⟨_, _, rfl, run_takeDeferred hD2', ?_⟩⟩
      refine ⟨by simp, .inl ⟨_, _, rfl, run_takeDeferred hD1'', ?_⟩⟩
      refine ⟨_, res_bool rfl _ g4 4 true Try.underlying4 rfl ((World.putObj_heap_other (Ne.symm hDg4)).trans ((World.putObj_heap_other (Ne.symm hD24.1)).trans hb4')), rfl, ?_⟩
      have hbw := HBW.out.setCell (p := ⟨g4, 0, none⟩) hg4w (.bool true)
      have hc2 := (calm_putObj (B := w.heap.size) (.deferred none) (by omega) hD2' rfl).below hbw (Nat.le_refl _) (Nat.le_refl _)
      exact (calm_putObj (B := w.heap.size) (.deferred none) (by omega) hD1'' rfl).below hc2 (Nat.le_refl _) (Nat.le_refl _)
  · rintro D c pre W' hD _ h
    exact h.elim

set_option maxHeartbeats 4000000 in
theorem walk_B1 (kind unit block many op who key new ty most : Int) (st : Bool) (A : Option Addr) (m c : Nat) (ds : List UInt8) (w : World) (w0 : SlB w w.heap.size A m c ds)
    (HX : Hid ((Lit.int .i64 kind).wf = true ∧ (Lit.int .i64 unit).wf = true ∧ (Lit.int .i64 block).wf = true ∧ (Lit.int .i64 many).wf = true)) (HY : Hid ((Lit.int .i64 op).wf = true ∧ (Lit.int .i64 key).wf = true ∧ (Lit.int .i64 new).wf = true ∧ (Lit.int .i64 ty).wf = true)) (hbi : ¬ (16384 : Int) < (m : Int)) (HOK : Hid (¬ okB kind unit block many m op who key new ty st)) (rcv : Int) (hrv : (rcv == 0) = false) (M z N : Nat) (HMY : Hid (okB kind unit block many m op who key new ty st → (M : Int) = many)) (HMN : Hid (¬ okB kind unit block many m op who key new ty st → M = 0)) (HZZ : Hid (z = 128 * M - m)) (HNN : Hid (N = m + z)) (hrc : ∀ v, Below w.heap.size w v → Calls Try.prog 34 #[.agg #[.int .i64 kind, .int .i64 unit, .int .i64 block, .int .i64 many, .slice A m c, .int .i64 op, .int .i64 who, .int .i64 key, .int .i64 new, .int .i64 ty, .bool st]] v fun e w' => e = .returned (.int .i64 rcv) ∧ Below v.heap.size v w') :
    Calls Try.prog 12 #[.agg #[.int .i64 kind, .int .i64 unit, .int .i64 block, .int .i64 many, .slice A m c, .int .i64 op, .int .i64 who, .int .i64 key, .int .i64 new, .int .i64 ty, .bool st], .int .i64 most] w fun e w' => e = .returned (.bool true) ∧ Below w.heap.size w w' := by
  have hmx := w0.mx
  have hmc := w0.le
  have HLEN := Lib.hid w0.len
  obtain ⟨g2, hg2⟩ : ∃ g, g = w.heap.size := ⟨_, rfl⟩
  obtain ⟨g3, hg3⟩ : ∃ g, g = w.heap.size + 1 := ⟨_, rfl⟩
  obtain ⟨g4, hg4⟩ : ∃ g, g = w.heap.size + 1 + 1 := ⟨_, rfl⟩
  obtain ⟨v, hv⟩ : ∃ v, v = ((w.alloc (.cells #[.int .i64 kind, .int .i64 unit, .int .i64 block, .int .i64 many, .slice A m c, .int .i64 op, .int .i64 who, .int .i64 key, .int .i64 new, .int .i64 ty, .bool st] 56)).alloc (.cells #[.int .i64 most] 3)).alloc (.cells #[.bool false] 4) := ⟨_, rfl⟩
  have b2 : Blk v g2 56 #[.int .i64 kind, .int .i64 unit, .int .i64 block, .int .i64 many, .slice A m c, .int .i64 op, .int .i64 who, .int .i64 key, .int .i64 new, .int .i64 ty, .bool st] := by rw [hv, hg2]; exact ((Blk.new _ _ _).alloc _).alloc _
  have b3 : Blk v g3 3 #[.int .i64 most] := by
    have := (Blk.new (w.alloc (.cells #[.int .i64 kind, .int .i64 unit, .int .i64 block, .int .i64 many, .slice A m c, .int .i64 op, .int .i64 who, .int .i64 key, .int .i64 new, .int .i64 ty, .bool st] 56)) 3 #[.int .i64 most]).alloc (.cells #[.bool false] 4)
    rw [World.size_alloc] at this
    rw [hv, hg3]; exact this
  have b4 : Blk v g4 4 #[.bool false] := by
    have := Blk.new ((w.alloc (.cells #[.int .i64 kind, .int .i64 unit, .int .i64 block, .int .i64 many, .slice A m c, .int .i64 op, .int .i64 who, .int .i64 key, .int .i64 new, .int .i64 ty, .bool st] 56)).alloc (.cells #[.int .i64 most] 3)) 4 #[.bool false]
    rw [World.size_alloc, World.size_alloc] at this
    rw [hv, hg4]; exact this
  have hbv : Below w.heap.size w v := by rw [hv]; exact (((Below.refl _ _).alloc (Nat.le_refl _) _).alloc (by simp) _).alloc (by simp only [World.size_alloc]; omega) _
  have hz := hbv.size
  have hg4v := b4.lt
  have hG : g2 < g3 ∧ g3 < g4 ∧ w.heap.size ≤ g2 := by omega
  have HS0 := Lib.hid (show Stay w [(g2, 56, #[.int .i64 kind, .int .i64 unit, .int .i64 block, .int .i64 many, .slice A m c, .int .i64 op, .int .i64 who, .int .i64 key, .int .i64 new, .int .i64 ty, .bool st]), (g3, 3, #[.int .i64 most]), (g4, 4, #[.bool false])] (fun _ => False) v from ⟨fun p hp => by
    simp only [List.mem_cons, List.not_mem_nil, or_false] at hp
    rcases hp with rfl | rfl | rfl
    · exact ⟨fun e => e, b2⟩
    · exact ⟨fun e => e, b3⟩
    · exact ⟨fun e => e, b4⟩, hbv⟩)
  have HD := Lib.hid w0
  have HV := Lib.hid hv
  have HG2 := Lib.hid hg2
  have HG3 := Lib.hid hg3
  have HG4 := Lib.hid hg4
  have HB2 := Lib.hid b2
  have HB4 := Lib.hid b4
  clear hv hg2 hg3 hg4 w0 b2 b3 b4
  refine calls_of_wp_marks Try.func12 rfl ?_
  simp only [Try.ntmps12, List.size_toArray, List.length_cons, List.length_nil, Nat.reduceAdd, Nat.reduceSub, Array.replicate_succ, Array.replicate_zero, List.push_toArray, List.append_toArray, List.nil_append, List.cons_append]
  go_wp2_with (first
    | (go_at_call 28; (fail_if_success have hx := X0); rw [← HV.out, ← HG4.out, ← HG3.out, ← HG2.out]; refine (example_c v).mono ?_; rintro e wa ⟨rfl, hba⟩; have hza := hba.size; have X0 := True.intro)
    | (go_at_call 27; refine (cenc_ex wa).mono ?_; rintro e wb ⟨Ab, cb, rfl, hob, hbb⟩; have hvb := hba.trans (hbb.mono hza); have hzb := hvb.size; have b2b := HB2.out.below hvb HB2.out.lt; clear hob)
    | ((with_reducible show wpList _ _ _ (Oper.mk (some 25) (Op.load 56 _) _ _ _ _ :: _) _ _); refine wpList_load_whole rfl 56 (.tmp 2) rfl (g2) rfl #[.int .i64 kind, .int .i64 unit, .int .i64 block, .int .i64 many, .slice A m c, .int .i64 op, .int .i64 who, .int .i64 key, .int .i64 new, .int .i64 ty, .bool st] aggCm rfl _ (b2b) ?_)
    | (go_at_call 29; refine (large15_c kind unit block many op who key new ty st hmx false (decide_eq_false (by omega))).mono ?_; rintro e w2 ⟨rfl, hb2⟩; have hv2 := hvb.trans (hb2.mono hzb); have hz2 := hv2.size; have b42 := HB4.out.below hv2 HB4.out.lt; have d4 : w2.cell? ⟨g4, 0, none⟩ = some (.bool false) := (by rw [b42.cell]; rfl); have f4 := b42.frozen 0)
    | (go_at_call 28; have hprev := X0; clear hprev; obtain ⟨g7, hg7⟩ : ∃ g, g = w2.heap.size := ⟨_, rfl⟩; obtain ⟨w3, hw3⟩ : ∃ w3, w3 = w2.alloc (.cells #[.int .i64 0] 3) := ⟨_, rfl⟩; rw [← hw3, ← hg7]; have b73 : Blk w3 g7 3 #[.int .i64 0] := (by rw [hw3, hg7]; exact Blk.new _ _ _); have h23 : Below w2.heap.size w2 w3 := (by rw [hw3]; exact below_alloc _ _); have hv3 := hv2.trans (h23.mono hz2); have hz3 := hv3.size; have hg74 : g4 < g7 := (by omega); clear hg7 hw3 d4 f4 b42; refine (example_c w3).mono ?_; rintro e w4 ⟨rfl, hb4⟩; have hv4 := hv3.trans (hb4.mono hz3); have hz4 := hv4.size; have b74 := b73.below hb4 b73.lt)
    | (go_at_call 39; (fail_if_success have hx := K0); refine (blocks_c 1 1 2 3 0 0 0 0 0 false (SlB.nil w4 0 none) (Nat.zero_le _) (by omega) ⟨by decide, by decide, by decide, by decide⟩ ⟨by decide, by decide, by decide, by decide⟩ 3 384 384 (fun _ => rfl) (fun h => absurd okB_ex h) rfl rfl).mono ?_; rintro e w5 ⟨gq, Aq, cq, rfl, hgq, p2, p3, p4, hoq, hnq, hb5⟩; have hv5 := hv4.trans (hb5.mono hz4); have hz5 := hv5.size; have b75 := b74.below hb5 b74.lt; have K0 := True.intro))
  have st5 : Stay w [(g2, 56, #[.int .i64 kind, .int .i64 unit, .int .i64 block, .int .i64 many, .slice A m c, .int .i64 op, .int .i64 who, .int .i64 key, .int .i64 new, .int .i64 ty, .bool st]), (g3, 3, #[.int .i64 most]), (g4, 4, #[.bool false])] (fun k => k = g7) w5 := (HS0.out.on hv5).imp (fun p hp => by
    simp only [List.mem_cons, List.not_mem_nil, or_false] at hp
    rcases hp with rfl | rfl | rfl <;> (show ¬ _ = g7; omega))
  have hz5w := st5.2.size
  have hg7l := b74.lt
  have hg75 := b75.lt
  have HB75 := Lib.hid b75
  have HS5 := Lib.hid st5
  have HP2 := Lib.hid p2
  have HP3 := Lib.hid p3
  have HP4 := Lib.hid p4
  have HOQ := Lib.hid hoq
  clear b75 st5 p2 p3 p4 hoq b73 b74
  refine wp_at fun a0 ha0 => ?_
  refine wp_range (O := fun k => k = g7) (a := a0) (by rw [ha0]; rfl) (enters_of Try.func61 (by kernel_rfl) rfl) (blocks_iter (M := 3) (block := 2) HP3.out HP2.out rfl HP4.out HOQ.out (by omega) (by omega) (fun _ => by omega)) (Below.refl _ _) (fun _ => rfl) (fun k hk => ⟨⟨by rw [hk]; omega, by rw [hk]; omega, by rw [hk]; omega, by rw [hk]; exact not_wrote HOQ.out (by omega)⟩, by rw [hk]; exact hg75⟩)
    (fun O' pre W' => Stay w [(g2, 56, #[.int .i64 kind, .int .i64 unit, .int .i64 block, .int .i64 many, .slice A m c, .int .i64 op, .int .i64 who, .int .i64 key, .int .i64 new, .int .i64 ty, .bool st]), (g3, 3, #[.int .i64 most]), (g4, 4, #[.bool false])] O' W' ∧ O' g7 ∧ Blk W' g7 3 #[.int .i64 (pre.length : Int)])
    (fun c pre W' => False) (fun O' => ownFrom_of fun s X X' hs hc => ⟨hs.1.calm hc hz5w, hs.2.1, hc.blk hs.2.2⟩) (fun c => ownFrom_of fun s X X' hs hc => hs) ⟨HS5.out, rfl, HB75.out⟩
    (fun O' pre x a' W' => (Stay w [(g2, 56, #[.int .i64 kind, .int .i64 unit, .int .i64 block, .int .i64 many, .slice A m c, .int .i64 op, .int .i64 who, .int .i64 key, .int .i64 new, .int .i64 ty, .bool st]), (g3, 3, #[.int .i64 most]), (g4, 4, #[.bool false])] O' W' ∧ O' g7 ∧ Blk W' g7 3 #[.int .i64 (pre.length : Int)]) ∧ x = pre.length ∧ x < 3 ∧ a' = { tmps := (a0.tmps.setIfInBounds 29 (.int .i64 (2 + (x : Int)))).setIfInBounds 30 (.agg (arr8 (blkAt ([] ++ List.replicate 384 0) x))), defers := [] })
    (fun O' pre x a' => ownFrom_of fun s X X' hs hc => ⟨⟨hs.1.1.calm hc hz5w, hs.1.2.1, hc.blk hs.1.2.2⟩, hs.2⟩) ?_ ?_ ?_ ?_
  · rintro l' O' pre x W' K hI ⟨hx1, hx2⟩ hK
    simp only [fold_two]
    refine wpIn_skip ?_
    exact hK O' _ _ (Kept.refl _ _) ⟨hI, hx1, hx2, rfl⟩
  · rintro l' O' pre x a' W' ⟨⟨sx, ho, bf⟩, hx1, hx2, rfl⟩
    subst ha0
    rw [← hx1] at bf
    have df : W'.cell? ⟨g7, 0, none⟩ = some (.int .i64 (x : Int)) := by rw [bf.cell]; rfl
    have ff : W'.frozen? ⟨g7, 0, none⟩ = false := bf.frozen 0
    obtain ⟨V, hV⟩ : ∃ V, V = W'.setCell ⟨g7, 0, none⟩ (.int .i64 ((x : Int) + 1)) := ⟨_, rfl⟩
    have bfV : Blk V g7 3 #[.int .i64 ((x : Int) + 1)] := by rw [hV]; simpa using bf.set_ 0 (.int .i64 ((x : Int) + 1))
    have stV : Stay w [(g2, 56, #[.int .i64 kind, .int .i64 unit, .int .i64 block, .int .i64 many, .slice A m c, .int .i64 op, .int .i64 who, .int .i64 key, .int .i64 new, .int .i64 ty, .bool st]), (g3, 3, #[.int .i64 most]), (g4, 4, #[.bool false])] O' V := by rw [hV]; exact sx.step (grownBy_setCell _ g7 0 _) ho (by omega)
    have hkV : Kept O' O' W' V := by rw [hV]; exact Kept.setCell ho 0 _
    have d8 : V.cell? ⟨g7, 0, none⟩ = some (.int .i64 ((x : Int) + 1)) := by rw [bfV.cell]; rfl
    rw [hV] at d8
    have HVV := Lib.hid hV
    have hpl : (((pre ++ [x]).length : Nat) : Int) = (x : Int) + 1 := by rw [List.length_append, List.length_cons, List.length_nil, hx1]; rfl
    have HPL := Lib.hid hpl
    have HS := Lib.hid stV
    have HB := Lib.hid bfV
    have HKV := Lib.hid hkV
    have hx0 : (0 : Int) ≤ (x : Int) := by omega
    have hxb : (x : Int) ≤ 3 := by omega
    have hx3 : ¬ (3 : Int) < (x : Int) + 1 := by omega
    clear hpl stV bfV hkV hV sx bf hx1
    simp only [List.setIfInBounds_toArray, List.set_cons_succ, List.set_cons_zero]
    gi_wp2
    rw [← HVV.out]
    exact ⟨O', HKV.out, HS.out, ho, by simp only [HPL.out]; exact HB.out⟩
  · rintro D O' ys W' hD hys ⟨sx, ho, bf⟩ hK
    have h3 : ys.length = 3 := by rw [hys, len_upTo]
    rw [h3] at bf
    subst ha0
    obtain ⟨u, hu⟩ : ∃ u : Nat, IntKind.u64.wrap most = (u : Int) := ⟨(IntKind.u64.wrap most).toNat, by rw [Int.toNat_of_nonneg (wrap_u64_nn _)]⟩
    obtain ⟨kk, hkk⟩ : ∃ kk : Nat, kk = u % 20 := ⟨_, rfl⟩
    obtain ⟨mm, hmm⟩ : ∃ mm : Nat, mm = 1 + kk := ⟨_, rfl⟩
    have hM1 : 1 ≤ mm := by omega
    have hM20 : mm ≤ 20 := by omega
    have htm : ((u : Int)).tmod 20 = (kk : Int) := by rw [Int.tmod_eq_emod_of_nonneg (by omega)]; omega
    have hmd : (u : Int) % 20 = (kk : Int) := by omega
    have hMi : 1 + (kk : Int) = (mm : Int) := by omega
    have hu20 : (kk : Int) < 20 := by omega
    have hu0 : (0 : Int) ≤ (kk : Int) := by omega
    clear hkk hmm
    have c3 := (sx.1 _ (List.Mem.tail _ (List.Mem.head _))).2
    have d3 : W'.cell? ⟨g3, 0, none⟩ = some (.int .i64 most) := by rw [c3.cell]; rfl
    have f3 : W'.frozen? ⟨g3, 0, none⟩ = false := c3.frozen 0
    have hDn : D < W'.heap.size := by
      rcases Nat.lt_or_ge D W'.heap.size with h | h
      · exact h
      · rw [Array.getElem?_eq_none h] at hK; cases hK
    obtain ⟨V6, hV6⟩ : ∃ V6, V6 = W'.setCell ⟨g3, 0, none⟩ (.int .i64 (mm : Int)) := ⟨_, rfl⟩
    have s6 : Stay w [(g2, 56, #[.int .i64 kind, .int .i64 unit, .int .i64 block, .int .i64 many, .slice A m c, .int .i64 op, .int .i64 who, .int .i64 key, .int .i64 new, .int .i64 ty, .bool st]), (g3, 3, #[.int .i64 (mm : Int)]), (g4, 4, #[.bool false]), (g7, 3, #[.int .i64 3])] (fun _ => False) V6 := by
      rw [hV6]
      refine ⟨fun p hp => ?_, sx.2.setCell (p := ⟨g3, 0, none⟩) (by show w.heap.size ≤ g3; omega) _⟩
      simp only [List.mem_cons, List.not_mem_nil, or_false] at hp
      rcases hp with rfl | rfl | rfl | rfl
      · exact ⟨fun e => e, (sx.1 _ (List.Mem.head _)).2.far (by show g2 ≠ g3; omega) _⟩
      · exact ⟨fun e => e, by simpa using c3.set_ 0 (.int .i64 (mm : Int))⟩
      · exact ⟨fun e => e, (sx.1 _ (List.Mem.tail _ (List.Mem.tail _ (List.Mem.head _)))).2.far (by show g4 ≠ g3; omega) _⟩
      · exact ⟨fun e => e, bf.far (by show g7 ≠ g3; omega) _⟩
    have hK6 : V6.heap[D]? = some (.deferred (some [])) := by rw [hV6]; exact (Below.heap_setCell _ _ _ _ (by show D ≠ g3; omega)).trans hK
    have hz6 : V6.heap.size = W'.heap.size := by rw [hV6, World.size_setCell]
    obtain ⟨g8, hg8⟩ : ∃ g, g = W'.heap.size := ⟨_, rfl⟩
    obtain ⟨V7, hV7⟩ : ∃ V7, V7 = V6.alloc (.cells #[.int .i64 0] 3) := ⟨_, rfl⟩
    have b87 : Blk V7 g8 3 #[.int .i64 0] := by rw [hV7, hg8, ← hz6]; exact Blk.new _ _ _
    have h67 : Below V6.heap.size V6 V7 := by rw [hV7]; exact below_alloc _ _
    have s7 := s6.on h67
    have hK7 := (h67.block D (by omega)).trans hK6
    have hg8D : D < g8 ∧ g7 < g8 := by have := bf.lt; omega
    have hg87 : g8 < V7.heap.size := b87.lt
    have HV6 := Lib.hid hV6
    have HV7 := Lib.hid hV7
    have HG8 := Lib.hid hg8
    have HS7 := Lib.hid s7
    have HB87 := Lib.hid b87
    have HK7 := Lib.hid hK7
    clear hV6 hV7 hg8 s6 s7 b87 h67 hK6 hK7 hz6 sx bf hK c3 hys ho
    go_wp2_with (first
      | ((with_reducible show wpList _ _ _ (Oper.mk (some 40) (Op.load 56 _) _ _ _ _ :: _) _ _); rw [← HV6.out, ← HV7.out, ← HG8.out]; refine wpList_load_whole rfl 56 (.tmp 2) rfl g2 rfl #[.int .i64 kind, .int .i64 unit, .int .i64 block, .int .i64 many, .slice A m c, .int .i64 op, .int .i64 who, .int .i64 key, .int .i64 new, .int .i64 ty, .bool st] aggCm rfl _ (HS7.out.1 _ (List.Mem.head _)).2 ?_)
      | (go_at_call 34; refine (hrc V7 HS7.out.2).mono ?_; rintro e w8 ⟨rfl, hb8⟩; have s8 := HS7.out.on hb8; have b88 := HB87.out.below hb8 HB87.out.lt; have hK8 := (hb8.block D (by omega)).trans HK7.out; have hz8 := hb8.size; have k20 : w8.cell? ⟨g2, 0, none⟩ = some (.int .i64 kind) := (by rw [s8.cell (List.Mem.head _)]; rfl); have k23 : w8.cell? ⟨g2, 3, none⟩ = some (.int .i64 many) := (by rw [s8.cell (List.Mem.head _)]; rfl); have d8 : w8.cell? ⟨g8, 0, none⟩ = some (.int .i64 0) := (by rw [b88.cell]; rfl); have f8 := b88.frozen 0; skip)
      | ((with_reducible show wpList _ _ _ (Oper.mk (some 55) (Op.load 56 _) _ _ _ _ :: _) _ _); have s9 : Stay w [(g2, 56, #[.int .i64 kind, .int .i64 unit, .int .i64 block, .int .i64 many, .slice A m c, .int .i64 op, .int .i64 who, .int .i64 key, .int .i64 new, .int .i64 ty, .bool st]), (g3, 3, #[.int .i64 (mm : Int)]), (g4, 4, #[.bool false]), (g7, 3, #[.int .i64 3]), (g8, 3, #[.int .i64 (M : Int)])] (fun _ => False) w8 := Stay.snoc s8 (fun e => e) (by rw [HMN.out HOK.out]; exact b88); have hz9 : w8.heap.size = w8.heap.size := rfl; have hK9 : w8.heap[D]? = some (.deferred (some [])) := hK8; have hV9 := True.intro; obtain ⟨g9, hg9⟩ : ∃ g, g = w8.heap.size := ⟨_, rfl⟩; obtain ⟨V10, hV10⟩ : ∃ V10, V10 = w8.alloc (.cells #[.int .i64 0] 3) := ⟨_, rfl⟩; rw [← hV10, ← hg9]; have h90 : Below w8.heap.size w8 V10 := (by rw [hV10]; exact below_alloc _ _); have s10 := s9.on h90; have b90 : Blk V10 g9 3 #[.int .i64 0] := (by rw [hV10, hg9, ← hz9]; exact Blk.new _ _ _); have hK10 := (h90.block D (by omega)).trans hK9; have hg98 : g8 < g9 := (by omega); have hg910 : g9 < V10.heap.size := b90.lt; clear hV9 hV10 hg9 s9 h90 hK9 hz9 k20 k23 d8 f8 s8 b88 hK8; refine wpList_load_whole rfl 56 (.tmp 2) rfl g2 rfl #[.int .i64 kind, .int .i64 unit, .int .i64 block, .int .i64 many, .slice A m c, .int .i64 op, .int .i64 who, .int .i64 key, .int .i64 new, .int .i64 ty, .bool st] aggCm rfl _ (s10.1 _ (List.Mem.head _)).2 ?_)
      | (go_at_call 39; have hprev := K0; clear hprev; refine (blocks_c kind unit block many op who key new ty st (HD.out.below s10.2) s10.2.size (by omega) HX.out HY.out M z N HMY.out HMN.out HZZ.out HNN.out).mono ?_; rintro e w11 ⟨gr, Ar, cr, rfl, hgr, q2, q3, q4, hor, hnr, hb11⟩; have s11 := s10.on hb11; have b911 := b90.below hb11 b90.lt; have hK11 := (hb11.block D (by omega)).trans hK10; have hz11 := hb11.size; clear s10 b90 hK10))
    have hz11w := s11.2.size
    have hg911 := b911.lt
    have hMle : M ≤ 65536 := by have := HMN.out HOK.out; omega
    have hN128 : 128 * M ≤ N := by have := HZZ.out; have := HNN.out; omega
    have hDall : D < w11.heap.size := by omega
    have hbl : 0 < M → 0 ≤ block ∧ block ≤ 65536 := by intro h; have := HMN.out HOK.out; omega
    have HLB := Lib.hid (show ∀ x, x < M → (blkAt (ds ++ List.replicate z 0) x).length = 128 from fun x hx => len_blkAt (M := M) (by rw [OwB.len hor]; exact hN128) hx)
    have HS11 := Lib.hid s11
    have HB911 := Lib.hid b911
    have HK11 := Lib.hid hK11
    have HQ2 := Lib.hid q2
    have HQ3 := Lib.hid q3
    have HQ4 := Lib.hid q4
    have HOR := Lib.hid hor
    clear s11 b911 hK11 q2 q3 q4 hor
    refine wp_at fun a1 ha1 => ?_
    refine wp_range (O := fun k => k = g9) (a := a1) (by rw [ha1]; rfl) (enters_of Try.func61 (by kernel_rfl) rfl) (blocks_iter (M := M) (block := block) HQ3.out HQ2.out rfl HQ4.out HOR.out hMle hN128 hbl) (Below.refl _ _) (fun _ => rfl) (fun k hk => ⟨⟨by rw [hk]; omega, by rw [hk]; omega, by rw [hk]; omega, by rw [hk]; exact not_wrote HOR.out (by omega)⟩, by rw [hk]; exact hg911⟩)
      (fun O' pre W' => Stay w [(g2, 56, #[.int .i64 kind, .int .i64 unit, .int .i64 block, .int .i64 many, .slice A m c, .int .i64 op, .int .i64 who, .int .i64 key, .int .i64 new, .int .i64 ty, .bool st]), (g3, 3, #[.int .i64 (mm : Int)]), (g4, 4, #[.bool false]), (g7, 3, #[.int .i64 3]), (g8, 3, #[.int .i64 (M : Int)])] O' W' ∧ O' g9 ∧ Blk W' g9 3 #[.int .i64 (pre.length : Int)] ∧ W'.heap[D]? = some (.deferred (some [])) ∧ pre.length < mm)
      (fun cx pre W' => cx = .exit 2 ∧ (∃ O', Stay w [(g2, 56, #[.int .i64 kind, .int .i64 unit, .int .i64 block, .int .i64 many, .slice A m c, .int .i64 op, .int .i64 who, .int .i64 key, .int .i64 new, .int .i64 ty, .bool st]), (g3, 3, #[.int .i64 (mm : Int)]), (g4, 4, #[.bool false]), (g7, 3, #[.int .i64 3]), (g8, 3, #[.int .i64 (M : Int)])] O' W') ∧ Blk W' g9 3 #[.int .i64 (pre.length : Int)] ∧ W'.heap[D]? = some (.deferred (some [])) ∧ pre.length = mm ∧ pre.length ≤ M)
      (fun O' => ownFrom_of fun s X X' hs hc => ⟨hs.1.calm hc hz11w, hs.2.1, hc.blk hs.2.2.1, calm_heap hc hDall hs.2.2.2.1, hs.2.2.2.2⟩) (fun c => ownFrom_of fun s X X' hs hc => ⟨hs.1, by obtain ⟨O', h⟩ := hs.2.1; exact ⟨O', h.calm hc hz11w⟩, hc.blk hs.2.2.1, calm_heap hc hDall hs.2.2.2.1, hs.2.2.2.2⟩) ⟨HS11.out.imp (fun p hp => by
        simp only [List.mem_cons, List.not_mem_nil, or_false] at hp
        rcases hp with rfl | rfl | rfl | rfl | rfl <;> (show ¬ _ = g9; omega)), rfl, HB911.out, HK11.out, by show 0 < mm; omega⟩
      (fun O' pre x a' W' => (Stay w [(g2, 56, #[.int .i64 kind, .int .i64 unit, .int .i64 block, .int .i64 many, .slice A m c, .int .i64 op, .int .i64 who, .int .i64 key, .int .i64 new, .int .i64 ty, .bool st]), (g3, 3, #[.int .i64 (mm : Int)]), (g4, 4, #[.bool false]), (g7, 3, #[.int .i64 3]), (g8, 3, #[.int .i64 (M : Int)])] O' W' ∧ O' g9 ∧ Blk W' g9 3 #[.int .i64 (pre.length : Int)] ∧ W'.heap[D]? = some (.deferred (some [])) ∧ pre.length < mm) ∧ x = pre.length ∧ x < M ∧ ∃ gx, Blk W' gx 75 (arr8 (blkAt (ds ++ List.replicate z 0) x)) ∧ a' = { tmps := (((a1.tmps.setIfInBounds 57 (.int .i64 (block + (x : Int)))).setIfInBounds 58 (.agg (arr8 (blkAt (ds ++ List.replicate z 0) x)))).setIfInBounds 10 (.int .i64 (block + (x : Int)))).setIfInBounds 11 (.pointer (some ⟨gx, 0, none⟩)), defers := [] })
      (fun O' pre x a' => ownFrom_of fun s X X' hs hc => ⟨⟨hs.1.1.calm hc hz11w, hs.1.2.1, hc.blk hs.1.2.2.1, calm_heap hc hDall hs.1.2.2.2.1, hs.1.2.2.2.2⟩, hs.2.1, hs.2.2.1, by obtain ⟨gx, h2, h3⟩ := hs.2.2.2; exact ⟨gx, hc.blk h2, h3⟩⟩) ?_ ?_ ?_ ?_
    · rintro l' O' pre x W' K hI ⟨hx1, hx2⟩ hK
      exact absurd hx2 (by have := HMN.out HOK.out; omega)
    · rintro l' O' pre x a' W' ⟨hI, hx1, hx2, _⟩
      exact absurd hx2 (by have := HMN.out HOK.out; omega)
    · rintro D2 O2 ys2 W' hD2 hys2 ⟨sx, ho, b9, hKD, hlt⟩ hK2
      have h5 : ys2.length = M := by rw [hys2, len_upTo]
      rw [h5] at b9 hlt
      have hcm1 : (M : Int) < (mm : Int) := by omega
      clear hys2 ho
      have k7 : W'.cell? ⟨g7, 0, none⟩ = some (.int .i64 3) := by rw [sx.cell (List.Mem.tail _ (List.Mem.tail _ (List.Mem.tail _ (List.Mem.head _))))]; rfl
      have k9 : W'.cell? ⟨g9, 0, none⟩ = some (.int .i64 (M : Int)) := by rw [b9.cell]; rfl
      have k3 : W'.cell? ⟨g3, 0, none⟩ = some (.int .i64 (mm : Int)) := by rw [sx.cell (List.Mem.tail _ (List.Mem.head _))]; rfl
      have k8 : W'.cell? ⟨g8, 0, none⟩ = some (.int .i64 (M : Int)) := by rw [sx.cell (List.Mem.tail _ (List.Mem.tail _ (List.Mem.tail _ (List.Mem.tail _ (List.Mem.head _)))))]; rfl
      have c4 := (sx.1 _ (List.Mem.tail _ (List.Mem.tail _ (List.Mem.head _)))).2
      have k4 : W'.cell? ⟨g4, 0, none⟩ = some (.bool false) := by rw [c4.cell]; rfl
      have f4 : W'.frozen? ⟨g4, 0, none⟩ = false := c4.frozen 0
      have hc2 : ((M : Int) == (M : Int)) = true := by simp
      have HC4 := Lib.hid c4
      have HBW := Lib.hid sx.2
      have HKK := Lib.hid hKD
      have HKK2 := Lib.hid hK2
      have hg4w : w.heap.size ≤ g4 := by omega
      have hDg4 : D ≠ g4 := by omega
      have hD24 : D2 ≠ g4 ∧ D2 ≠ D := by omega
      subst ha1
      clear sx b9 hKD hK2 c4
      go_wp2_with fail
      have hb4' : Blk (W'.setCell ⟨g4, 0, none⟩ (.bool true)) g4 4 #[.bool true] := by simpa using HC4.out.set_ 0 (.bool true)
      have hD2' : (W'.setCell ⟨g4, 0, none⟩ (.bool true)).heap[D2]? = some (.deferred (some [])) := (Below.heap_setCell _ _ _ _ hD24.1).trans HKK2.out
      have hD1' : (W'.setCell ⟨g4, 0, none⟩ (.bool true)).heap[D]? = some (.deferred (some [])) := (Below.heap_setCell _ _ _ _ hDg4).trans HKK.out
      have hD1'' := (World.putObj_heap_other (o := .deferred none) (w := W'.setCell ⟨g4, 0, none⟩ (.bool true)) (Ne.symm hD24.2)).trans hD1'
      refine ⟨by simp, .inl ⟨_, _, rfl, run_takeDeferred hD2', ?_⟩⟩
      refine ⟨by simp, .inl ⟨_, _, rfl, run_takeDeferred hD1'', ?_⟩⟩
      refine ⟨_, res_bool rfl _ g4 4 true Try.underlying4 rfl ((World.putObj_heap_other (Ne.symm hDg4)).trans ((World.putObj_heap_other (Ne.symm hD24.1)).trans hb4')), rfl, ?_⟩
      have hbw := HBW.out.setCell (p := ⟨g4, 0, none⟩) hg4w (.bool true)
      have hc2 := (calm_putObj (B := w.heap.size) (.deferred none) (by omega) hD2' rfl).below hbw (Nat.le_refl _) (Nat.le_refl _)
      exact (calm_putObj (B := w.heap.size) (.deferred none) (by omega) hD1'' rfl).below hc2 (Nat.le_refl _) (Nat.le_refl _)
    · rintro D2 cx pre W' hD2 ⟨k, hk, hpre⟩ ⟨rfl, ⟨O2, sx⟩, b9, hKD, hpl, hple⟩ hK2
      rw [hpl] at b9 hple
      have hcm1 : ¬ (M : Int) < (mm : Int) := by omega
      clear hk hpre hpl
      have k7 : W'.cell? ⟨g7, 0, none⟩ = some (.int .i64 3) := by rw [sx.cell (List.Mem.tail _ (List.Mem.tail _ (List.Mem.tail _ (List.Mem.head _))))]; rfl
      have k9 : W'.cell? ⟨g9, 0, none⟩ = some (.int .i64 (mm : Int)) := by rw [b9.cell]; rfl
      have k3 : W'.cell? ⟨g3, 0, none⟩ = some (.int .i64 (mm : Int)) := by rw [sx.cell (List.Mem.tail _ (List.Mem.head _))]; rfl
      have k8 : W'.cell? ⟨g8, 0, none⟩ = some (.int .i64 (M : Int)) := by rw [sx.cell (List.Mem.tail _ (List.Mem.tail _ (List.Mem.tail _ (List.Mem.tail _ (List.Mem.head _)))))]; rfl
      have c4 := (sx.1 _ (List.Mem.tail _ (List.Mem.tail _ (List.Mem.head _)))).2
      have k4 : W'.cell? ⟨g4, 0, none⟩ = some (.bool false) := by rw [c4.cell]; rfl
      have f4 : W'.frozen? ⟨g4, 0, none⟩ = false := c4.frozen 0
      have hc2 : ((mm : Int) == (mm : Int)) = true := by simp
      have HC4 := Lib.hid c4
      have HBW := Lib.hid sx.2
      have HKK := Lib.hid hKD
      have HKK2 := Lib.hid hK2
      have hg4w : w.heap.size ≤ g4 := by omega
      have hDg4 : D ≠ g4 := by omega
      have hD24 : D2 ≠ g4 ∧ D2 ≠ D := by omega
      subst ha1
      clear sx b9 hKD hK2 c4
      go_wp2_with fail
      have hb4' : Blk (W'.setCell ⟨g4, 0, none⟩ (.bool true)) g4 4 #[.bool true] := by simpa using HC4.out.set_ 0 (.bool true)
      have hD2' : (W'.setCell ⟨g4, 0, none⟩ (.bool true)).heap[D2]? = some (.deferred (some [])) := (Below.heap_setCell _ _ _ _ hD24.1).trans HKK2.out
      have hD1' : (W'.setCell ⟨g4, 0, none⟩ (.bool true)).heap[D]? = some (.deferred (some [])) := (Below.heap_setCell _ _ _ _ hDg4).trans HKK.out
      have hD1'' := (World.putObj_heap_other (o := .deferred none) (w := W'.setCell ⟨g4, 0, none⟩ (.bool true)) (Ne.symm hD24.2)).trans hD1'
      refine ⟨by simp, .inl ⟨_, _, rfl, run_takeDeferred hD2', ?_⟩⟩
      refine ⟨by simp, .inl ⟨_, _, rfl, run_takeDeferred hD1'', ?_⟩⟩
      refine ⟨_, res_bool rfl _ g4 4 true Try.underlying4 rfl ((World.putObj_heap_other (Ne.symm hDg4)).trans ((World.putObj_heap_other (Ne.symm hD24.1)).trans hb4')), rfl, ?_⟩
      have hbw := HBW.out.setCell (p := ⟨g4, 0, none⟩) hg4w (.bool true)
      have hc2 := (calm_putObj (B := w.heap.size) (.deferred none) (by omega) hD2' rfl).below hbw (Nat.le_refl _) (Nat.le_refl _)
      exact (calm_putObj (B := w.heap.size) (.deferred none) (by omega) hD1'' rfl).below hc2 (Nat.le_refl _) (Nat.le_refl _)
  · rintro D c pre W' hD _ h
    exact h.elim

set_option maxHeartbeats 4000000 in
theorem walk_B2 (kind unit block many op who key new ty most : Int) (st : Bool) (A : Option Addr) (m c : Nat) (ds : List UInt8) (w : World) (w0 : SlB w w.heap.size A m c ds)
    (HX : Hid ((Lit.int .i64 kind).wf = true ∧ (Lit.int .i64 unit).wf = true ∧ (Lit.int .i64 block).wf = true ∧ (Lit.int .i64 many).wf = true)) (HY : Hid ((Lit.int .i64 op).wf = true ∧ (Lit.int .i64 key).wf = true ∧ (Lit.int .i64 new).wf = true ∧ (Lit.int .i64 ty).wf = true)) (hbi : ¬ (16384 : Int) < (m : Int)) (HOK : Hid (¬ okB kind unit block many m op who key new ty st)) (hk1 : (kind == 1) = false) (hk2 : (kind == 2) = false) (M z N : Nat) (HMY : Hid (okB kind unit block many m op who key new ty st → (M : Int) = many)) (HMN : Hid (¬ okB kind unit block many m op who key new ty st → M = 0)) (HZZ : Hid (z = 128 * M - m)) (HNN : Hid (N = m + z)) (hrc : ∀ v, Below w.heap.size w v → Calls Try.prog 34 #[.agg #[.int .i64 kind, .int .i64 unit, .int .i64 block, .int .i64 many, .slice A m c, .int .i64 op, .int .i64 who, .int .i64 key, .int .i64 new, .int .i64 ty, .bool st]] v fun e w' => e = .returned (.int .i64 0) ∧ Below v.heap.size v w') :
    Calls Try.prog 12 #[.agg #[.int .i64 kind, .int .i64 unit, .int .i64 block, .int .i64 many, .slice A m c, .int .i64 op, .int .i64 who, .int .i64 key, .int .i64 new, .int .i64 ty, .bool st], .int .i64 most] w fun e w' => e = .returned (.bool true) ∧ Below w.heap.size w w' := by
  have hmx := w0.mx
  have hmc := w0.le
  have HLEN := Lib.hid w0.len
  obtain ⟨g2, hg2⟩ : ∃ g, g = w.heap.size := ⟨_, rfl⟩
  obtain ⟨g3, hg3⟩ : ∃ g, g = w.heap.size + 1 := ⟨_, rfl⟩
  obtain ⟨g4, hg4⟩ : ∃ g, g = w.heap.size + 1 + 1 := ⟨_, rfl⟩
  obtain ⟨v, hv⟩ : ∃ v, v = ((w.alloc (.cells #[.int .i64 kind, .int .i64 unit, .int .i64 block, .int .i64 many, .slice A m c, .int .i64 op, .int .i64 who, .int .i64 key, .int .i64 new, .int .i64 ty, .bool st] 56)).alloc (.cells #[.int .i64 most] 3)).alloc (.cells #[.bool false] 4) := ⟨_, rfl⟩
  have b2 : Blk v g2 56 #[.int .i64 kind, .int .i64 unit, .int .i64 block, .int .i64 many, .slice A m c, .int .i64 op, .int .i64 who, .int .i64 key, .int .i64 new, .int .i64 ty, .bool st] := by rw [hv, hg2]; exact ((Blk.new _ _ _).alloc _).alloc _
  have b3 : Blk v g3 3 #[.int .i64 most] := by
    have := (Blk.new (w.alloc (.cells #[.int .i64 kind, .int .i64 unit, .int .i64 block, .int .i64 many, .slice A m c, .int .i64 op, .int .i64 who, .int .i64 key, .int .i64 new, .int .i64 ty, .bool st] 56)) 3 #[.int .i64 most]).alloc (.cells #[.bool false] 4)
    rw [World.size_alloc] at this
    rw [hv, hg3]; exact this
  have b4 : Blk v g4 4 #[.bool false] := by
    have := Blk.new ((w.alloc (.cells #[.int .i64 kind, .int .i64 unit, .int .i64 block, .int .i64 many, .slice A m c, .int .i64 op, .int .i64 who, .int .i64 key, .int .i64 new, .int .i64 ty, .bool st] 56)).alloc (.cells #[.int .i64 most] 3)) 4 #[.bool false]
    rw [World.size_alloc, World.size_alloc] at this
    rw [hv, hg4]; exact this
  have hbv : Below w.heap.size w v := by rw [hv]; exact (((Below.refl _ _).alloc (Nat.le_refl _) _).alloc (by simp) _).alloc (by simp only [World.size_alloc]; omega) _
  have hz := hbv.size
  have hg4v := b4.lt
  have hG : g2 < g3 ∧ g3 < g4 ∧ w.heap.size ≤ g2 := by omega
  have HS0 := Lib.hid (show Stay w [(g2, 56, #[.int .i64 kind, .int .i64 unit, .int .i64 block, .int .i64 many, .slice A m c, .int .i64 op, .int .i64 who, .int .i64 key, .int .i64 new, .int .i64 ty, .bool st]), (g3, 3, #[.int .i64 most]), (g4, 4, #[.bool false])] (fun _ => False) v from ⟨fun p hp => by
    simp only [List.mem_cons, List.not_mem_nil, or_false] at hp
    rcases hp with rfl | rfl | rfl
    · exact ⟨fun e => e, b2⟩
    · exact ⟨fun e => e, b3⟩
    · exact ⟨fun e => e, b4⟩, hbv⟩)
  have HD := Lib.hid w0
  have HV := Lib.hid hv
  have HG2 := Lib.hid hg2
  have HG3 := Lib.hid hg3
  have HG4 := Lib.hid hg4
  have HB2 := Lib.hid b2
  have HB4 := Lib.hid b4
  clear hv hg2 hg3 hg4 w0 b2 b3 b4
  refine calls_of_wp_marks Try.func12 rfl ?_
  simp only [Try.ntmps12, List.size_toArray, List.length_cons, List.length_nil, Nat.reduceAdd, Nat.reduceSub, Array.replicate_succ, Array.replicate_zero, List.push_toArray, List.append_toArray, List.nil_append, List.cons_append]
  go_wp2_with (first
    | (go_at_call 28; (fail_if_success have hx := X0); rw [← HV.out, ← HG4.out, ← HG3.out, ← HG2.out]; refine (example_c v).mono ?_; rintro e wa ⟨rfl, hba⟩; have hza := hba.size; have X0 := True.intro)
    | (go_at_call 27; refine (cenc_ex wa).mono ?_; rintro e wb ⟨Ab, cb, rfl, hob, hbb⟩; have hvb := hba.trans (hbb.mono hza); have hzb := hvb.size; have b2b := HB2.out.below hvb HB2.out.lt; clear hob)
    | ((with_reducible show wpList _ _ _ (Oper.mk (some 25) (Op.load 56 _) _ _ _ _ :: _) _ _); refine wpList_load_whole rfl 56 (.tmp 2) rfl (g2) rfl #[.int .i64 kind, .int .i64 unit, .int .i64 block, .int .i64 many, .slice A m c, .int .i64 op, .int .i64 who, .int .i64 key, .int .i64 new, .int .i64 ty, .bool st] aggCm rfl _ (b2b) ?_)
    | (go_at_call 29; refine (large15_c kind unit block many op who key new ty st hmx false (decide_eq_false (by omega))).mono ?_; rintro e w2 ⟨rfl, hb2⟩; have hv2 := hvb.trans (hb2.mono hzb); have hz2 := hv2.size; have b42 := HB4.out.below hv2 HB4.out.lt; have d4 : w2.cell? ⟨g4, 0, none⟩ = some (.bool false) := (by rw [b42.cell]; rfl); have f4 := b42.frozen 0)
    | (go_at_call 28; have hprev := X0; clear hprev; obtain ⟨g7, hg7⟩ : ∃ g, g = w2.heap.size := ⟨_, rfl⟩; obtain ⟨w3, hw3⟩ : ∃ w3, w3 = w2.alloc (.cells #[.int .i64 0] 3) := ⟨_, rfl⟩; rw [← hw3, ← hg7]; have b73 : Blk w3 g7 3 #[.int .i64 0] := (by rw [hw3, hg7]; exact Blk.new _ _ _); have h23 : Below w2.heap.size w2 w3 := (by rw [hw3]; exact below_alloc _ _); have hv3 := hv2.trans (h23.mono hz2); have hz3 := hv3.size; have hg74 : g4 < g7 := (by omega); clear hg7 hw3 d4 f4 b42; refine (example_c w3).mono ?_; rintro e w4 ⟨rfl, hb4⟩; have hv4 := hv3.trans (hb4.mono hz3); have hz4 := hv4.size; have b74 := b73.below hb4 b73.lt)
    | (go_at_call 39; (fail_if_success have hx := K0); refine (blocks_c 1 1 2 3 0 0 0 0 0 false (SlB.nil w4 0 none) (Nat.zero_le _) (by omega) ⟨by decide, by decide, by decide, by decide⟩ ⟨by decide, by decide, by decide, by decide⟩ 3 384 384 (fun _ => rfl) (fun h => absurd okB_ex h) rfl rfl).mono ?_; rintro e w5 ⟨gq, Aq, cq, rfl, hgq, p2, p3, p4, hoq, hnq, hb5⟩; have hv5 := hv4.trans (hb5.mono hz4); have hz5 := hv5.size; have b75 := b74.below hb5 b74.lt; have K0 := True.intro))
  have st5 : Stay w [(g2, 56, #[.int .i64 kind, .int .i64 unit, .int .i64 block, .int .i64 many, .slice A m c, .int .i64 op, .int .i64 who, .int .i64 key, .int .i64 new, .int .i64 ty, .bool st]), (g3, 3, #[.int .i64 most]), (g4, 4, #[.bool false])] (fun k => k = g7) w5 := (HS0.out.on hv5).imp (fun p hp => by
    simp only [List.mem_cons, List.not_mem_nil, or_false] at hp
    rcases hp with rfl | rfl | rfl <;> (show ¬ _ = g7; omega))
  have hz5w := st5.2.size
  have hg7l := b74.lt
  have hg75 := b75.lt
  have HB75 := Lib.hid b75
  have HS5 := Lib.hid st5
  have HP2 := Lib.hid p2
  have HP3 := Lib.hid p3
  have HP4 := Lib.hid p4
  have HOQ := Lib.hid hoq
  clear b75 st5 p2 p3 p4 hoq b73 b74
  refine wp_at fun a0 ha0 => ?_
  refine wp_range (O := fun k => k = g7) (a := a0) (by rw [ha0]; rfl) (enters_of Try.func61 (by kernel_rfl) rfl) (blocks_iter (M := 3) (block := 2) HP3.out HP2.out rfl HP4.out HOQ.out (by omega) (by omega) (fun _ => by omega)) (Below.refl _ _) (fun _ => rfl) (fun k hk => ⟨⟨by rw [hk]; omega, by rw [hk]; omega, by rw [hk]; omega, by rw [hk]; exact not_wrote HOQ.out (by omega)⟩, by rw [hk]; exact hg75⟩)
    (fun O' pre W' => Stay w [(g2, 56, #[.int .i64 kind, .int .i64 unit, .int .i64 block, .int .i64 many, .slice A m c, .int .i64 op, .int .i64 who, .int .i64 key, .int .i64 new, .int .i64 ty, .bool st]), (g3, 3, #[.int .i64 most]), (g4, 4, #[.bool false])] O' W' ∧ O' g7 ∧ Blk W' g7 3 #[.int .i64 (pre.length : Int)])
    (fun c pre W' => False) (fun O' => ownFrom_of fun s X X' hs hc => ⟨hs.1.calm hc hz5w, hs.2.1, hc.blk hs.2.2⟩) (fun c => ownFrom_of fun s X X' hs hc => hs) ⟨HS5.out, rfl, HB75.out⟩
    (fun O' pre x a' W' => (Stay w [(g2, 56, #[.int .i64 kind, .int .i64 unit, .int .i64 block, .int .i64 many, .slice A m c, .int .i64 op, .int .i64 who, .int .i64 key, .int .i64 new, .int .i64 ty, .bool st]), (g3, 3, #[.int .i64 most]), (g4, 4, #[.bool false])] O' W' ∧ O' g7 ∧ Blk W' g7 3 #[.int .i64 (pre.length : Int)]) ∧ x = pre.length ∧ x < 3 ∧ a' = { tmps := (a0.tmps.setIfInBounds 29 (.int .i64 (2 + (x : Int)))).setIfInBounds 30 (.agg (arr8 (blkAt ([] ++ List.replicate 384 0) x))), defers := [] })
    (fun O' pre x a' => ownFrom_of fun s X X' hs hc => ⟨⟨hs.1.1.calm hc hz5w, hs.1.2.1, hc.blk hs.1.2.2⟩, hs.2⟩) ?_ ?_ ?_ ?_
  · rintro l' O' pre x W' K hI ⟨hx1, hx2⟩ hK
    simp only [fold_two]
    refine wpIn_skip ?_
    exact hK O' _ _ (Kept.refl _ _) ⟨hI, hx1, hx2, rfl⟩
  · rintro l' O' pre x a' W' ⟨⟨sx, ho, bf⟩, hx1, hx2, rfl⟩
    subst ha0
    rw [← hx1] at bf
    have df : W'.cell? ⟨g7, 0, none⟩ = some (.int .i64 (x : Int)) := by rw [bf.cell]; rfl
    have ff : W'.frozen? ⟨g7, 0, none⟩ = false := bf.frozen 0
    obtain ⟨V, hV⟩ : ∃ V, V = W'.setCell ⟨g7, 0, none⟩ (.int .i64 ((x : Int) + 1)) := ⟨_, rfl⟩
    have bfV : Blk V g7 3 #[.int .i64 ((x : Int) + 1)] := by rw [hV]; simpa using bf.set_ 0 (.int .i64 ((x : Int) + 1))
    have stV : Stay w [(g2, 56, #[.int .i64 kind, .int .i64 unit, .int .i64 block, .int .i64 many, .slice A m c, .int .i64 op, .int .i64 who, .int .i64 key, .int .i64 new, .int .i64 ty, .bool st]), (g3, 3, #[.int .i64 most]), (g4, 4, #[.bool false])] O' V := by rw [hV]; exact sx.step (grownBy_setCell _ g7 0 _) ho (by omega)
    have hkV : Kept O' O' W' V := by rw [hV]; exact Kept.setCell ho 0 _
    have d8 : V.cell? ⟨g7, 0, none⟩ = some (.int .i64 ((x : Int) + 1)) := by rw [bfV.cell]; rfl
    rw [hV] at d8
    have HVV := Lib.hid hV
    have hpl : (((pre ++ [x]).length : Nat) : Int) = (x : Int) + 1 := by rw [List.length_append, List.length_cons, List.length_nil, hx1]; rfl
    have HPL := Lib.hid hpl
    have HS := Lib.hid stV
    have HB := Lib.hid bfV
    have HKV := Lib.hid hkV
    have hx0 : (0 : Int) ≤ (x : Int) := by omega
    have hxb : (x : Int) ≤ 3 := by omega
    have hx3 : ¬ (3 : Int) < (x : Int) + 1 := by omega
    clear hpl stV bfV hkV hV sx bf hx1
    simp only [List.setIfInBounds_toArray, List.set_cons_succ, List.set_cons_zero]
    gi_wp2
    rw [← HVV.out]
    exact ⟨O', HKV.out, HS.out, ho, by simp only [HPL.out]; exact HB.out⟩
  · rintro D O' ys W' hD hys ⟨sx, ho, bf⟩ hK
    have h3 : ys.length = 3 := by rw [hys, len_upTo]
    rw [h3] at bf
    subst ha0
    obtain ⟨u, hu⟩ : ∃ u : Nat, IntKind.u64.wrap most = (u : Int) := ⟨(IntKind.u64.wrap most).toNat, by rw [Int.toNat_of_nonneg (wrap_u64_nn _)]⟩
    obtain ⟨kk, hkk⟩ : ∃ kk : Nat, kk = u % 20 := ⟨_, rfl⟩
    obtain ⟨mm, hmm⟩ : ∃ mm : Nat, mm = 1 + kk := ⟨_, rfl⟩
    have hM1 : 1 ≤ mm := by omega
    have hM20 : mm ≤ 20 := by omega
    have htm : ((u : Int)).tmod 20 = (kk : Int) := by rw [Int.tmod_eq_emod_of_nonneg (by omega)]; omega
    have hmd : (u : Int) % 20 = (kk : Int) := by omega
    have hMi : 1 + (kk : Int) = (mm : Int) := by omega
    have hu20 : (kk : Int) < 20 := by omega
    have hu0 : (0 : Int) ≤ (kk : Int) := by omega
    clear hkk hmm
    have c3 := (sx.1 _ (List.Mem.tail _ (List.Mem.head _))).2
    have d3 : W'.cell? ⟨g3, 0, none⟩ = some (.int .i64 most) := by rw [c3.cell]; rfl
    have f3 : W'.frozen? ⟨g3, 0, none⟩ = false := c3.frozen 0
    have hDn : D < W'.heap.size := by
      rcases Nat.lt_or_ge D W'.heap.size with h | h
      · exact h
      · rw [Array.getElem?_eq_none h] at hK; cases hK
    obtain ⟨V6, hV6⟩ : ∃ V6, V6 = W'.setCell ⟨g3, 0, none⟩ (.int .i64 (mm : Int)) := ⟨_, rfl⟩
    have s6 : Stay w [(g2, 56, #[.int .i64 kind, .int .i64 unit, .int .i64 block, .int .i64 many, .slice A m c, .int .i64 op, .int .i64 who, .int .i64 key, .int .i64 new, .int .i64 ty, .bool st]), (g3, 3, #[.int .i64 (mm : Int)]), (g4, 4, #[.bool false]), (g7, 3, #[.int .i64 3])] (fun _ => False) V6 := by
      rw [hV6]
      refine ⟨fun p hp => ?_, sx.2.setCell (p := ⟨g3, 0, none⟩) (by show w.heap.size ≤ g3; omega) _⟩
      simp only [List.mem_cons, List.not_mem_nil, or_false] at hp
      rcases hp with rfl | rfl | rfl | rfl
      · exact ⟨fun e => e, (sx.1 _ (List.Mem.head _)).2.far (by show g2 ≠ g3; omega) _⟩
      · exact ⟨fun e => e, by simpa using c3.set_ 0 (.int .i64 (mm : Int))⟩
      · exact ⟨fun e => e, (sx.1 _ (List.Mem.tail _ (List.Mem.tail _ (List.Mem.head _)))).2.far (by show g4 ≠ g3; omega) _⟩
      · exact ⟨fun e => e, bf.far (by show g7 ≠ g3; omega) _⟩
    have hK6 : V6.heap[D]? = some (.deferred (some [])) := by rw [hV6]; exact (Below.heap_setCell _ _ _ _ (by show D ≠ g3; omega)).trans hK
    have hz6 : V6.heap.size = W'.heap.size := by rw [hV6, World.size_setCell]
    obtain ⟨g8, hg8⟩ : ∃ g, g = W'.heap.size := ⟨_, rfl⟩
    obtain ⟨V7, hV7⟩ : ∃ V7, V7 = V6.alloc (.cells #[.int .i64 0] 3) := ⟨_, rfl⟩
    have b87 : Blk V7 g8 3 #[.int .i64 0] := by rw [hV7, hg8, ← hz6]; exact Blk.new _ _ _
    have h67 : Below V6.heap.size V6 V7 := by rw [hV7]; exact below_alloc _ _
    have s7 := s6.on h67
    have hK7 := (h67.block D (by omega)).trans hK6
    have hg8D : D < g8 ∧ g7 < g8 := by have := bf.lt; omega
    have hg87 : g8 < V7.heap.size := b87.lt
    have HV6 := Lib.hid hV6
    have HV7 := Lib.hid hV7
    have HG8 := Lib.hid hg8
    have HS7 := Lib.hid s7
    have HB87 := Lib.hid b87
    have HK7 := Lib.hid hK7
    clear hV6 hV7 hg8 s6 s7 b87 h67 hK6 hK7 hz6 sx bf hK c3 hys ho
    go_wp2_with (first
      | ((with_reducible show wpList _ _ _ (Oper.mk (some 40) (Op.load 56 _) _ _ _ _ :: _) _ _); rw [← HV6.out, ← HV7.out, ← HG8.out]; refine wpList_load_whole rfl 56 (.tmp 2) rfl g2 rfl #[.int .i64 kind, .int .i64 unit, .int .i64 block, .int .i64 many, .slice A m c, .int .i64 op, .int .i64 who, .int .i64 key, .int .i64 new, .int .i64 ty, .bool st] aggCm rfl _ (HS7.out.1 _ (List.Mem.head _)).2 ?_)
      | (go_at_call 34; refine (hrc V7 HS7.out.2).mono ?_; rintro e w8 ⟨rfl, hb8⟩; have s8 := HS7.out.on hb8; have b88 := HB87.out.below hb8 HB87.out.lt; have hK8 := (hb8.block D (by omega)).trans HK7.out; have hz8 := hb8.size; have k20 : w8.cell? ⟨g2, 0, none⟩ = some (.int .i64 kind) := (by rw [s8.cell (List.Mem.head _)]; rfl); have k23 : w8.cell? ⟨g2, 3, none⟩ = some (.int .i64 many) := (by rw [s8.cell (List.Mem.head _)]; rfl); have d8 : w8.cell? ⟨g8, 0, none⟩ = some (.int .i64 0) := (by rw [b88.cell]; rfl); have f8 := b88.frozen 0; skip)
      | ((with_reducible show wpList _ _ _ (Oper.mk (some 55) (Op.load 56 _) _ _ _ _ :: _) _ _); have s9 : Stay w [(g2, 56, #[.int .i64 kind, .int .i64 unit, .int .i64 block, .int .i64 many, .slice A m c, .int .i64 op, .int .i64 who, .int .i64 key, .int .i64 new, .int .i64 ty, .bool st]), (g3, 3, #[.int .i64 (mm : Int)]), (g4, 4, #[.bool false]), (g7, 3, #[.int .i64 3]), (g8, 3, #[.int .i64 (M : Int)])] (fun _ => False) w8 := Stay.snoc s8 (fun e => e) (by rw [HMN.out HOK.out]; exact b88); have hz9 : w8.heap.size = w8.heap.size := rfl; have hK9 : w8.heap[D]? = some (.deferred (some [])) := hK8; have hV9 := True.intro; obtain ⟨g9, hg9⟩ : ∃ g, g = w8.heap.size := ⟨_, rfl⟩; obtain ⟨V10, hV10⟩ : ∃ V10, V10 = w8.alloc (.cells #[.int .i64 0] 3) := ⟨_, rfl⟩; rw [← hV10, ← hg9]; have h90 : Below w8.heap.size w8 V10 := (by rw [hV10]; exact below_alloc _ _); have s10 := s9.on h90; have b90 : Blk V10 g9 3 #[.int .i64 0] := (by rw [hV10, hg9, ← hz9]; exact Blk.new _ _ _); have hK10 := (h90.block D (by omega)).trans hK9; have hg98 : g8 < g9 := (by omega); have hg910 : g9 < V10.heap.size := b90.lt; clear hV9 hV10 hg9 s9 h90 hK9 hz9 k20 k23 d8 f8 s8 b88 hK8; refine wpList_load_whole rfl 56 (.tmp 2) rfl g2 rfl #[.int .i64 kind, .int .i64 unit, .int .i64 block, .int .i64 many, .slice A m c, .int .i64 op, .int .i64 who, .int .i64 key, .int .i64 new, .int .i64 ty, .bool st] aggCm rfl _ (s10.1 _ (List.Mem.head _)).2 ?_)
      | (go_at_call 39; have hprev := K0; clear hprev; refine (blocks_c kind unit block many op who key new ty st (HD.out.below s10.2) s10.2.size (by omega) HX.out HY.out M z N HMY.out HMN.out HZZ.out HNN.out).mono ?_; rintro e w11 ⟨gr, Ar, cr, rfl, hgr, q2, q3, q4, hor, hnr, hb11⟩; have s11 := s10.on hb11; have b911 := b90.below hb11 b90.lt; have hK11 := (hb11.block D (by omega)).trans hK10; have hz11 := hb11.size; clear s10 b90 hK10))
    have hz11w := s11.2.size
    have hg911 := b911.lt
    have hMle : M ≤ 65536 := by have := HMN.out HOK.out; omega
    have hN128 : 128 * M ≤ N := by have := HZZ.out; have := HNN.out; omega
    have hDall : D < w11.heap.size := by omega
    have hbl : 0 < M → 0 ≤ block ∧ block ≤ 65536 := by intro h; have := HMN.out HOK.out; omega
    have HLB := Lib.hid (show ∀ x, x < M → (blkAt (ds ++ List.replicate z 0) x).length = 128 from fun x hx => len_blkAt (M := M) (by rw [OwB.len hor]; exact hN128) hx)
    have HS11 := Lib.hid s11
    have HB911 := Lib.hid b911
    have HK11 := Lib.hid hK11
    have HQ2 := Lib.hid q2
    have HQ3 := Lib.hid q3
    have HQ4 := Lib.hid q4
    have HOR := Lib.hid hor
    clear s11 b911 hK11 q2 q3 q4 hor
    refine wp_at fun a1 ha1 => ?_
    refine wp_range (O := fun k => k = g9) (a := a1) (by rw [ha1]; rfl) (enters_of Try.func61 (by kernel_rfl) rfl) (blocks_iter (M := M) (block := block) HQ3.out HQ2.out rfl HQ4.out HOR.out hMle hN128 hbl) (Below.refl _ _) (fun _ => rfl) (fun k hk => ⟨⟨by rw [hk]; omega, by rw [hk]; omega, by rw [hk]; omega, by rw [hk]; exact not_wrote HOR.out (by omega)⟩, by rw [hk]; exact hg911⟩)
      (fun O' pre W' => Stay w [(g2, 56, #[.int .i64 kind, .int .i64 unit, .int .i64 block, .int .i64 many, .slice A m c, .int .i64 op, .int .i64 who, .int .i64 key, .int .i64 new, .int .i64 ty, .bool st]), (g3, 3, #[.int .i64 (mm : Int)]), (g4, 4, #[.bool false]), (g7, 3, #[.int .i64 3]), (g8, 3, #[.int .i64 (M : Int)])] O' W' ∧ O' g9 ∧ Blk W' g9 3 #[.int .i64 (pre.length : Int)] ∧ W'.heap[D]? = some (.deferred (some [])) ∧ pre.length < mm)
      (fun cx pre W' => cx = .exit 2 ∧ (∃ O', Stay w [(g2, 56, #[.int .i64 kind, .int .i64 unit, .int .i64 block, .int .i64 many, .slice A m c, .int .i64 op, .int .i64 who, .int .i64 key, .int .i64 new, .int .i64 ty, .bool st]), (g3, 3, #[.int .i64 (mm : Int)]), (g4, 4, #[.bool false]), (g7, 3, #[.int .i64 3]), (g8, 3, #[.int .i64 (M : Int)])] O' W') ∧ Blk W' g9 3 #[.int .i64 (pre.length : Int)] ∧ W'.heap[D]? = some (.deferred (some [])) ∧ pre.length = mm ∧ pre.length ≤ M)
      (fun O' => ownFrom_of fun s X X' hs hc => ⟨hs.1.calm hc hz11w, hs.2.1, hc.blk hs.2.2.1, calm_heap hc hDall hs.2.2.2.1, hs.2.2.2.2⟩) (fun c => ownFrom_of fun s X X' hs hc => ⟨hs.1, by obtain ⟨O', h⟩ := hs.2.1; exact ⟨O', h.calm hc hz11w⟩, hc.blk hs.2.2.1, calm_heap hc hDall hs.2.2.2.1, hs.2.2.2.2⟩) ⟨HS11.out.imp (fun p hp => by
        simp only [List.mem_cons, List.not_mem_nil, or_false] at hp
        rcases hp with rfl | rfl | rfl | rfl | rfl <;> (show ¬ _ = g9; omega)), rfl, HB911.out, HK11.out, by show 0 < mm; omega⟩
      (fun O' pre x a' W' => (Stay w [(g2, 56, #[.int .i64 kind, .int .i64 unit, .int .i64 block, .int .i64 many, .slice A m c, .int .i64 op, .int .i64 who, .int .i64 key, .int .i64 new, .int .i64 ty, .bool st]), (g3, 3, #[.int .i64 (mm : Int)]), (g4, 4, #[.bool false]), (g7, 3, #[.int .i64 3]), (g8, 3, #[.int .i64 (M : Int)])] O' W' ∧ O' g9 ∧ Blk W' g9 3 #[.int .i64 (pre.length : Int)] ∧ W'.heap[D]? = some (.deferred (some [])) ∧ pre.length < mm) ∧ x = pre.length ∧ x < M ∧ ∃ gx, Blk W' gx 75 (arr8 (blkAt (ds ++ List.replicate z 0) x)) ∧ a' = { tmps := (((a1.tmps.setIfInBounds 57 (.int .i64 (block + (x : Int)))).setIfInBounds 58 (.agg (arr8 (blkAt (ds ++ List.replicate z 0) x)))).setIfInBounds 10 (.int .i64 (block + (x : Int)))).setIfInBounds 11 (.pointer (some ⟨gx, 0, none⟩)), defers := [] })
      (fun O' pre x a' => ownFrom_of fun s X X' hs hc => ⟨⟨hs.1.1.calm hc hz11w, hs.1.2.1, hc.blk hs.1.2.2.1, calm_heap hc hDall hs.1.2.2.2.1, hs.1.2.2.2.2⟩, hs.2.1, hs.2.2.1, by obtain ⟨gx, h2, h3⟩ := hs.2.2.2; exact ⟨gx, hc.blk h2, h3⟩⟩) ?_ ?_ ?_ ?_
    · rintro l' O' pre x W' K hI ⟨hx1, hx2⟩ hK
      exact absurd hx2 (by have := HMN.out HOK.out; omega)
    · rintro l' O' pre x a' W' ⟨hI, hx1, hx2, _⟩
      exact absurd hx2 (by have := HMN.out HOK.out; omega)
    · rintro D2 O2 ys2 W' hD2 hys2 ⟨sx, ho, b9, hKD, hlt⟩ hK2
      have h5 : ys2.length = M := by rw [hys2, len_upTo]
      rw [h5] at b9 hlt
      have hcm1 : (M : Int) < (mm : Int) := by omega
      clear hys2 ho
      have k7 : W'.cell? ⟨g7, 0, none⟩ = some (.int .i64 3) := by rw [sx.cell (List.Mem.tail _ (List.Mem.tail _ (List.Mem.tail _ (List.Mem.head _))))]; rfl
      have k9 : W'.cell? ⟨g9, 0, none⟩ = some (.int .i64 (M : Int)) := by rw [b9.cell]; rfl
      have k3 : W'.cell? ⟨g3, 0, none⟩ = some (.int .i64 (mm : Int)) := by rw [sx.cell (List.Mem.tail _ (List.Mem.head _))]; rfl
      have k8 : W'.cell? ⟨g8, 0, none⟩ = some (.int .i64 (M : Int)) := by rw [sx.cell (List.Mem.tail _ (List.Mem.tail _ (List.Mem.tail _ (List.Mem.tail _ (List.Mem.head _)))))]; rfl
      have c4 := (sx.1 _ (List.Mem.tail _ (List.Mem.tail _ (List.Mem.head _)))).2
      have k4 : W'.cell? ⟨g4, 0, none⟩ = some (.bool false) := by rw [c4.cell]; rfl
      have f4 : W'.frozen? ⟨g4, 0, none⟩ = false := c4.frozen 0
      have hc2 : ((M : Int) == (M : Int)) = true := by simp
      have HC4 := Lib.hid c4
      have HBW := Lib.hid sx.2
      have HKK := Lib.hid hKD
      have HKK2 := Lib.hid hK2
      have hg4w : w.heap.size ≤ g4 := by omega
      have hDg4 : D ≠ g4 := by omega
      have hD24 : D2 ≠ g4 ∧ D2 ≠ D := by omega
      subst ha1
      clear sx b9 hKD hK2 c4
      go_wp2_with fail
      have hb4' : Blk (W'.setCell ⟨g4, 0, none⟩ (.bool true)) g4 4 #[.bool true] := by simpa using HC4.out.set_ 0 (.bool true)
      have hD2' : (W'.setCell ⟨g4, 0, none⟩ (.bool true)).heap[D2]? = some (.deferred (some [])) := (Below.heap_setCell _ _ _ _ hD24.1).trans HKK2.out
      have hD1' : (W'.setCell ⟨g4, 0, none⟩ (.bool true)).heap[D]? = some (.deferred (some [])) := (Below.heap_setCell _ _ _ _ hDg4).trans HKK.out
      have hD1'' := (World.putObj_heap_other (o := .deferred none) (w := W'.setCell ⟨g4, 0, none⟩ (.bool true)) (Ne.symm hD24.2)).trans hD1'
      refine ⟨by simp, .inl ⟨_, _, rfl, run_takeDeferred hD2', ?_⟩⟩
      refine ⟨by simp, .inl ⟨_, _, rfl, run_takeDeferred hD1'', ?_⟩⟩
      refine ⟨_, res_bool rfl _ g4 4 true Try.underlying4 rfl ((World.putObj_heap_other (Ne.symm hDg4)).trans ((World.putObj_heap_other (Ne.symm hD24.1)).trans hb4')), rfl, ?_⟩
      have hbw := HBW.out.setCell (p := ⟨g4, 0, none⟩) hg4w (.bool true)
      have hc2 := (calm_putObj (B := w.heap.size) (.deferred none) (by omega) hD2' rfl).below hbw (Nat.le_refl _) (Nat.le_refl _)
      exact (calm_putObj (B := w.heap.size) (.deferred none) (by omega) hD1'' rfl).below hc2 (Nat.le_refl _) (Nat.le_refl _)
    · rintro D2 cx pre W' hD2 ⟨k, hk, hpre⟩ ⟨rfl, ⟨O2, sx⟩, b9, hKD, hpl, hple⟩ hK2
      rw [hpl] at b9 hple
      have hcm1 : ¬ (M : Int) < (mm : Int) := by omega
      clear hk hpre hpl
      have k7 : W'.cell? ⟨g7, 0, none⟩ = some (.int .i64 3) := by rw [sx.cell (List.Mem.tail _ (List.Mem.tail _ (List.Mem.tail _ (List.Mem.head _))))]; rfl
      have k9 : W'.cell? ⟨g9, 0, none⟩ = some (.int .i64 (mm : Int)) := by rw [b9.cell]; rfl
      have k3 : W'.cell? ⟨g3, 0, none⟩ = some (.int .i64 (mm : Int)) := by rw [sx.cell (List.Mem.tail _ (List.Mem.head _))]; rfl
      have k8 : W'.cell? ⟨g8, 0, none⟩ = some (.int .i64 (M : Int)) := by rw [sx.cell (List.Mem.tail _ (List.Mem.tail _ (List.Mem.tail _ (List.Mem.tail _ (List.Mem.head _)))))]; rfl
      have c4 := (sx.1 _ (List.Mem.tail _ (List.Mem.tail _ (List.Mem.head _)))).2
      have k4 : W'.cell? ⟨g4, 0, none⟩ = some (.bool false) := by rw [c4.cell]; rfl
      have f4 : W'.frozen? ⟨g4, 0, none⟩ = false := c4.frozen 0
      have hc2 : ((mm : Int) == (mm : Int)) = true := by simp
      have HC4 := Lib.hid c4
      have HBW := Lib.hid sx.2
      have HKK := Lib.hid hKD
      have HKK2 := Lib.hid hK2
      have hg4w : w.heap.size ≤ g4 := by omega
      have hDg4 : D ≠ g4 := by omega
      have hD24 : D2 ≠ g4 ∧ D2 ≠ D := by omega
      subst ha1
      clear sx b9 hKD hK2 c4
      go_wp2_with fail
      have hb4' : Blk (W'.setCell ⟨g4, 0, none⟩ (.bool true)) g4 4 #[.bool true] := by simpa using HC4.out.set_ 0 (.bool true)
      have hD2' : (W'.setCell ⟨g4, 0, none⟩ (.bool true)).heap[D2]? = some (.deferred (some [])) := (Below.heap_setCell _ _ _ _ hD24.1).trans HKK2.out
      have hD1' : (W'.setCell ⟨g4, 0, none⟩ (.bool true)).heap[D]? = some (.deferred (some [])) := (Below.heap_setCell _ _ _ _ hDg4).trans HKK.out
      have hD1'' := (World.putObj_heap_other (o := .deferred none) (w := W'.setCell ⟨g4, 0, none⟩ (.bool true)) (Ne.symm hD24.2)).trans hD1'
      refine ⟨by simp, .inl ⟨_, _, rfl, run_takeDeferred hD2', ?_⟩⟩
      refine ⟨by simp, .inl ⟨_, _, rfl, run_takeDeferred hD1'', ?_⟩⟩
      refine ⟨_, res_bool rfl _ g4 4 true Try.underlying4 rfl ((World.putObj_heap_other (Ne.symm hDg4)).trans ((World.putObj_heap_other (Ne.symm hD24.1)).trans hb4')), rfl, ?_⟩
      have hbw := HBW.out.setCell (p := ⟨g4, 0, none⟩) hg4w (.bool true)
      have hc2 := (calm_putObj (B := w.heap.size) (.deferred none) (by omega) hD2' rfl).below hbw (Nat.le_refl _) (Nat.le_refl _)
      exact (calm_putObj (B := w.heap.size) (.deferred none) (by omega) hD1'' rfl).below hc2 (Nat.le_refl _) (Nat.le_refl _)
  · rintro D c pre W' hD _ h
    exact h.elim

theorem walk (a1 : Int) (cs0 : List Value) (w : World) (x1 : (Lit.int .i64 a1).wf = true) (R0 : Rds w (.cons (.int .i64) (.cons (.int .i64) (.cons (.int .i64) (.cons (.int .i64) (.cons (.slice (.int .u8) 1 1) (.cons (.cons (.int .i64) (.cons (.int .i64) (.cons (.int .i64) (.cons (.int .i64) (.cons (.int .i64) (.cons .bool .nil)))))) .nil)))))) cs0) :
    Calls Try.prog 12 #[.agg cs0.toArray, .int .i64 a1] w fun e w' => e = .returned (.bool true) ∧ Below w.heap.size w w' := by
  obtain ⟨_, _, rfl, r0, _, _, rfl, r1, _, _, rfl, r2, _, _, rfl, r3, _, _, rfl, r4, _, _, rfl, r5, rfl⟩ := R0
  obtain ⟨kind, rfl, hx0⟩ := r0
  obtain ⟨unit, rfl, hx1⟩ := r1
  obtain ⟨block, rfl, hx2⟩ := r2
  obtain ⟨many, rfl, hx3⟩ := r3
  obtain ⟨A, m, c, ds, rfl, w4, y4⟩ := Rds.bytes r4
  obtain ⟨_, _, rfl, s0, _, _, rfl, s1, _, _, rfl, s2, _, _, rfl, s3, _, _, rfl, s4, _, _, rfl, s5, rfl⟩ := r5
  obtain ⟨op, rfl, hy0⟩ := s0
  obtain ⟨who, rfl, hy1⟩ := s1
  obtain ⟨key, rfl, hy2⟩ := s2
  obtain ⟨new, rfl, hy3⟩ := s3
  obtain ⟨ty, rfl, hy4⟩ := s4
  obtain ⟨st, rfl⟩ := s5
  clear r4
  simp only [List.cons_append, List.nil_append, List.append_nil]
  have HX := Lib.hid (show (Lit.int .i64 kind).wf = true ∧ (Lit.int .i64 unit).wf = true ∧ (Lit.int .i64 block).wf = true ∧ (Lit.int .i64 many).wf = true from ⟨hx0, hx1, hx2, hx3⟩)
  have HY := Lib.hid (show (Lit.int .i64 op).wf = true ∧ (Lit.int .i64 key).wf = true ∧ (Lit.int .i64 new).wf = true ∧ (Lit.int .i64 ty).wf = true from ⟨hy0, hy2, hy3, hy4⟩)
  by_cases hbi : (16384 : Int) < (m : Int)
  · exact walk_big kind unit block many op who key new ty a1 st A m c ds w w4 HX HY hbi
  by_cases hok : okB kind unit block many m op who key new ty st
  · have h1 := hok.2.2.2.1
    have hrc : ∀ v, Below w.heap.size w v → Calls Try.prog 34 #[.agg #[.int .i64 kind, .int .i64 unit, .int .i64 block, .int .i64 many, .slice A m c, .int .i64 op, .int .i64 who, .int .i64 key, .int .i64 new, .int .i64 ty, .bool st]] v fun e w' => e = .returned (.int .i64 0) ∧ Below v.heap.size v w' :=
      fun v hv => refcheck_ok kind unit block many op who key new ty st (w4.below hv) hv.size (by omega) HX.out HY.out hok.1 (by have := hok.2; omega)
    have hM : (many.toNat : Int) = many := by omega
    rcases hok.2.1 with hk | hk
    · exact walk_A1 kind unit block many op who key new ty a1 st A m c ds w w4 HX HY hbi (Lib.hid hok) (Lib.hid hk) many.toNat _ _ (Lib.hid fun _ => hM) (Lib.hid fun h => absurd hok h) (Lib.hid rfl) (Lib.hid rfl) hrc
    · exact walk_A2 kind unit block many op who key new ty a1 st A m c ds w w4 HX HY hbi (Lib.hid hok) (Lib.hid hk) many.toNat _ _ (Lib.hid fun _ => hM) (Lib.hid fun h => absurd hok h) (Lib.hid rfl) (Lib.hid rfl) hrc
  · by_cases hg : goodC kind unit block many m op who key new ty st
    · by_cases hr : 2 ≤ unit ∨ ((kind = 1 ∨ kind = 2) ∧ (many < 1 ∨ 16 < block + many))
      · exact walk_B1 kind unit block many op who key new ty a1 st A m c ds w w4 HX HY hbi (Lib.hid hok) 1 rfl 0 _ _ (Lib.hid fun h => absurd h hok) (Lib.hid fun _ => rfl) (Lib.hid rfl) (Lib.hid rfl) (fun v hv => refcheck_range kind unit block many op who key new ty st (w4.below hv) hv.size (by omega) HX.out HY.out hg hr)
      · have hk : ¬ (kind = 1 ∨ kind = 2) := fun hk => hok ⟨hg, hk, by omega, by omega, by omega⟩
        exact walk_B2 kind unit block many op who key new ty a1 st A m c ds w w4 HX HY hbi (Lib.hid hok) (by simp; omega) (by simp; omega) 0 _ _ (Lib.hid fun h => absurd h hok) (Lib.hid fun _ => rfl) (Lib.hid rfl) (Lib.hid rfl) (fun v hv => refcheck_ok kind unit block many op who key new ty st (w4.below hv) hv.size (by omega) HX.out HY.out hg hr)
    · exact walk_B1 kind unit block many op who key new ty a1 st A m c ds w w4 HX HY hbi (Lib.hid hok) 11 rfl 0 _ _ (Lib.hid fun h => absurd h hok) (Lib.hid fun _ => rfl) (Lib.hid rfl) (Lib.hid rfl) (fun v hv => refcheck_no kind unit block many op who key new ty st (w4.below hv) hv.size (by omega) HX.out HY.out hg)
end Go.Proofs.Ytjjpifppdjpcnaa.cdbBlocks

