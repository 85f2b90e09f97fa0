/-
  DigestPieces: a padded text's pieces are its bytes, in order, as many as are asked for.
-/
import Derived.Test.YtbphoilfiahnpaaOfUse
import Derived.Test.YtbphoilfiahnpaaRefPad
import Derived.Test.YtbphoilfiahnpaaNum
import Derived.Test.YtbphoilfiahnpaaByt2
namespace Go.Proofs.Ytbphoilfiahnpaa.digestPieces
open Go.RowKit Go.Shelf
set_option linter.unusedVariables false
set_option maxRecDepth 100000
attribute [local go_sem] Oper.semAt_some

theorem results_cell_bool {P : Program} {w : World} {fn : Func} {p : Tmp} {ty : TypeId} (hr : fn.results = #[.cell p ty]) (tmps : Array Value) (g : Nat) (tb : TypeId) (b : Bool) (ht : P.underlying ty = some .bool)
    (hp : tmps.getD p undef = .pointer (some ⟨g, 0, none⟩)) (hb : Blk w g tb #[.bool b]) : (results fn tmps).run P w = .ok (.bool b) w := by
  have hp' : tmps[p]?.getD undef = .pointer (some ⟨g, 0, none⟩) := by simpa using hp
  have hc : w.cell? ⟨g, 0, none⟩ = some (.bool b) := by rw [hb.cell]; rfl
  simp [results, hr, hp', asAddr, loadVar, isAgg, run_underlying ht, hc]

theorem big_walk (A0 : Option Addr) (n0 c0 : Nat) (a1 : Int) (w : World) (h0 : n0 ≤ 140737488351232) (hbig : ¬ n0 ≤ 16384) :
    Calls Try.prog 10 #[.slice A0 n0 c0, .int .i64 a1] w fun e w' => e = .returned (.bool true) ∧ Below w.heap.size w w' := by
  have hni : (16384 : Int) < (n0 : Int) := by omega
  have hi0 := nil0
  have k4 := Blk.new (w.alloc (.cells #[.int .i64 a1] 3)) 4 #[.bool false]
  rw [World.size_alloc] at k4
  have hb4 : Below w.heap.size w ((w.alloc (.cells #[.int .i64 a1] 3)).alloc (.cells #[.bool false] 4)) := ((Below.refl _ _).alloc (Nat.le_refl _) _).alloc (by simp) _
  go_enter Try.func10, Try.ntmps10
  go_wp2_with (go_at_call 33; refine (of_nil _).mono ?_; rintro e v1 ⟨rfl, hb1⟩; have j4 := k4.below hb1 k4.lt; have e4 : v1.cell? ⟨w.heap.size + 1, 0, none⟩ = some (.bool false) := (by rw [j4.cell]; rfl); have f4 : v1.frozen? ⟨w.heap.size + 1, 0, none⟩ = false := j4.frozen 0)
  refine bodyPost_ret (results_cell_bool rfl _ (w.heap.size + 1) 4 true Try.underlying4 rfl (by simpa using j4.set_ 0 (.bool true))) rfl ⟨rfl, ?_⟩
  exact (hb4.trans (hb1.mono hb4.size)).setCell (by simp) _

/-- What stands while the loop runs: k pieces have come. -/
structure St (w : World) (g3 g4 gc ga g6 gn M L c6 : Nat) (curc cur6 : Array Value) (O : Nat → Prop) (k : Nat) (W : World) : Prop where
  own : O gn
  n3 : ¬ O g3
  n4 : ¬ O g4
  nc : ¬ O gc
  na : ¬ O ga
  n6 : ¬ O g6
  b3 : Blk W g3 3 #[.int .i64 (M : Int)]
  b4 : Blk W g4 4 #[.bool false]
  bc : Blk W gc 5 curc
  ba : Blk W ga 31 #[.slice (some ⟨g6, 0, none⟩) L c6]
  b6 : Blk W g6 5 cur6
  bn : Blk W gn 3 #[.int .i64 (k : Int)]
  below : Below w.heap.size w W
section
variable {w : World} {g3 g4 gc ga g6 gn M L c6 : Nat} {curc cur6 : Array Value} {O : Nat → Prop} {k : Nat} {W W' : World}
theorem St.calm {B : Nat} (h : St w g3 g4 gc ga g6 gn M L c6 curc cur6 O k W) (hc : Calm B W W') (hB : w.heap.size ≤ B) : St w g3 g4 gc ga g6 gn M L c6 curc cur6 O k W' :=
  ⟨h.own, h.n3, h.n4, h.nc, h.na, h.n6, hc.blk h.b3, hc.blk h.b4, hc.blk h.bc, hc.blk h.ba, hc.blk h.b6, hc.blk h.bn, hc.below h.below hB (Nat.le_refl _)⟩
theorem St.on (h : St w g3 g4 gc ga g6 gn M L c6 curc cur6 O k W) (hb : Below W.heap.size W W') : St w g3 g4 gc ga g6 gn M L c6 curc cur6 O k W' :=
  ⟨h.own, h.n3, h.n4, h.nc, h.na, h.n6, h.b3.below hb h.b3.lt, h.b4.below hb h.b4.lt, h.bc.below hb h.bc.lt, h.ba.below hb h.ba.lt, h.b6.below hb h.b6.lt, h.bn.below hb h.bn.lt, h.below.trans (hb.mono h.below.size)⟩
theorem St.step (h : St w g3 g4 gc ga g6 gn M L c6 curc cur6 O k W) (hw : w.heap.size ≤ gn) : St w g3 g4 gc ga g6 gn M L c6 curc cur6 O (k + 1) (W.setCell ⟨gn, 0, none⟩ (.int .i64 ((k : Int) + 1))) := by
  have ne : ∀ {g : Nat}, ¬ O g → g ≠ gn := fun hg e => hg (e ▸ h.own)
  refine ⟨h.own, h.n3, h.n4, h.nc, h.na, h.n6, h.b3.far (ne h.n3) _, h.b4.far (ne h.n4) _, h.bc.far (ne h.nc) _, h.ba.far (ne h.na) _, h.b6.far (ne h.n6) _, ?_, h.below.setCell hw _⟩
  have := h.bn.set_ 0 (.int .i64 ((k : Int) + 1))
  simpa using this
end

set_option maxHeartbeats 4000000 in
theorem walk (A0 : Option Addr) (n0 c0 : Nat) (bs0 : List UInt8) (a1 : Int) (w : World) (w0 : SlB w w.heap.size A0 n0 c0 bs0) (y0 : c0 ≤ 140737488351232) (w1 : (Lit.int .i64 a1).wf = true) :
    Calls Try.prog 10 #[.slice A0 n0 c0, .int .i64 a1] w fun e w' => e = .returned (.bool true) ∧ Below w.heap.size w w' := by
  by_cases hbig : n0 ≤ 16384
  rotate_left
  · exact big_walk A0 n0 c0 a1 w (by have := w0.le; omega) hbig
  have hni : ¬ (16384 : Int) < (n0 : Int) := by omega
  have hni2 : (n0 : Int) ≤ 16384 := by omega
  have hdec : decide ((16384 : Int) < (n0 : Int)) = false := decide_eq_false hni
  have hi0 := nil0
  have W0 := Lib.hid w0
  have hl3 := w0.len
  have HL := Lib.hid hl3
  clear w0 y0
  refine calls_of_wp_marks Try.func10 rfl ?_
  simp only [Try.ntmps10, List.size_toArray, List.length_cons, List.length_nil, Nat.reduceAdd, Nat.reduceSub, Array.replicate_succ, Array.replicate_zero, List.push_toArray, List.append_toArray, List.nil_append, List.cons_append]
  have k3 := (Blk.new w 3 #[.int .i64 a1]).alloc (.cells #[.bool false] 4)
  have k4 := Blk.new (w.alloc (.cells #[.int .i64 a1] 3)) 4 #[.bool false]
  rw [World.size_alloc] at k4
  have hb4 : Below w.heap.size w ((w.alloc (.cells #[.int .i64 a1] 3)).alloc (.cells #[.bool false] 4)) := ((Below.refl _ _).alloc (Nat.le_refl _) _).alloc (by simp) _
  have hm0 := wrap_u64_nonneg a1
  obtain ⟨u, hu⟩ : ∃ u : Nat, IntKind.u64.wrap a1 = (u : Int) := ⟨(IntKind.u64.wrap a1).toNat, by rw [Int.toNat_of_nonneg hm0]⟩
  obtain ⟨kk, hkk⟩ : ∃ kk : Nat, kk = u % 40 := ⟨_, rfl⟩
  obtain ⟨M, hM⟩ : ∃ M : Nat, M = 1 + kk := ⟨_, rfl⟩
  have hM1 : 1 ≤ M := by omega
  have hM40 : M ≤ 40 := by omega
  have htm : ((u : Int)).tmod 40 = (kk : Int) := by rw [Int.tmod_eq_emod_of_nonneg (by omega)]; omega
  have hmd : (u : Int) % 40 = (kk : Int) := by omega
  have hMi : 1 + (kk : Int) = (M : Int) := by omega
  have hu40 : (kk : Int) < 40 := by omega
  have hu00 : (0 : Int) ≤ (kk : Int) := by omega
  clear hkk
  clear hM hm0
  go_wp2_with (first
    | (go_at_call 33; (with_reducible refine (of_nil _).mono ?_); rintro e v1 ⟨rfl, hb1⟩; have j3 := k3.below hb1 k3.lt; have j4 := k4.below hb1 k4.lt; have e3 : v1.cell? ⟨w.heap.size, 0, none⟩ = some (.int .i64 a1) := (by rw [j3.cell]; rfl); have f3 : v1.frozen? ⟨w.heap.size, 0, none⟩ = false := j3.frozen 0))
  obtain ⟨v2, hv2⟩ : ∃ v2, v2 = v1.setCell ⟨w.heap.size, 0, none⟩ (.int .i64 (M : Int)) := ⟨_, rfl⟩
  rw [← hv2]
  have hb2 : Below w.heap.size w v2 := by rw [hv2]; exact (hb4.trans (hb1.mono hb4.size)).setCell (by simp) _
  have i3 : Blk v2 w.heap.size 3 #[.int .i64 (M : Int)] := by rw [hv2]; exact j3.set_ 0 _
  have i4 : Blk v2 (w.heap.size + 1) 4 #[.bool false] := by rw [hv2]; exact j4.far (by simp) _
  have hz2 := hb2.size
  have hl2 := i4.lt
  clear hv2 j3 j4 e3 f3 hb1 k3 k4 hb4
  refine (copy_c (W0.out.below hb2) hz2 (by omega)).mono ?_
  rintro e v3 ⟨rfl, hm, hb3⟩
  have hm1 : SlB v3 v3.heap.size (some ⟨v2.heap.size, 0, none⟩) n0 (n0 + 2) bs0 := by
    have := hm.sl.trim (k := n0) (by omega)
    rwa [List.take_left' HL.out] at this
  have hbw3 : Below w.heap.size w v3 := hb2.trans (hb3.mono hz2)
  have hz3 := hbw3.size
  have h3 := i3.below hb3 i3.lt
  have h4 := i4.below hb3 i4.lt
  have h10 : OwB (v3.alloc (.cells #[] 5)) v3.heap.size (some ⟨v3.heap.size, 0, none⟩) 0 0 [] := OwB.nil _ _ _
  have h11 := (W0.out.below hbw3).alloc hz3 (.cells #[] 5)
  have HWF := Lib.hid (wf_i64' (n := (n0 : Int)) (by omega) (by omega))
  have HPN := Lib.hid (padN_nat n0 (by omega))
  have hLN : n0 + (9 + padZ n0) = 64 * pieceN n0 := by
    have h : padZ n0 = (119 - n0 % 64) % 64 := rfl
    rw [pieceN]; omega
  have hpz : padZ n0 < 64 := padZ_lt n0
  go_wp2_with (first
    | (at_builtin; refine wpList_append8 rfl (.tmp 22) (.tmp 23) rfl rfl h10 rfl h11 (by omega) (by simp) n0 (by omega) ?_; intro A4 c4 v4 p4 q4; have hb4 : Below v3.heap.size v3 v4 := q4.below h10 ((Below.refl _ _).alloc (Nat.le_refl _) _) (Nat.le_refl _) (by simp))
    | (go_at_call 27; refine (refpad_c (n0 : Int) HWF.out v4).mono ?_; rintro e v5 ⟨A5, c5, rfl, p5, hb5⟩; rw [HPN.out] at p5 ⊢)
    | (at_builtin; refine wpList_append8 rfl (.tmp 24) (.tmp 27) rfl rfl (p4.below hb5) rfl p5.sl (by omega) (Nat.le_trans hb4.size hb5.size) (64 * pieceN n0) hLN ?_; intro A6 c6 v6 p6 q6; have hb6 : Below v3.heap.size v3 v6 := q6.below (p4.below hb5) (hb4.trans (hb5.mono hb4.size)) (Nat.le_refl _) (Nat.le_trans hb4.size hb5.size)))
  have hz6 := hb6.size
  have hbw6 : Below w.heap.size w v6 := hbw3.trans (hb6.mono hz3)
  have hpad : [] ++ bs0 ++ padB n0 = padded bs0 := by rw [List.nil_append, padded, HL.out]
  rw [hpad] at p6
  obtain ⟨N, hN⟩ : ∃ N, N = pieceN n0 := ⟨_, rfl⟩
  obtain ⟨L, hL⟩ : ∃ L, L = 64 * N := ⟨_, rfl⟩
  rw [← hN, ← hL] at p6 ⊢
  have hLb : L ≤ 20000 := by omega
  have hL1 : 64 ≤ L := by omega
  obtain ⟨g6, cur6, rfl, hg6, hbk6, hsz6, htk6⟩ := p6.open_ (by have := p6.le; omega)
  have hc6 := p6.cap
  have hlc6 := p6.le
  obtain ⟨gc', curc, ec, hgc, hbkc, hszc, htkc⟩ := hm.open_ (by omega)
  cases ec
  obtain ⟨gc, hgcv⟩ : ∃ gc, gc = v2.heap.size := ⟨_, rfl⟩
  rw [← hgcv] at hbkc hm1 ⊢
  have hgcl := hbkc.lt
  have hbkc6 := hbkc.below hb6 hgcl
  have h36 := h3.below hb6 h3.lt
  have h46 := h4.below hb6 h4.lt
  have hm6 := hm1.below hb6
  obtain ⟨ga, hga⟩ : ∃ ga, ga = v6.heap.size := ⟨_, rfl⟩
  have hba := (Blk.new v6 31 #[.slice (some ⟨g6, 0, none⟩) L c6]).alloc (.cells #[.int .i64 0] 3)
  have hbn := Blk.new (v6.alloc (.cells #[.slice (some ⟨g6, 0, none⟩) L c6] 31)) 3 #[.int .i64 0]
  rw [World.size_alloc] at hbn
  have st0 : ∀ (O : Nat → Prop) (own : O (ga + 1)) (no : ∀ k, k ≤ ga → ¬ O k), St w w.heap.size (w.heap.size + 1) gc ga g6 (ga + 1) M L c6 curc cur6 O 0 ((v6.alloc (.cells #[.slice (some ⟨g6, 0, none⟩) L c6] 31)).alloc (.cells #[.int .i64 0] 3)) := fun O own no => by
    have e3 := h3.lt
    have e4 := h4.lt
    have e6 := hbk6.lt
    rw [hga] at own no ⊢
    exact ⟨own, no _ (by omega), no _ (by omega), no _ (by omega), no _ (by omega), no _ (by omega), (h36.alloc _).alloc _, (h46.alloc _).alloc _, (hbkc6.alloc _).alloc _, hba, (hbk6.alloc _).alloc _, hbn, (hbw6.alloc hbw6.size _).alloc (Nat.le_trans hbw6.size (by simp)) _⟩
  have hm7 := (hm6.alloc hz6 (.cells #[.slice (some ⟨g6, 0, none⟩) L c6] 31)).alloc (by simp; omega) (.cells #[.int .i64 0] 3)
  obtain ⟨v7, hv7⟩ : ∃ v7, v7 = (v6.alloc (.cells #[.slice (some ⟨g6, 0, none⟩) L c6] 31)).alloc (.cells #[.int .i64 0] 3) := ⟨_, rfl⟩
  rw [← hga]
  rw [← hv7] at st0 hm7 ⊢
  have hz7 := (st0 (fun k => k = ga + 1) rfl (fun k hk e => by omega)).below.size
  have hgn7 := (st0 (fun k => k = ga + 1) rfl (fun k hk e => by omega)).bn.lt
  have hz37 : v3.heap.size ≤ v7.heap.size := by rw [hv7]; simp; omega
  have hgw : w.heap.size ≤ ga + 1 := by omega
  have HN := Lib.hid hN
  have HLL := Lib.hid hL
  clear hgcv hga hN hL hpad hLN htm hmd hMi hu40 hu00 hu
  clear hv7 hba hbn hm6 h36 h46 hbkc6 hbk6 p6 h3 h4 h10 h11 p4 q4 p5 q6 hb4 hb5 hb6 hm hbkc hm1 i3 i4 hb2 hb3 hbw3 hbw6
  go_wp2_with (go_at_call 36; refine (pieces_c _ _ _ _).mono ?_; rintro e v8 ⟨rfl, hv8⟩)
  have hp8 : Blk v8 v7.heap.size 31 #[.slice (some ⟨gc, 0, none⟩) n0 (n0 + 2)] := by rw [← hv8]; exact Blk.new _ _ _
  have hb78 : Below v7.heap.size v7 v8 := by rw [← hv8]; exact (Below.refl _ _).alloc (Nat.le_refl _) _
  have h48 : SlB v8 v3.heap.size (some ⟨gc, 0, none⟩) n0 (n0 + 2) bs0 := by rw [← hv8]; exact hm7.alloc hz37 _
  have st8 := (st0 (fun k => k = ga + 1) rfl (fun k hk e => by omega)).on hb78
  have hz8 := st8.below.size
  have hgn8 := st8.bn.lt
  clear hv8 st0 hm7
  go_wp2_with fail
  refine wp_range (O := fun k => k = ga + 1) (a := _) rfl (enters_of Try.func60 (by kernel_rfl) rfl) (pieces_iter hp8 h48 (Nat.le_trans hz37 hb78.size) (by omega)) (Below.refl _ _) (fun _ => rfl) (fun k hk => ⟨trivial, by rw [hk]; exact hgn8⟩)
    (fun O' pre W' => St w w.heap.size (w.heap.size + 1) gc ga g6 (ga + 1) M L c6 curc cur6 O' pre.length W' ∧ pre.length < M)
    (fun c pre W' => c = .exit 0 ∧ (∃ O', St w w.heap.size (w.heap.size + 1) gc ga g6 (ga + 1) M L c6 curc cur6 O' pre.length W') ∧ pre.length = M) (fun O' => ownFrom_of fun s X X' hs hc => ⟨hs.1.calm hc hz8, hs.2⟩) (fun c => ownFrom_of fun s X X' hs hc => ⟨hs.1, by obtain ⟨O', h⟩ := hs.2.1; exact ⟨O', h.calm hc hz8⟩, hs.2.2⟩) ⟨st8, hM1⟩
    (fun O' pre x a' W' => (St w w.heap.size (w.heap.size + 1) gc ga g6 (ga + 1) M L c6 curc cur6 O' pre.length W' ∧ pre.length < M) ∧ x = pre.length ∧ x < N ∧
      ∃ gp, Blk W' gp 34 (arr8 (pieceAt bs0 x)) ∧ a' = { tmps := #[Value.slice A0 n0 c0, Value.int IntKind.i64 a1, undef, Value.pointer (some ⟨w.heap.size, 0, none⟩), Value.pointer (some ⟨w.heap.size + 1, 0, none⟩), Value.slice (some ⟨gc, 0, none⟩) n0 (n0 + 2), Value.pointer (some ⟨ga, 0, none⟩), Value.pointer (some ⟨ga + 1, 0, none⟩), Value.pointer (some ⟨gp, 0, none⟩), Value.agg (arr8 (sha [])), Value.int IntKind.u8 227, Value.bool false, Value.slice A0 n0 c0, Value.int IntKind.i64 (n0 : Int), Value.bool false, Value.int IntKind.i64 a1, Value.int IntKind.u64 (u : Int), Value.int IntKind.u64 (kk : Int), Value.int IntKind.i64 (kk : Int), Value.int IntKind.i64 (M : Int), Value.slice A0 n0 c0, Value.slice (some ⟨gc, 0, none⟩) n0 (n0 + 2), Value.slice (some ⟨v3.heap.size, 0, none⟩) 0 0, Value.slice A0 n0 c0, Value.slice A4 n0 c4, Value.slice A0 n0 c0, Value.int IntKind.i64 (n0 : Int), Value.slice A5 (9 + padZ n0) c5, Value.slice (some ⟨g6, 0, none⟩) L c6, Value.slice (some ⟨gc, 0, none⟩) n0 (n0 + 2), .func (.func 60) #[] #[.pointer (some ⟨v7.heap.size, 0, none⟩)], Value.agg (arr8 (pieceAt bs0 x)), undef, undef, undef, undef, undef, undef, undef, undef, undef, undef, undef, undef, undef, undef, undef, undef, undef, undef, undef, undef, undef, undef, undef, undef, undef, undef, undef, undef, undef, undef, undef, undef, undef, undef, undef, undef], defers := [] })
    (fun O' pre x a' => ownFrom_of fun s X X' hs hc => ⟨⟨hs.1.1.calm hc hz8, hs.1.2⟩, hs.2.1, hs.2.2.1, by obtain ⟨gp, h2, h3⟩ := hs.2.2.2; exact ⟨gp, hc.blk h2, h3⟩⟩) ?_ ?_ ?_ ?_
  · rintro l' O' pre x W' K ⟨st, hlt⟩ ⟨hx1, hx2⟩ hK
    have hl64 : (pieceAt bs0 x).length = 64 := len_pieceAt _ _ (by rw [hl3]; exact hx2)
    have HX1 := Lib.hid hx1
    clear hx1
    refine wpIn_region_of (free_rd l') rfl (fun ⟨_, _, h⟩ => h) ?_
    simp only [fold_one, List.setIfInBounds_toArray, List.set_cons_succ, List.set_cons_zero]
    refine wpList_alloc_agg rfl 34 rfl (arr8 (z8' 64)) zeroP34 ?_
    refine wpList_store8 rfl 34 (.tmp 8) (.tmp 31) rfl W'.heap.size rfl (pieceAt bs0 x) rfl aggP64 hl64 _ _ (Blk.new _ _ _) (by rw [size_arr8, len_z8']) ?_
    intro W5 hb5 hg5 hs5
    have hbb : Below W'.heap.size W' W5 := ((Below.refl _ _).alloc (Nat.le_refl _) _).grown hg5 (by simp) (fun k hk => by cases hk; exact Nat.le_refl _)
    refine hK O' _ _ (Kept.below hbb) ⟨⟨st.on hbb, hlt⟩, HX1.out, by rw [HN.out]; exact hx2, W'.heap.size, hb5, ?_⟩
    rfl
  · rintro l' O' pre x a' W' ⟨⟨st, hlt⟩, hx1, hx2, gp, hbp, rfl⟩
    have hcell : ∀ j v, (arr8 (pieceAt bs0 x))[j]? = some v → W'.cell? ⟨g6, 64 * x + j, none⟩ = some v := fun j v hv => by
      rw [st.b6.cell]; exact piece_cell (n := n0) (by rw [← HN.out, ← HLL.out]; exact htk6) HL.out (by rw [← HN.out]; exact hx2) hv
    have hl64 : (pieceAt bs0 x).length = 64 := len_pieceAt _ _ (by rw [HL.out, ← HN.out]; exact hx2)
    have s8 : SlB W' W'.heap.size (some ⟨gp, 0, none⟩) 64 64 (pieceAt bs0 x) := by
      have := SlB.ofBlk hbp (lo := 0) (hi := 64) (c := 64) (B := W'.heap.size) (by omega) (Nat.le_of_eq hl64.symm) (by omega) (by simp [maxLen]) hbp.lt
      rwa [List.drop_zero, List.take_of_length_le (Nat.le_of_eq hl64)] at this
    have s6 : SlB W' W'.heap.size (some ⟨g6, 0, none⟩) L c6 (padded bs0) := (OwB.shut (base := g6) st.b6 (Nat.le_refl _) hsz6 hlc6 (by simp [maxLen]; omega) htk6 (by rw [padded_len, HL.out, ← HN.out, HLL.out])).sl
    obtain ⟨i, hi⟩ : ∃ i, i = 64 * x := ⟨_, rfl⟩
    have hi64 : i + 64 ≤ L := by rw [HLL.out]; omega
    obtain ⟨A9, s9, hcut⟩ := s6.cutRun (lo := i) (hi := i + 64) (by omega) hi64 (64 * (x : Int)) (64 * (x : Int) + 64) (by omega) (by omega)
    rw [Nat.add_sub_cancel_left] at s9 hcut
    have hpce : ((padded bs0).drop i).take 64 = pieceAt bs0 x := by rw [pieceAt, hi]
    rw [hpce] at s9
    have q8 := fun k => (SlB.drewN s8 k).str
    have q9 := fun k => (SlB.drewN s9 k).str
    obtain ⟨S, hS⟩ : ∃ S : ByteArray, S = ⟨(pieceAt bs0 x).toArray⟩ := ⟨_, rfl⟩
    rw [← hS] at q8 q9
    have hall := arr_all_run (P := Try.prog) (T := 34) Try.underlying34 size1 (by omega) gp
    have e3 : W'.cell? ⟨w.heap.size, 0, none⟩ = some (.int .i64 (M : Int)) := by rw [st.b3.cell]; rfl
    have en : W'.cell? ⟨ga + 1, 0, none⟩ = some (.int .i64 (x : Int)) := by rw [st.bn.cell, hx1]; rfl
    have ea : W'.cell? ⟨ga, 0, none⟩ = some (.slice (some ⟨g6, 0, none⟩) L c6) := by rw [st.ba.cell]; rfl
    have hgt : ¬ ((L : Int) < 64 * (x : Int) + 64) := by omega
    have hgd : decide ((L : Int) < 64 * (x : Int) + 64) = false := decide_eq_false hgt
    have hx0 : (0 : Int) ≤ (x : Int) := by omega
    have hxb : (x : Int) ≤ 1000 := by omega
    have HX1 := Lib.hid hx1
    have HX2 := Lib.hid hx2
    have HI := Lib.hid hi
    have HST := Lib.hid st
    clear hS hpce hi s9 s6 s8 hcell hx1 hx2 st
    gi_wp2
    refine wpIn_region_quiet_of (free_rd l') rfl (fun ⟨_, _, h⟩ => h) (by kernel_rfl) (by kernel_rfl) ?_
    repeat (go_big_quiet_step (fail))
    refine wpQuiet_nil ?_
    rintro _ ⟨q, rfl⟩
    obtain ⟨V, hV⟩ : ∃ V, V = W'.drewN q := ⟨_, rfl⟩
    rw [← hV]
    have hkV : Kept O' O' W' V := by rw [hV]; exact Kept.drewN q
    have stV : St w w.heap.size (w.heap.size + 1) gc ga g6 (ga + 1) M L c6 curc cur6 O' pre.length V := by
      have h := HST.out
      rw [hV]
      exact ⟨h.own, h.n3, h.n4, h.nc, h.na, h.n6, h.b3, h.b4, h.bc, h.ba, h.b6, h.bn, below_drewN h.below q⟩
    have hne : w.heap.size ≠ ga + 1 := fun e => stV.n3 (e ▸ stV.own)
    have d3 : V.cell? ⟨w.heap.size, 0, none⟩ = some (.int .i64 (M : Int)) := by rw [stV.b3.cell]; rfl
    have dn : V.cell? ⟨ga + 1, 0, none⟩ = some (.int .i64 (x : Int)) := by rw [stV.bn.cell, HX1.out]; rfl
    have dn2 : (V.setCell ⟨ga + 1, 0, none⟩ (.int .i64 ((x : Int) + 1))).cell? ⟨w.heap.size, 0, none⟩ = some (.int .i64 (M : Int)) := by rw [(stV.b3.far hne _).cell]; rfl
    have fn : V.frozen? ⟨ga + 1, 0, none⟩ = false := stV.bn.frozen 0
    have hst2 : St w w.heap.size (w.heap.size + 1) gc ga g6 (ga + 1) M L c6 curc cur6 O' (pre ++ [x]).length (V.setCell ⟨ga + 1, 0, none⟩ (.int .i64 ((x : Int) + 1))) := by
      have h := stV.step hgw
      rw [List.length_append, List.length_cons, List.length_nil]
      rw [← HX1.out] at h ⊢
      exact h
    have hk2 : Kept O' O' W' (V.setCell ⟨ga + 1, 0, none⟩ (.int .i64 ((x : Int) + 1))) := hkV.trans (Kept.setCell stV.own 0 _)
    have hpl : (pre ++ [x]).length = x + 1 := by rw [List.length_append, List.length_cons, List.length_nil, HX1.out]
    have hxM : x < M := by rw [HX1.out]; exact hlt
    have HS2 := Lib.hid hst2
    have HPL := Lib.hid hpl
    have HK2 := Lib.hid hk2
    clear e3 en ea q8 q9 hall hcut hV stV hkV hst2 hk2 hpl
    by_cases heq : x + 1 = M
    · have hei : (x : Int) + 1 = (M : Int) := by omega
      gi_wp2
      have hK3 := HK2.out
      have hS3 := HS2.out
      rw [hei] at hK3 hS3
      exact ⟨hK3.from_ _, rfl, ⟨O', hS3⟩, by rw [HPL.out]; exact heq⟩
    · have hei : ¬ (x : Int) + 1 = (M : Int) := by omega
      gi_wp2
      exact ⟨O', HK2.out, HS2.out, by rw [HPL.out]; omega⟩
  · rintro D O' xs W' hD rfl ⟨st, hlt⟩ hK
    have hcnt : (upTo (pieceN n0)).length = N := by rw [len_upTo, HN.out]
    rw [hcnt] at st hlt
    have hNM : N < M := hlt
    have hNMi : (N : Int) < (M : Int) := by omega
    clear hcnt
    have e3 : W'.cell? ⟨w.heap.size, 0, none⟩ = some (.int .i64 (M : Int)) := by rw [st.b3.cell]; rfl
    have en : W'.cell? ⟨ga + 1, 0, none⟩ = some (.int .i64 (N : Int)) := by rw [st.bn.cell]; rfl
    have ea : W'.cell? ⟨ga, 0, none⟩ = some (.slice (some ⟨g6, 0, none⟩) L c6) := by rw [st.ba.cell]; rfl
    have e4 : W'.cell? ⟨w.heap.size + 1, 0, none⟩ = some (.bool false) := by rw [st.b4.cell]; rfl
    have f4 : W'.frozen? ⟨w.heap.size + 1, 0, none⟩ = false := st.b4.frozen 0
    have hmk : SlB W' W'.heap.size (some ⟨gc, 0, none⟩) (n0 + 2) (n0 + 2) (bs0 ++ [0xa5, 0x5a]) := (OwB.shut (base := gc) st.bc (Nat.le_refl _) hszc (Nat.le_refl _) (by simp [maxLen]; omega) htkc (by simp [HL.out])).sl
    have hsl := W0.out.below st.below
    have hld : ((L : Int)).tdiv 64 = (N : Int) := by rw [Int.tdiv_eq_ediv_of_nonneg (by omega), HLL.out]; omega
    have hle : (L : Int) / 64 = (N : Int) := by rw [HLL.out]; omega
    have hbb := Lib.hid st.below
    have hb4 := Lib.hid st.b4
    have hDn : D ≠ w.heap.size + 1 := fun e => by have := st.b4; rw [← e, Blk, hK] at this; cases this
    have hKK := Lib.hid hK
    clear st hK
    go_wp2_with (go_at_call 35; refine (kept_c hmk hsl (by omega)).mono ?_; rintro e v9 ⟨rfl, rfl⟩)
    have hb4' : Blk (W'.setCell ⟨w.heap.size + 1, 0, none⟩ (.bool true)) (w.heap.size + 1) 4 #[.bool true] := by simpa using hb4.out.set_ 0 (.bool true)
    have hD' : (W'.setCell ⟨w.heap.size + 1, 0, none⟩ (.bool true)).heap[D]? = some (.deferred (some [])) := (Below.heap_setCell _ _ _ _ hDn).trans hKK.out
    refine ⟨by simp, .inl ⟨_, _, rfl, run_takeDeferred hD', ?_⟩⟩
    refine ⟨_, results_cell_bool rfl _ (w.heap.size + 1) 4 true Try.underlying4 rfl ((World.putObj_heap_other (Ne.symm hDn)).trans hb4'), rfl, ?_⟩
    exact (calm_putObj (B := w.heap.size) _ (Nat.le_trans hz8 hD) hD' rfl).below (hbb.out.setCell (by simp) _) (Nat.le_refl _) (Nat.le_refl _)
  · rintro D c pre W' hD ⟨k, hk, rfl⟩ ⟨rfl, ⟨O', st⟩, hpl⟩ hK
    rw [len_upTo] at st hpl
    have hNM : ¬ N < M := by rw [HN.out]; omega
    have hNMi : ¬ (N : Int) < (M : Int) := by omega
    rw [hpl] at st
    clear hk hpl
    have e3 : W'.cell? ⟨w.heap.size, 0, none⟩ = some (.int .i64 (M : Int)) := by rw [st.b3.cell]; rfl
    have en : W'.cell? ⟨ga + 1, 0, none⟩ = some (.int .i64 (M : Int)) := by rw [st.bn.cell]; rfl
    have ea : W'.cell? ⟨ga, 0, none⟩ = some (.slice (some ⟨g6, 0, none⟩) L c6) := by rw [st.ba.cell]; rfl
    have e4 : W'.cell? ⟨w.heap.size + 1, 0, none⟩ = some (.bool false) := by rw [st.b4.cell]; rfl
    have f4 : W'.frozen? ⟨w.heap.size + 1, 0, none⟩ = false := st.b4.frozen 0
    have hmk : SlB W' W'.heap.size (some ⟨gc, 0, none⟩) (n0 + 2) (n0 + 2) (bs0 ++ [0xa5, 0x5a]) := (OwB.shut (base := gc) st.bc (Nat.le_refl _) hszc (Nat.le_refl _) (by simp [maxLen]; omega) htkc (by simp [HL.out])).sl
    have hsl := W0.out.below st.below
    have hld : ((L : Int)).tdiv 64 = (N : Int) := by rw [Int.tdiv_eq_ediv_of_nonneg (by omega), HLL.out]; omega
    have hle : (L : Int) / 64 = (N : Int) := by rw [HLL.out]; omega
    have hbb := Lib.hid st.below
    have hb4 := Lib.hid st.b4
    have hDn : D ≠ w.heap.size + 1 := fun e => by have := st.b4; rw [← e, Blk, hK] at this; cases this
    have hKK := Lib.hid hK
    clear st hK
    go_wp2_with (go_at_call 35; refine (kept_c hmk hsl (by omega)).mono ?_; rintro e v9 ⟨rfl, rfl⟩)
    have hb4' : Blk (W'.setCell ⟨w.heap.size + 1, 0, none⟩ (.bool true)) (w.heap.size + 1) 4 #[.bool true] := by simpa using hb4.out.set_ 0 (.bool true)
    have hD' : (W'.setCell ⟨w.heap.size + 1, 0, none⟩ (.bool true)).heap[D]? = some (.deferred (some [])) := (Below.heap_setCell _ _ _ _ hDn).trans hKK.out
    refine ⟨by simp, .inl ⟨_, _, rfl, run_takeDeferred hD', ?_⟩⟩
    refine ⟨_, results_cell_bool rfl _ (w.heap.size + 1) 4 true Try.underlying4 rfl ((World.putObj_heap_other (Ne.symm hDn)).trans hb4'), rfl, ?_⟩
    exact (calm_putObj (B := w.heap.size) _ (Nat.le_trans hz8 hD) hD' rfl).below (hbb.out.setCell (by simp) _) (Nat.le_refl _) (Nat.le_refl _)
end Go.Proofs.Ytbphoilfiahnpaa.digestPieces
