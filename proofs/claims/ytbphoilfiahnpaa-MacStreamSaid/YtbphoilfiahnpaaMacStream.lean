/-
  MacStream: which blocks a stream of keys has.
-/
import Derived.Test.YtbphoilfiahnpaaRefBlock
namespace Go.Proofs.Ytbphoilfiahnpaa.macStream
open Go.RowKit Go.Shelf
set_option linter.unusedVariables false
set_option linter.unusedSimpArgs false
set_option maxRecDepth 100000

attribute [local go_sem] Oper.semAt_some
theorem wrap_u64_nn (x : Int) : 0 ≤ IntKind.u64.wrap x := by rw [wrap_u64]; omega

theorem res_bool {P : Program} {w : World} {fn : Func} {p : Tmp} {ty : TypeId} (hr : fn.results = #[.cell p ty]) (tmps : Array Value) (g : Nat) (tb : TypeId) (b : Bool) (ht : P.underlying ty = some .bool)
    (hp : tmps.getD p undef = .pointer (some ⟨g, 0, none⟩)) (hb : Blk w g tb #[.bool b]) : (results fn tmps).run P w = .ok (.bool b) w := by
  have hp' : tmps[p]?.getD undef = .pointer (some ⟨g, 0, none⟩) := by simpa using hp
  have hc : w.cell? ⟨g, 0, none⟩ = some (.bool b) := by rw [hb.cell]; rfl
  simp [results, hr, hp', asAddr, loadVar, isAgg, run_underlying ht, hc]

/-- What stands while the loop runs: k blocks have come. -/
structure St (w : World) (g0 g1 g2 g3 gk : Nat) (kv : Value) (s : ByteArray) (M : Nat) (O : Nat → Prop) (k : Nat) (W : World) : Prop where
  own : O gk
  n0 : ¬ O g0
  n1 : ¬ O g1
  n2 : ¬ O g2
  n3 : ¬ O g3
  b0 : Blk W g0 31 #[kv]
  b1 : Blk W g1 9 #[.string s]
  b2 : Blk W g2 3 #[.int .i64 (M : Int)]
  b3 : Blk W g3 4 #[.bool false]
  bk : Blk W gk 3 #[.int .i64 (k : Int)]
  below : Below w.heap.size w W
section
variable {w : World} {g0 g1 g2 g3 gk : Nat} {kv : Value} {s : ByteArray} {M : Nat} {O : Nat → Prop} {k : Nat} {W W' : World}
theorem St.calm {B : Nat} (h : St w g0 g1 g2 g3 gk kv s M O k W) (hc : Calm B W W') (hB : w.heap.size ≤ B) : St w g0 g1 g2 g3 gk kv s M O k W' :=
  ⟨h.own, h.n0, h.n1, h.n2, h.n3, hc.blk h.b0, hc.blk h.b1, hc.blk h.b2, hc.blk h.b3, hc.blk h.bk, hc.below h.below hB (Nat.le_refl _)⟩
theorem St.on (h : St w g0 g1 g2 g3 gk kv s M O k W) (hb : Below W.heap.size W W') : St w g0 g1 g2 g3 gk kv s M O k W' :=
  ⟨h.own, h.n0, h.n1, h.n2, h.n3, h.b0.below hb h.b0.lt, h.b1.below hb h.b1.lt, h.b2.below hb h.b2.lt, h.b3.below hb h.b3.lt, h.bk.below hb h.bk.lt, h.below.trans (hb.mono h.below.size)⟩
theorem St.step (h : St w g0 g1 g2 g3 gk kv s M O k W) (hw : w.heap.size ≤ gk) : St w g0 g1 g2 g3 gk kv s M O (k + 1) (W.setCell ⟨gk, 0, none⟩ (.int .i64 ((k : Int) + 1))) := by
  have ne : ∀ {g : Nat}, ¬ O g → g ≠ gk := fun hg e => hg (e ▸ h.own)
  refine ⟨h.own, h.n0, h.n1, h.n2, h.n3, h.b0.far (ne h.n0) _, h.b1.far (ne h.n1) _, h.b2.far (ne h.n2) _, h.b3.far (ne h.n3) _, ?_, h.below.setCell hw _⟩
  have := h.bk.set_ 0 (.int .i64 ((k : Int) + 1))
  simpa using this
end

set_option maxHeartbeats 4000000 in
theorem walk (A0 : Option Addr) (n0 c0 : Nat) (bs0 : List UInt8) (a1 : ByteArray) (a2 : Int) (w : World) (w0 : SlB w w.heap.size A0 n0 c0 bs0) (y0 : c0 ≤ 140737488351232) (y1 : a1.size ≤ 140737488351232) (w2 : (Lit.int .i64 a2).wf = true) :
    Calls Try.prog 17 #[.slice A0 n0 c0, .string a1, .int .i64 a2] w fun e w' => e = .returned (.bool true) ∧ Below w.heap.size w w' := by
  have hnb0 : n0 ≤ 140737488351232 := Nat.le_trans w0.le y0
  have hbd := i64_bd w2
  -- the four cells of one's own
  obtain ⟨g0, hg0⟩ : ∃ g, g = w.heap.size := ⟨_, rfl⟩
  obtain ⟨g1, hg1⟩ : ∃ g, g = w.heap.size + 1 := ⟨_, rfl⟩
  obtain ⟨g2, hg2⟩ : ∃ g, g = w.heap.size + 1 + 1 := ⟨_, rfl⟩
  obtain ⟨g3, hg3⟩ : ∃ g, g = w.heap.size + 1 + 1 + 1 := ⟨_, rfl⟩
  obtain ⟨v1, hv1⟩ : ∃ v1, v1 = (((w.alloc (.cells #[.slice A0 n0 c0] 31)).alloc (.cells #[.string a1] 9)).alloc (.cells #[.int .i64 a2] 3)).alloc (.cells #[.bool false] 4) := ⟨_, rfl⟩
  have k1 : Blk v1 g0 31 #[.slice A0 n0 c0] := by rw [hv1, hg0]; exact (((Blk.new _ _ _).alloc _).alloc _).alloc _
  have s1 : Blk v1 g1 9 #[.string a1] := by
    have := ((Blk.new (w.alloc (.cells #[.slice A0 n0 c0] 31)) 9 #[.string a1]).alloc (.cells #[.int .i64 a2] 3)).alloc (.cells #[.bool false] 4)
    rw [World.size_alloc] at this
    rw [hv1, hg1]; exact this
  have m1 : Blk v1 g2 3 #[.int .i64 a2] := by
    have := (Blk.new ((w.alloc (.cells #[.slice A0 n0 c0] 31)).alloc (.cells #[.string a1] 9)) 3 #[.int .i64 a2]).alloc (.cells #[.bool false] 4)
    simp only [World.size_alloc] at this
    rw [hv1, hg2]; exact this
  have r1 : Blk v1 g3 4 #[.bool false] := by
    have := Blk.new (((w.alloc (.cells #[.slice A0 n0 c0] 31)).alloc (.cells #[.string a1] 9)).alloc (.cells #[.int .i64 a2] 3)) 4 #[.bool false]
    simp only [World.size_alloc] at this
    rw [hv1, hg3]; exact this
  have hb1 : Below w.heap.size w v1 := by
    rw [hv1]
    exact ((((Below.refl _ _).alloc (Nat.le_refl _) _).alloc (by simp) _).alloc (by simp; omega) _).alloc (by simp; omega) _
  have hsz1 : v1.heap.size = g3 + 1 := by rw [hv1, hg3]; simp
  have HZ1 := Lib.hid hsz1
  have HV := Lib.hid hv1
  have HG0 := Lib.hid hg0
  have HG1 := Lib.hid hg1
  have HG2 := Lib.hid hg2
  have HG3 := Lib.hid hg3
  have W0 := Lib.hid w0
  have K1 := Lib.hid k1
  have S1 := Lib.hid s1
  have M1 := Lib.hid m1
  have R1 := Lib.hid r1
  have HD : g0 < g1 ∧ g1 < g2 ∧ g2 < g3 := ⟨by omega, by omega, by omega⟩
  have hz1 := hb1.size
  have hgw : w.heap.size ≤ g0 := Nat.le_of_eq hg0.symm
  clear hv1 hsz1 hg0 hg1 hg2 hg3 w0 k1 s1 m1 r1
  have hbs7 := build_seven
  have he7 := eq_piece (keyPiece [7]) (keyPiece [7]) (len_keyPiece _) (len_keyPiece _) true (by simp)
  have hgd7 := guard_piece
  have hs7 := SlB.new v1 #[.int .u8 7] [7] 1 (Nat.lt_succ_self _) rfl (by simp [maxLen]) rfl
  refine calls_of_wp_marks Try.func17 rfl ?_
  simp only [Try.ntmps17, List.size_toArray, List.length_cons, List.length_nil, Nat.reduceAdd, Nat.reduceSub, Array.replicate_succ, Array.replicate_zero, List.push_toArray, List.append_toArray, List.nil_append, List.cons_append]
  go_wp2_with fail
  rw [← HG3.out, ← HG2.out, ← HG1.out, ← HG0.out, ← HV.out, ← HZ1.out]
  refine (key_c hs7 (by simp) (by omega)).mono ?_
  rintro e v2 ⟨rfl, hb2⟩
  have h12 : Below v1.heap.size v1 v2 := (below_alloc _ _).trans (hb2.mono (by simp))
  have K2 := Lib.hid (K1.out.below h12 K1.out.lt)
  have S2 := Lib.hid (S1.out.below h12 S1.out.lt)
  have M2 := Lib.hid (M1.out.below h12 M1.out.lt)
  have R2 := Lib.hid (R1.out.below h12 R1.out.lt)
  have hb02 := hb1.trans (h12.mono hz1)
  have hz2 := hb02.size
  obtain ⟨cs, v3, hrun, hs3, hb3⟩ := conv_str a1 (by omega) v2
  have dk : v2.cell? ⟨g0, 0, none⟩ = some (.slice A0 n0 c0) := by rw [K2.out.cell]; rfl
  have ds : v2.cell? ⟨g1, 0, none⟩ = some (.string a1) := by rw [S2.out.cell]; rfl
  have K3 := Lib.hid (K2.out.below hb3 K2.out.lt)
  have S3 := Lib.hid (S2.out.below hb3 S2.out.lt)
  have M3 := Lib.hid (M2.out.below hb3 M2.out.lt)
  have R3 := Lib.hid (R2.out.below hb3 R2.out.lt)
  have hb03 := hb02.trans (hb3.mono hz2)
  have hz3 := hb03.size
  have hk3 := (W0.out.below hb03).more hz3
  have hal := below_alloc v3 (.cells #[.slice A0 n0 c0, .slice (some ⟨v2.heap.size, 0, none⟩) a1.size cs] 31)
  have K4 := Lib.hid (K3.out.below hal K3.out.lt)
  have S4 := Lib.hid (S3.out.below hal S3.out.lt)
  have M4 := Lib.hid (M3.out.below hal M3.out.lt)
  have R4 := Lib.hid (R3.out.below hal R3.out.lt)
  have hb04 := hb03.trans (hal.mono hz3)
  by_cases hbig : 4096 < n0 + a1.size
  · have fr : (v3.alloc (.cells #[.slice A0 n0 c0, .slice (some ⟨v2.heap.size, 0, none⟩) a1.size cs] 31)).frozen? ⟨g3, 0, none⟩ = false := R4.out.frozen 0
    have dr : (v3.alloc (.cells #[.slice A0 n0 c0, .slice (some ⟨v2.heap.size, 0, none⟩) a1.size cs] 31)).cell? ⟨g3, 0, none⟩ = some (.bool false) := by rw [R4.out.cell]; rfl
    go_wp2_with (first
      | ((with_reducible show wpList _ _ _ (Oper.mk _ (Op.build 34 _) _ _ _ _ :: _) _ _); refine wpList_build (by rfl) 34 _ rfl #[(0, .int .u8 7)] (by simp [Act.eval]) (.agg (arr8 (keyPiece [7]))) (build_seven _) ?_)
      | (go_at_call 38; refine (large2_c hk3 hs3 true (decide_eq_true hbig) hnb0 (by omega)).mono ?_; rintro e w3 ⟨rfl, rfl⟩))
    exact ⟨_, res_bool rfl _ g3 4 true Try.underlying4 rfl (by simpa using R4.out.set_ 0 (.bool true)), rfl, hb04.setCell (by have := HD; show w.heap.size ≤ g3; omega) _⟩
  · obtain ⟨u, hu⟩ : ∃ u : Nat, IntKind.u64.wrap a2 = (u : Int) := ⟨(IntKind.u64.wrap a2).toNat, by rw [Int.toNat_of_nonneg (wrap_u64_nn _)]⟩
    obtain ⟨kk, hkk⟩ : ∃ kk : Nat, kk = u % 6 := ⟨_, rfl⟩
    obtain ⟨M, hM⟩ : ∃ M : Nat, M = 1 + kk := ⟨_, rfl⟩
    have hM1 : 1 ≤ M := by omega
    have hM6 : M ≤ 6 := by omega
    have htm : ((u : Int)).tmod 6 = (kk : Int) := by rw [Int.tmod_eq_emod_of_nonneg (by omega)]; omega
    have hmd : (u : Int) % 6 = (kk : Int) := by omega
    have hMi : 1 + (kk : Int) = (M : Int) := by omega
    have hu6 : (kk : Int) < 6 := by omega
    have hu0 : (0 : Int) ≤ (kk : Int) := by omega
    clear hkk hM
    have dn : (v3.alloc (.cells #[.slice A0 n0 c0, .slice (some ⟨v2.heap.size, 0, none⟩) a1.size cs] 31)).cell? ⟨g2, 0, none⟩ = some (.int .i64 a2) := by rw [M4.out.cell]; rfl
    have fn : (v3.alloc (.cells #[.slice A0 n0 c0, .slice (some ⟨v2.heap.size, 0, none⟩) a1.size cs] 31)).frozen? ⟨g2, 0, none⟩ = false := M4.out.frozen 0
    have dk4 : ((v3.alloc (.cells #[.slice A0 n0 c0, .slice (some ⟨v2.heap.size, 0, none⟩) a1.size cs] 31)).setCell ⟨g2, 0, none⟩ (.int .i64 (M : Int))).cell? ⟨g0, 0, none⟩ = some (.slice A0 n0 c0) := by rw [(K4.out.far (p := ⟨g2, 0, none⟩) (by show g0 ≠ g2; omega) _).cell]; rfl
    go_wp2_with (first
      | ((with_reducible show wpList _ _ _ (Oper.mk _ (Op.build 34 _) _ _ _ _ :: _) _ _); refine wpList_build (by rfl) 34 _ rfl #[(0, .int .u8 7)] (by simp [Act.eval]) (.agg (arr8 (keyPiece [7]))) (build_seven _) ?_)
      | (go_at_call 38; refine (large2_c hk3 hs3 false (decide_eq_false hbig) hnb0 (by omega)).mono ?_; rintro e w3 ⟨rfl, rfl⟩))
    obtain ⟨v5, hv5⟩ : ∃ v5, v5 = (v3.alloc (.cells #[.slice A0 n0 c0, .slice (some ⟨v2.heap.size, 0, none⟩) a1.size cs] 31)).setCell ⟨g2, 0, none⟩ (.int .i64 (M : Int)) := ⟨_, rfl⟩
    rw [← hv5]
    have hb05 : Below w.heap.size w v5 := by rw [hv5]; exact hb04.setCell (by show w.heap.size ≤ g2; omega) _
    have K5 : Blk v5 g0 31 #[.slice A0 n0 c0] := by rw [hv5]; exact K4.out.far (by show g0 ≠ g2; omega) _
    have S5 : Blk v5 g1 9 #[.string a1] := by rw [hv5]; exact S4.out.far (by show g1 ≠ g2; omega) _
    have R5 : Blk v5 g3 4 #[.bool false] := by rw [hv5]; exact R4.out.far (by show g3 ≠ g2; omega) _
    have M5 : Blk v5 g2 3 #[.int .i64 (M : Int)] := by rw [hv5]; simpa using M4.out.set_ 0 (.int .i64 (M : Int))
    have hz5 := hb05.size
    clear hv5 dn fn dk4 K1 S1 M1 R1 K2 S2 M2 R2 K3 S3 M3 R3 K4 S4 M4 R4 hal hb04 hrun hs3 hk3 dk ds hb02 hb03 hz2 hz3 h12 hb2 hb3 hs7
    refine (copy_c (W0.out.below hb05) hz5 (by omega)).mono ?_
    rintro e v6 ⟨rfl, hm, hb6⟩
    have hm1 : SlB v6 v6.heap.size (some ⟨v5.heap.size, 0, none⟩) n0 (n0 + 2) bs0 := by
      have := hm.sl.trim (k := n0) (by omega)
      rwa [List.take_left' (W0.out.len)] at this
    have hb06 := hb05.trans (hb6.mono hz5)
    have hz6 := hb06.size
    have K6 := K5.below hb6 K5.lt
    have S6 := S5.below hb6 S5.lt
    have M6 := M5.below hb6 M5.lt
    have R6 := R5.below hb6 R5.lt
    have ds6 : (v6.alloc (.cells #[.int .i64 0] 3)).cell? ⟨g1, 0, none⟩ = some (.string a1) := by rw [(S6.alloc _).cell]; rfl
    go_wp2_with fail
    obtain ⟨gc, hgc⟩ : ∃ gc, gc = v5.heap.size := ⟨_, rfl⟩
    obtain ⟨gk, hgk⟩ : ∃ gk, gk = v6.heap.size := ⟨_, rfl⟩
    obtain ⟨va, hva⟩ : ∃ va, va = v6.alloc (.cells #[.int .i64 0] 3) := ⟨_, rfl⟩
    have hbva : Below v6.heap.size v6 va := by rw [hva]; exact below_alloc _ _
    have hza : va.heap.size = gk + 1 := by rw [hva, hgk, World.size_alloc]
    have N6 : Blk va gk 3 #[.int .i64 0] := by rw [hva, hgk]; exact Blk.new _ _ _
    have hgcl : gc < gk := by rw [hgc, hgk]; exact Row.wrote_lt hm |>.elim (fun e => by simp [wrote] at e) (fun ⟨g, _, e, _, hl, _⟩ => by simp [wrote] at e; omega)
    rw [← hva, ← hgk, ← hgc]
    rw [← hgc] at hm hm1
    have K7 := K6.below hbva K6.lt
    have S7 := S6.below hbva S6.lt
    have M7 := M6.below hbva M6.lt
    have R7 := R6.below hbva R6.lt
    have hwg : w.heap.size ≤ gk := by rw [hgk]; exact hz6
    have h0va := hb06.trans (hbva.mono hz6)
    have cm := OwB.trim (OwB.below hm hbva) (k := n0) (by omega)
    have hm2 := (hm1.below hbva).more hbva.size
    have e0 := K6.lt
    have e1 := S6.lt
    have e2 := M6.lt
    have e3 := R6.lt
    rw [← hgk] at e0 e1 e2 e3
    have ec0 : g0 ≠ gc := by rw [hgc]; have := K5.lt; omega
    have ec1 : g1 ≠ gc := by rw [hgc]; have := S5.lt; omega
    have ec2 : g2 ≠ gc := by rw [hgc]; have := M5.lt; omega
    have ec3 : g3 ≠ gc := by rw [hgc]; have := R5.lt; omega
    have hgcw : w.heap.size ≤ gc := by rw [hgc]; exact hz5
    have HZA := Lib.hid hza
    clear hva hgk hgc hza K6 S6 M6 R6 K5 S5 M5 R5 ds6 hm hm1 hb05 hz5 hb6 hb06 hz6
    refine (stream_c hm2 (Nat.le_refl _) (by omega) a1).mono ?_
    rintro e v7 ⟨gs, A7, c7, rfl, hlt7, bs7, bl7, _, ho7, hb7⟩
    have N7 := N6.below hb7 N6.lt
    have K8 := K7.below hb7 K7.lt
    have S8 := S7.below hb7 S7.lt
    have M8 := M7.below hb7 M7.lt
    have R8 := R7.below hb7 R7.lt
    have h07 := h0va.trans (hb7.mono h0va.size)
    have cm7 := OwB.below cm hb7
    have hgsl := bs7.lt
    have hr7 : NotIn (fun k => k = gc) A7 c7 := fun g e h => by
      rcases Row.wrote_lt ho7 with h1 | ⟨g', _, h1, hb, _, _⟩
      · rw [h1] at e; cases e
      · rw [h1] at e; cases e
        have := HZA.out
        omega
    have hr7k : NotIn (fun k => k = gk) A7 c7 := fun g e h => by
      rcases Row.wrote_lt ho7 with h1 | ⟨g', _, h1, hb, _, _⟩
      · rw [h1] at e; cases e
      · rw [h1] at e; cases e
        have := HZA.out
        omega
    have egs : gk < gs := by have := HZA.out; omega
    have hlab : va.heap.size = gk + 1 := HZA.out
    rw [hlab] at bl7 ho7 ⊢
    have HBS := Lib.hid bs7
    have HBL := Lib.hid bl7
    have HO7 := Lib.hid ho7
    have HK8 := Lib.hid K8
    have HS8 := Lib.hid S8
    have HM8 := Lib.hid M8
    have HR8 := Lib.hid R8
    have HN7 := Lib.hid N7
    clear hlab bs7 bl7 ho7 K7 S7 M7 R7 K8 S8 M8 R8 N6 N7 cm hb7 hm2 h0va hbva hlt7 hbs7 he7 hgd7 htm hmd hMi hu6 hu0 hu
    go_wp2_with (go_at_call 45; refine (over_c cm7 (by omega)).mono ?_; rintro e v8 ⟨rfl, hg8⟩; rw [show wrote (some ⟨gc, 0, none⟩) (n0 + 2) = some gc from rfl] at hg8)
    have hls : a1.size ≤ 4096 := by omega
    have N9 := HN7.out.grown hg8 (by simp; omega)
    have st8 : St w g0 g1 g2 g3 gk (.slice A0 n0 c0) a1 M (fun k => k = gk) 0 v8 := ⟨rfl, by omega, by omega, by omega, by omega, HK8.out.grown hg8 (by simpa using ec0), HS8.out.grown hg8 (by simpa using ec1), HM8.out.grown hg8 (by simpa using ec2), HR8.out.grown hg8 (by simpa using ec3), by simpa using N9, h07.grown hg8 h07.size (fun k hk => by cases hk; exact hgcw)⟩
    have bs8 := HBS.out.grown hg8 (by simp; omega)
    have bl8 := HBL.out.grown hg8 (by simp; omega)
    have ho8 : OwB v8 (gk + 1) A7 n0 c7 bs0 := Row.keepRow HO7.out hg8 (by
      rcases Row.wrote_lt HO7.out with h1 | ⟨g', _, h1, hb, _, _⟩
      · exact .inl h1
      · right; rw [h1]; simp; omega)
    have hz8 := st8.below.size
    have hgn8 := st8.bk.lt
    clear HBS HBL HO7 HK8 HS8 HM8 HR8 HN7 N9 cm7 hg8
    refine wp_range (O := fun k => k = gk) (a := _) rfl (enters_of Try.func64 (by kernel_rfl) rfl) (stream_iter bs8 bl8 ho8 (by omega) (by omega)) (Below.refl _ _) (fun _ => rfl) (fun k hk => ⟨⟨by rw [hk]; omega, by rw [hk]; omega, fun e => hr7k _ e hk⟩, by rw [hk]; exact hgn8⟩)
      (fun O' pre W' => St w g0 g1 g2 g3 gk (.slice A0 n0 c0) a1 M O' pre.length W' ∧ pre.length < M)
      (fun c pre W' => c = .exit 0 ∧ (∃ O', St w g0 g1 g2 g3 gk (.slice A0 n0 c0) a1 M O' pre.length W') ∧ pre.length = M) (fun O' => ownFrom_of fun s X X' hs hc => ⟨hs.1.calm hc hz8, hs.2⟩) (fun c => ownFrom_of fun s X X' hs hc => ⟨hs.1, by obtain ⟨O', h⟩ := hs.2.1; exact ⟨O', h.calm hc hz8⟩, hs.2.2⟩) ⟨st8, hM1⟩
      (fun O' pre x a' W' => (St w g0 g1 g2 g3 gk (.slice A0 n0 c0) a1 M O' pre.length W' ∧ pre.length < M) ∧ x = pre.length ∧ x < 4096 ∧
        ∃ gp, Blk W' gp 44 (arr8 (blockOf bs0 a1.data.toList (x + 1))) ∧ a' = { tmps := #[Value.slice A0 n0 c0, Value.string a1, Value.int .i64 a2, Value.pointer (some ⟨g0, 0, none⟩), Value.pointer (some ⟨g1, 0, none⟩), Value.pointer (some ⟨g2, 0, none⟩), Value.pointer (some ⟨g3, 0, none⟩), Value.slice (some ⟨gc, 0, none⟩) n0 (n0 + 2), Value.pointer (some ⟨gk, 0, none⟩), Value.func (Fn.func 64) #[] #[Value.pointer (some ⟨gs, 0, none⟩), Value.pointer (some ⟨gk + 1, 0, none⟩)], Value.pointer (some ⟨gp, 0, none⟩), Value.slice (some ⟨v1.heap.size, 0, none⟩) 1 1, Value.agg (arr8 (keyPiece [7])), Value.agg (arr8 (keyPiece [7])), Value.bool false, Value.slice A0 n0 c0, Value.string a1, Value.slice (some ⟨v2.heap.size, 0, none⟩) a1.size cs, Value.slice (some ⟨v3.heap.size, 0, none⟩) 2 2, Value.bool false, Value.int .i64 a2, Value.int .u64 (u : Int), Value.int .u64 (kk : Int), Value.int .i64 (kk : Int), Value.int .i64 (M : Int), Value.slice A0 n0 c0, Value.slice (some ⟨gc, 0, none⟩) n0 (n0 + 2), Value.slice (some ⟨gc, 0, none⟩) n0 (n0 + 2), Value.string a1, Value.func (Fn.func 64) #[] #[Value.pointer (some ⟨gs, 0, none⟩), Value.pointer (some ⟨gk + 1, 0, none⟩)], Value.slice (some ⟨gc, 0, none⟩) n0 (n0 + 2), Value.tuple #[], Value.func (Fn.func 64) #[] #[Value.pointer (some ⟨gs, 0, none⟩), Value.pointer (some ⟨gk + 1, 0, none⟩)], Value.agg (arr8 (blockOf bs0 a1.data.toList (x + 1))), undef, undef, undef, undef, undef, undef, undef, undef, undef, undef, undef, undef, undef, undef], defers := [] })
      (fun O' pre x a' => ownFrom_of fun s X X' hs hc => ⟨⟨hs.1.1.calm hc hz8, hs.1.2⟩, hs.2.1, hs.2.2.1, by obtain ⟨gp, h2, h3⟩ := hs.2.2.2; exact ⟨gp, hc.blk h2, h3⟩⟩) ?_ ?_ ?_ ?_
    · rintro l' O' pre x W' K ⟨st, hlt⟩ ⟨hx1, hx2⟩ hK
      have HX1 := Lib.hid hx1
      clear hx1
      refine wpIn_region_of (free_rd l') rfl (fun ⟨_, _, h⟩ => h) ?_
      simp only [fold_one, List.setIfInBounds_toArray, List.set_cons_succ, List.set_cons_zero]
      refine wpList_alloc_agg rfl 44 rfl (arr8 (z8' 32)) zero44 ?_
      refine wpList_store8 rfl 44 (.tmp 10) (.tmp 33) rfl W'.heap.size rfl (blockOf bs0 a1.data.toList (x + 1)) rfl agg44 (len_blockOf _ _ _) _ _ (Blk.new _ _ _) (by rw [size_arr8, len_z8']) ?_
      intro W5 hb5 hg5 hs5
      have hbb : Below W'.heap.size W' W5 := ((Below.refl _ _).alloc (Nat.le_refl _) _).grown hg5 (by simp) (fun k hk => by cases hk; exact Nat.le_refl _)
      refine hK O' _ _ (Kept.below hbb) ⟨⟨st.on hbb, hlt⟩, HX1.out, hx2, W'.heap.size, hb5, ?_⟩
      rfl
    · rintro l' O' pre x a' W' ⟨⟨st, hlt⟩, hx1, hx2, gp, hbp, rfl⟩
      rw [← hx1] at st hlt
      have hne : gp ≠ gk := fun e => by
        have h1 := st.bk
        rw [← e, Blk, show W'.heap[gp]? = _ from hbp] at h1
        simp at h1
      have hx0 : (0 : Int) ≤ (x : Int) := by omega
      have hxb : (x : Int) ≤ 4096 := by omega
      have dx : W'.cell? ⟨gk, 0, none⟩ = some (.int .i64 (x : Int)) := by rw [st.bk.cell]; rfl
      have fx : W'.frozen? ⟨gk, 0, none⟩ = false := st.bk.frozen 0
      obtain ⟨V, hV⟩ : ∃ V, V = W'.setCell ⟨gk, 0, none⟩ (.int .i64 ((x : Int) + 1)) := ⟨_, rfl⟩
      have stV : St w g0 g1 g2 g3 gk (.slice A0 n0 c0) a1 M O' (x + 1) V := by rw [hV]; exact st.step hwg
      have bpV : Blk V gp 44 (arr8 (blockOf bs0 a1.data.toList (x + 1))) := by rw [hV]; exact hbp.far hne _
      have hkV : Kept O' O' W' V := by rw [hV]; exact Kept.setCell st.own 0 _
      have HX1 := Lib.hid hx1
      have HST := Lib.hid stV
      have HV := Lib.hid hV
      clear hx1 st hV stV
      gi_wp2
      rw [← HV.out]
      clear dx fx
      refine wpIn_region_rel (free_rd l') rfl 6 (fun W W' => Below W.heap.size W W') (fun W => Below V.heap.size V W)
        [Det (.agg (arr8 (blockOf bs0 a1.data.toList (x + 1)))), Det (.slice A0 n0 c0), Det (.string a1), Det (.int .i64 ((x : Int) + 1)), Det (.agg (arr8 (blockOf bs0 a1.data.toList (x + 1)))), Det (.bool false)]
        [[], [], [], [], [(1, some 37), (2, some 38), (3, some 39)], [(0, some 36), (4, some 40)]]
        [[], [], [], [], [1, 2, 3], [0, 1, 2, 3, 4]]
        [(0, some 36), (1, some 37), (2, some 38), (3, some 39), (4, some 40), (5, some 41)] (by kernel_rfl) (by kernel_rfl) (by kernel_rfl) (fun W W' h1 h2 => h1.trans (h2.mono h1.size)) ((Below.refl _ _).drew) ?_ ?_ ?_
      · exact (AllMono.cons Det.later (AllMono.cons Det.later (AllMono.cons Det.later (AllMono.cons Det.later (AllMono.cons Det.later (AllMono.cons Det.later AllMono.nil))))))
      · refine AllOb.cons ?_ (AllOb.cons ?_ (AllOb.cons ?_ (AllOb.cons ?_ (AllOb.cons ?_ (AllOb.cons ?_ (AllOb.nil))))))
        · intro uF W hC' hU aF hF
          have hC : Below V.heap.size V W := hC'
          clear hC'
          simp only [puts] at hF
          subst hF
          go_wp2_with (((with_reducible show wpList _ _ _ (Oper.mk _ (Op.load 44 _) _ _ _ _ :: _) _ _); refine wpList_load_whole (by rfl) 44 (.tmp 10) rfl gp rfl (arr8 (blockOf bs0 a1.data.toList (x + 1))) agg44 (by rw [size_arr8, len_blockOf]) 44 (bpV.below hC bpV.lt) ?_))
          exact ⟨rfl, rfl, (Below.refl _ _), rfl⟩
        · intro uF W hC' hU aF hF
          have hC : Below V.heap.size V W := hC'
          clear hC'
          simp only [puts] at hF
          subst hF
          have d1 : W.cell? ⟨g0, 0, none⟩ = some (.slice A0 n0 c0) := by rw [(HST.out.on hC).b0.cell]; rfl
          go_wp2_with (fail)
          exact ⟨rfl, rfl, (Below.refl _ _), rfl⟩
        · intro uF W hC' hU aF hF
          have hC : Below V.heap.size V W := hC'
          clear hC'
          simp only [puts] at hF
          subst hF
          have d1 : W.cell? ⟨g1, 0, none⟩ = some (.string a1) := by rw [(HST.out.on hC).b1.cell]; rfl
          go_wp2_with (fail)
          exact ⟨rfl, rfl, (Below.refl _ _), rfl⟩
        · intro uF W hC' hU aF hF
          have hC : Below V.heap.size V W := hC'
          clear hC'
          simp only [puts] at hF
          subst hF
          have d1 : W.cell? ⟨gk, 0, none⟩ = some (.int .i64 ((x : Int) + 1)) := by rw [(HST.out.on hC).bk.cell]; rfl
          go_wp2_with (fail)
          exact ⟨rfl, rfl, (Below.refl _ _), rfl⟩
        · intro uF W hC' hU aF hF
          have hC : Below V.heap.size V W := hC'
          clear hC'
          have h37 : (Det (.slice A0 n0 c0)) (uF 1) W := hU.1
          have h38 : (Det (.string a1)) (uF 2) W := hU.2.1
          have h39 : (Det (.int .i64 ((x : Int) + 1))) (uF 3) W := hU.2.2.1
          clear hU
          simp only [puts, Act.put, List.setIfInBounds_toArray, List.set_cons_zero, List.set_cons_succ] at hF
          generalize uF 1 = x37 at h37 hF
          generalize uF 2 = x38 at h38 hF
          generalize uF 3 = x39 at h39 hF
          obtain rfl : x37 = (.slice A0 n0 c0) := h37
          obtain rfl : x38 = (.string a1) := h38
          obtain rfl : x39 = (.int .i64 ((x : Int) + 1)) := h39
          subst hF
          go_wp2_with ((go_at_call 46; rw [show ((x : Int) + 1) = ((x + 1 : Nat) : Int) from rfl]; refine (refblock_c ((W0.out.below (HST.out.on hC).below)) (HST.out.on hC).below.size (by omega) a1 (by omega) (x + 1) (by omega)).mono ?_; rintro e W1 ⟨rfl, hb⟩))
          exact ⟨rfl, rfl, hb, rfl⟩
        · intro uF W hC' hU aF hF
          have hC : Below V.heap.size V W := hC'
          clear hC'
          have h36 : (Det (.agg (arr8 (blockOf bs0 a1.data.toList (x + 1))))) (uF 0) W := hU.1
          have h40 : (Det (.agg (arr8 (blockOf bs0 a1.data.toList (x + 1))))) (uF 4) W := hU.2.1
          clear hU
          simp only [puts, Act.put, List.setIfInBounds_toArray, List.set_cons_zero, List.set_cons_succ] at hF
          generalize uF 0 = x36 at h36 hF
          generalize uF 4 = x40 at h40 hF
          obtain rfl : x36 = (.agg (arr8 (blockOf bs0 a1.data.toList (x + 1)))) := h36
          obtain rfl : x40 = (.agg (arr8 (blockOf bs0 a1.data.toList (x + 1)))) := h40
          subst hF
          have he := eq44 (blockOf bs0 a1.data.toList (x + 1)) (blockOf bs0 a1.data.toList (x + 1)) (len_blockOf _ _ _) (len_blockOf _ _ _) true (by simp)
          have hgd := guard44
          go_wp2_with (fail)
          exact ⟨rfl, rfl, (Below.refl _ _), rfl⟩
      intro uF W6 hC' hU aF hF
      have hCW6 : Below V.heap.size V W6 := hC'
      clear hC'
      have h41 : (Det (.bool false)) (uF 5) W6 := hU.2.2.2.2.2.1
      clear hU
      simp only [List.take_succ_cons, List.take_zero, puts, Act.put, List.setIfInBounds_toArray, List.set_cons_zero, List.set_cons_succ] at hF
      generalize uF 0 = x36 at hF
      generalize uF 1 = x37 at hF
      generalize uF 2 = x38 at hF
      generalize uF 3 = x39 at hF
      generalize uF 4 = x40 at hF
      generalize uF 5 = x41 at h41 hF
      obtain rfl : x41 = (.bool false) := h41
      subst hF
      simp only [List.drop_succ_cons, List.drop_zero]
      have st6 := HST.out.on hCW6
      have hk6 : Kept O' O' W' W6 := hkV.trans (Kept.below hCW6)
      have d8 : W6.cell? ⟨gk, 0, none⟩ = some (.int .i64 ((x : Int) + 1)) := by rw [st6.bk.cell]; rfl
      have d5 : W6.cell? ⟨g2, 0, none⟩ = some (.int .i64 (M : Int)) := by rw [st6.b2.cell]; rfl
      have hpl : (pre ++ [x]).length = x + 1 := by rw [List.length_append, List.length_cons, List.length_nil, HX1.out]
      have HPL := Lib.hid hpl
      have HS6 := Lib.hid st6
      have HK6 := Lib.hid hk6
      clear hpl st6 hk6 hkV bpV hbp
      by_cases heq : x + 1 = M
      · have hei : (x : Int) + 1 = (M : Int) := by omega
        gi_wp2
        exact ⟨HK6.out.from_ _, rfl, ⟨O', by rw [HPL.out]; exact HS6.out⟩, by rw [HPL.out]; exact heq⟩
      · have hei : ¬ (x : Int) + 1 = (M : Int) := by omega
        gi_wp2
        exact ⟨O', HK6.out, by rw [HPL.out]; exact HS6.out, by rw [HPL.out]; omega⟩
    · rintro D O' xs W' hD rfl ⟨st, hlt⟩ hK
      rw [len_upTo] at hlt
      omega
    · rintro D c pre W' hD ⟨k, hk, rfl⟩ ⟨rfl, ⟨O', st⟩, hpl⟩ hK
      rw [hpl] at st
      clear hk hpl
      have d8 : W'.cell? ⟨gk, 0, none⟩ = some (.int .i64 (M : Int)) := by rw [st.bk.cell]; rfl
      have d5 : W'.cell? ⟨g2, 0, none⟩ = some (.int .i64 (M : Int)) := by rw [st.b2.cell]; rfl
      have d6 : W'.cell? ⟨g3, 0, none⟩ = some (.bool false) := by rw [st.b3.cell]; rfl
      have f6 : W'.frozen? ⟨g3, 0, none⟩ = false := st.b3.frozen 0
      have hDn : D ≠ g3 := fun e => by have := st.b3; rw [← e, Blk, hK] at this; cases this
      have HST := Lib.hid st
      have HKK := Lib.hid hK
      have hg3w : w.heap.size ≤ g3 := by omega
      clear st hK
      go_wp2_with fail
      have hb3' : Blk (W'.setCell ⟨g3, 0, none⟩ (.bool true)) g3 4 #[.bool true] := by simpa using HST.out.b3.set_ 0 (.bool true)
      have hD' : (W'.setCell ⟨g3, 0, none⟩ (.bool true)).heap[D]? = some (.deferred (some [])) := (Below.heap_setCell _ _ _ _ hDn).trans HKK.out
      refine ⟨by simp, .inl ⟨_, _, rfl, run_takeDeferred hD', ?_⟩⟩
      refine ⟨_, res_bool rfl _ g3 4 true Try.underlying4 rfl ((World.putObj_heap_other (Ne.symm hDn)).trans hb3'), rfl, ?_⟩
      exact (calm_putObj (B := w.heap.size) _ (Nat.le_trans hz8 hD) hD' rfl).below (HST.out.below.setCell hg3w _) (Nat.le_refl _) (Nat.le_refl _)
end Go.Proofs.Ytbphoilfiahnpaa.macStream

