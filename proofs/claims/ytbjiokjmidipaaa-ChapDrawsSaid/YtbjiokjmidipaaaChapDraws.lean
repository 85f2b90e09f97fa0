/-
  ChapDraws: which draws a seed has.
-/
import Derived.Test.YtbjiokjmidipaaaDraws
import Derived.Test.YtbjiokjmidipaaaChap
namespace Go.Proofs.Ytbjiokjmidipaaa.chapDraws
open Go.RowKit Go.Shelf
set_option linter.unusedVariables false
set_option linter.unusedSimpArgs false
set_option maxRecDepth 100000

attribute [local go_sem] Oper.semAt_some
theorem wrap_u64_nn (x : Int) : 0 ≤ IntKind.u64.wrap x := by rw [wrap_u64]; omega
theorem not_zero : (ansOf 1 [] [] == z8' 32) = false := by decide +kernel
theorem build44 (w : World) : (Instr.build 40 #[]).run Try.prog w = .ok (.agg (arr8 (z8' 32))) w := by kernel_rfl
theorem res_bool {P : Program} {w : World} {fn : Func} {p : Tmp} {ty : TypeId} (hr : fn.results = #[.cell p ty]) (tmps : Array Value) (g : Nat) (tb : TypeId) (b : Bool) (ht : P.underlying ty = some .bool)
    (hp : tmps.getD p undef = .pointer (some ⟨g, 0, none⟩)) (hb : Blk w g tb #[.bool b]) : (results fn tmps).run P w = .ok (.bool b) w := by
  have hp' : tmps[p]?.getD undef = .pointer (some ⟨g, 0, none⟩) := by simpa using hp
  have hc : w.cell? ⟨g, 0, none⟩ = some (.bool b) := by rw [hb.cell]; rfl
  simp [results, hr, hp', asAddr, loadVar, isAgg, run_underlying ht, hc]

/-- What stands while the loop runs: k draws have come. -/
structure St (w : World) (g0 g1 g2 g3 gk : Nat) (seed fr : Int) (M : Nat) (O : Nat → Prop) (k : Nat) (W : World) : Prop where
  own : O gk
  n0 : ¬ O g0
  n1 : ¬ O g1
  n2 : ¬ O g2
  n3 : ¬ O g3
  b0 : Blk W g0 3 #[.int .i64 seed]
  b1 : Blk W g1 3 #[.int .i64 fr]
  b2 : Blk W g2 3 #[.int .i64 (M : Int)]
  b3 : Blk W g3 4 #[.bool false]
  bk : Blk W gk 3 #[.int .i64 (k : Int)]
  below : Below w.heap.size w W
section
variable {w : World} {g0 g1 g2 g3 gk : Nat} {seed fr : Int} {M : Nat} {O : Nat → Prop} {k : Nat} {W W' : World}
theorem St.calm {B : Nat} (h : St w g0 g1 g2 g3 gk seed fr M O k W) (hc : Calm B W W') (hB : w.heap.size ≤ B) : St w g0 g1 g2 g3 gk seed fr M O k W' :=
  ⟨h.own, h.n0, h.n1, h.n2, h.n3, hc.blk h.b0, hc.blk h.b1, hc.blk h.b2, hc.blk h.b3, hc.blk h.bk, hc.below h.below hB (Nat.le_refl _)⟩
theorem St.on (h : St w g0 g1 g2 g3 gk seed fr M O k W) (hb : Below W.heap.size W W') : St w g0 g1 g2 g3 gk seed fr M O k W' :=
  ⟨h.own, h.n0, h.n1, h.n2, h.n3, h.b0.below hb h.b0.lt, h.b1.below hb h.b1.lt, h.b2.below hb h.b2.lt, h.b3.below hb h.b3.lt, h.bk.below hb h.bk.lt, h.below.trans (hb.mono h.below.size)⟩
theorem St.step (h : St w g0 g1 g2 g3 gk seed fr M O k W) (hw : w.heap.size ≤ gk) : St w g0 g1 g2 g3 gk seed fr M O (k + 1) (W.setCell ⟨gk, 0, none⟩ (.int .i64 ((k : Int) + 1))) := by
  have ne : ∀ {g : Nat}, ¬ O g → g ≠ gk := fun hg e => hg (e ▸ h.own)
  refine ⟨h.own, h.n0, h.n1, h.n2, h.n3, h.b0.far (ne h.n0) _, h.b1.far (ne h.n1) _, h.b2.far (ne h.n2) _, h.b3.far (ne h.n3) _, ?_, h.below.setCell hw _⟩
  have := h.bk.set_ 0 (.int .i64 ((k : Int) + 1))
  simpa using this
end

set_option maxHeartbeats 4000000 in
theorem walk (a0 a1 a2 : Int) (w : World) (x0 : (Lit.int .i64 a0).wf = true) (x1 : (Lit.int .i64 a1).wf = true) (x2 : (Lit.int .i64 a2).wf = true) :
    Calls Try.prog 14 #[.int .i64 a0, .int .i64 a1, .int .i64 a2] w fun e w' => e = .returned (.bool true) ∧ Below w.heap.size w w' := by
  -- the four cells of one's own
  obtain ⟨g0, hg0⟩ : ∃ g, g = w.heap.size := ⟨_, rfl⟩
  obtain ⟨g1, hg1⟩ : ∃ g, g = w.heap.size + 1 := ⟨_, rfl⟩
  obtain ⟨g2, hg2⟩ : ∃ g, g = w.heap.size + 1 + 1 := ⟨_, rfl⟩
  obtain ⟨g3, hg3⟩ : ∃ g, g = w.heap.size + 1 + 1 + 1 := ⟨_, rfl⟩
  obtain ⟨v1, hv1⟩ : ∃ v1, v1 = (((w.alloc (.cells #[.int .i64 a0] 3)).alloc (.cells #[.int .i64 a1] 3)).alloc (.cells #[.int .i64 a2] 3)).alloc (.cells #[.bool false] 4) := ⟨_, rfl⟩
  have k1 : Blk v1 g0 3 #[.int .i64 a0] := by rw [hv1, hg0]; exact (((Blk.new _ _ _).alloc _).alloc _).alloc _
  have s1 : Blk v1 g1 3 #[.int .i64 a1] := by
    have := ((Blk.new (w.alloc (.cells #[.int .i64 a0] 3)) 3 #[.int .i64 a1]).alloc (.cells #[.int .i64 a2] 3)).alloc (.cells #[.bool false] 4)
    rw [World.size_alloc] at this
    rw [hv1, hg1]; exact this
  have m1 : Blk v1 g2 3 #[.int .i64 a2] := by
    have := (Blk.new ((w.alloc (.cells #[.int .i64 a0] 3)).alloc (.cells #[.int .i64 a1] 3)) 3 #[.int .i64 a2]).alloc (.cells #[.bool false] 4)
    simp only [World.size_alloc] at this
    rw [hv1, hg2]; exact this
  have r1 : Blk v1 g3 4 #[.bool false] := by
    have := Blk.new (((w.alloc (.cells #[.int .i64 a0] 3)).alloc (.cells #[.int .i64 a1] 3)).alloc (.cells #[.int .i64 a2] 3)) 4 #[.bool false]
    simp only [World.size_alloc] at this
    rw [hv1, hg3]; exact this
  have hb1 : Below w.heap.size w v1 := by
    rw [hv1]
    exact ((((Below.refl _ _).alloc (Nat.le_refl _) _).alloc (by simp) _).alloc (by simp; omega) _).alloc (by simp; omega) _
  have HV := Lib.hid hv1
  have HG0 := Lib.hid hg0
  have HG1 := Lib.hid hg1
  have HG2 := Lib.hid hg2
  have HG3 := Lib.hid hg3
  have HD : g0 < g1 ∧ g1 < g2 ∧ g2 < g3 := ⟨by omega, by omega, by omega⟩
  have hz1 := hb1.size
  have hgw : w.heap.size ≤ g0 := Nat.le_of_eq hg0.symm
  clear hv1 hg0 hg1 hg2 hg3
  have hbd := build44
  have he := eq44 (ansOf 1 [] []) (z8' 32) (len_ansOf _ _ _) (len_z8' _) false not_zero
  have hgd := guard44
  obtain ⟨u, hu⟩ : ∃ u : Nat, IntKind.u64.wrap a2 = (u : Int) := ⟨(IntKind.u64.wrap a2).toNat, by rw [Int.toNat_of_nonneg (wrap_u64_nn _)]⟩
  obtain ⟨kk, hkk⟩ : ∃ kk : Nat, kk = u % 8 := ⟨_, rfl⟩
  obtain ⟨M, hM⟩ : ∃ M : Nat, M = 1 + kk := ⟨_, rfl⟩
  have hM1 : 1 ≤ M := by omega
  have hM6 : M ≤ 8 := by omega
  have htm : ((u : Int)).tmod 8 = (kk : Int) := by rw [Int.tmod_eq_emod_of_nonneg (by omega)]; omega
  have hmd : (u : Int) % 8 = (kk : Int) := by omega
  have hMi : 1 + (kk : Int) = (M : Int) := by omega
  have hu6 : (kk : Int) < 8 := by omega
  have hu0 : (0 : Int) ≤ (kk : Int) := by omega
  clear hkk hM
  refine calls_of_wp_marks Try.func14 rfl ?_
  simp only [Try.ntmps14, List.size_toArray, List.length_cons, List.length_nil, Nat.reduceAdd, Nat.reduceSub, Array.replicate_succ, Array.replicate_zero, List.push_toArray, List.append_toArray, List.nil_append, List.cons_append]
  go_wp2_with fail
  rw [← HG3.out, ← HG2.out, ← HG1.out, ← HG0.out, ← HV.out]
  refine (answer_c 1 (SlB.nil v1 v1.heap.size none) (SlB.nil v1 v1.heap.size none) (Nat.le_refl _) (by omega) (by omega)).mono ?_
  rintro e v2 ⟨rfl, h12⟩
  have k2 := k1.below h12 k1.lt
  have s2 := s1.below h12 s1.lt
  have m2 := m1.below h12 m1.lt
  have r2 := r1.below h12 r1.lt
  have hb02 := hb1.trans (h12.mono hz1)
  have hz2 := hb02.size
  have dn : v2.cell? ⟨g2, 0, none⟩ = some (.int .i64 a2) := by rw [m2.cell]; rfl
  have fn : v2.frozen? ⟨g2, 0, none⟩ = false := m2.frozen 0
  have K2 := Lib.hid k2
  have S2 := Lib.hid s2
  have M2 := Lib.hid m2
  have R2 := Lib.hid r2
  obtain ⟨v3, hv3⟩ : ∃ v3, v3 = v2.setCell ⟨g2, 0, none⟩ (.int .i64 (M : Int)) := ⟨_, rfl⟩
  have hb03 : Below w.heap.size w v3 := by rw [hv3]; exact hb02.setCell (by show w.heap.size ≤ g2; omega) _
  have K3 : Blk v3 g0 3 #[.int .i64 a0] := by rw [hv3]; exact k2.far (by show g0 ≠ g2; omega) _
  have S3 : Blk v3 g1 3 #[.int .i64 a1] := by rw [hv3]; exact s2.far (by show g1 ≠ g2; omega) _
  have R3 : Blk v3 g3 4 #[.bool false] := by rw [hv3]; exact r2.far (by show g3 ≠ g2; omega) _
  have M3 : Blk v3 g2 3 #[.int .i64 (M : Int)] := by rw [hv3]; simpa using m2.set_ 0 (.int .i64 (M : Int))
  obtain ⟨gk, hgk⟩ : ∃ gk, gk = v3.heap.size := ⟨_, rfl⟩
  have hgk' : gk = v2.heap.size := by rw [hgk, hv3]; simp [World.setCell]
  obtain ⟨v4, hv4⟩ : ∃ v4, v4 = v3.alloc (.cells #[.int .i64 0] 3) := ⟨_, rfl⟩
  have N4 : Blk v4 gk 3 #[.int .i64 0] := by rw [hv4, hgk]; exact Blk.new _ _ _
  have h34 : Below v3.heap.size v3 v4 := by rw [hv4]; exact below_alloc _ _
  have K4 := K3.below h34 K3.lt
  have S4 := S3.below h34 S3.lt
  have R4 := R3.below h34 R3.lt
  have M4 := M3.below h34 M3.lt
  have hb04 := hb03.trans (h34.mono hb03.size)
  have hwg : w.heap.size ≤ gk := by rw [hgk]; exact hb03.size
  have e0 := K3.lt
  have e1 := S3.lt
  have e2 := M3.lt
  have e3 := R3.lt
  rw [← hgk] at e0 e1 e2 e3
  have d0 : v4.cell? ⟨g0, 0, none⟩ = some (.int .i64 a0) := by rw [K4.cell]; rfl
  have d1 : v4.cell? ⟨g1, 0, none⟩ = some (.int .i64 a1) := by rw [S4.cell]; rfl
  have hz4 : v4.heap.size = gk + 1 := by rw [hv4, hgk, World.size_alloc]
  rw [hv4, hv3] at d0 d1
  have HV3 := Lib.hid hv3
  have HV4 := Lib.hid hv4
  have HGK := Lib.hid hgk
  have HGK' := Lib.hid hgk'
  have HZ4 := Lib.hid hz4
  clear hv3 hv4 hgk hgk' k1 s1 m1 r1 k2 s2 m2 r2 K2 S2 M2 R2 K3 S3 M3 R3 hb03 h34 h12 hz4
  go_wp2_with (first
    | ((with_reducible show wpList _ _ _ (Oper.mk (some 11) (Op.build 40 _) _ _ _ _ :: _) _ _); refine wpList_build rfl 40 _ rfl #[] (by simp only [List.map_toArray, List.map_nil]) _ (build44 _) ?_))
  rw [← HV3.out, ← HV4.out, ← HGK'.out]
  clear d0 d1 dn fn hbd he
  refine (draws_c a0 a1 v4).mono ?_
  rintro e v5 ⟨rfl, B1, B2, hb5, hs5⟩
  rw [HZ4.out] at B1 B2 ⊢
  have K5 := K4.below hb5 K4.lt
  have S5 := S4.below hb5 S4.lt
  have R5 := R4.below hb5 R4.lt
  have M5 := M4.below hb5 M4.lt
  have N5 := N4.below hb5 N4.lt
  have hb05 := hb04.trans (hb5.mono hb04.size)
  have hz5 := hb05.size
  have st5 : St w g0 g1 g2 g3 gk a0 a1 M (fun k => k = gk) 0 v5 := ⟨rfl, by omega, by omega, by omega, by omega, K5, S5, M5, R5, N5, hb05⟩
  have hgn5 := N5.lt
  clear K4 S4 R4 M4 N4 K5 S5 R5 M5 N5 hb5 hs5
  go_wp2_with fail
  obtain ⟨zz, hzz⟩ : ∃ zz, zz = Value.agg (arr8 (ansOf 1 [] [])) := ⟨_, rfl⟩
  obtain ⟨zy, hzy⟩ : ∃ zy, zy = Value.agg (arr8 (z8' 32)) := ⟨_, rfl⟩
  rw [← hzz, ← hzy]
  clear hzz hzy
  refine wp_range (O := fun k => k = gk) (a := _) rfl (enters_of Try.func64 (by kernel_rfl) rfl) (draws_iter B1 B2) (Below.refl _ _) (fun _ => rfl) (fun k hk => ⟨⟨by rw [hk]; omega, by rw [hk]; omega⟩, by rw [hk]; exact hgn5⟩)
      (fun O' pre W' => St w g0 g1 g2 g3 gk a0 a1 M O' pre.length W' ∧ pre.length < M)
      (fun c pre W' => c = .exit 0 ∧ (∃ O', St w g0 g1 g2 g3 gk a0 a1 M O' pre.length W') ∧ pre.length = M) (fun O' => ownFrom_of fun s X X' hs hc => ⟨hs.1.calm hc hz5, hs.2⟩) (fun c => ownFrom_of fun s X X' hs hc => ⟨hs.1, by obtain ⟨O', h⟩ := hs.2.1; exact ⟨O', h.calm hc hz5⟩, hs.2.2⟩) ⟨st5, hM1⟩
      (fun O' pre x a' W' => (St w g0 g1 g2 g3 gk a0 a1 M O' pre.length W' ∧ pre.length < M) ∧ x = pre.length ∧ x < 4096 ∧
        ∃ gp, Blk W' gp 40 (arr8 (drawOf a0 (nth a1 x))) ∧ a' = { tmps := #[Value.int .i64 a0, Value.int .i64 a1, Value.int .i64 a2, Value.pointer (some ⟨g0, 0, none⟩), Value.pointer (some ⟨g1, 0, none⟩), Value.pointer (some ⟨g2, 0, none⟩), Value.pointer (some ⟨g3, 0, none⟩), Value.pointer (some ⟨gk, 0, none⟩), Value.int .i64 (nth a1 x), Value.pointer (some ⟨gp, 0, none⟩), zz, zy, Value.bool false, Value.int .i64 a2, Value.int .u64 (u : Int), Value.int .u64 (kk : Int), Value.int .i64 (kk : Int), Value.int .i64 (M : Int), Value.int .i64 a0, Value.int .i64 a1, Value.func (Fn.func 64) #[] #[Value.pointer (some ⟨gk + 1 + 1, 0, none⟩), Value.pointer (some ⟨gk + 1, 0, none⟩)], Value.int .i64 (nth a1 x), Value.agg (arr8 (drawOf a0 (nth a1 x))), undef, undef, undef, undef, undef, undef, undef, undef, undef, undef, undef, undef, undef, undef, undef, undef, undef, undef, undef, undef, undef, undef, undef, undef, undef, undef, undef, undef, undef], defers := [] })
      (fun O' pre x a' => ownFrom_of fun s X X' hs hc => ⟨⟨hs.1.1.calm hc hz5, hs.1.2⟩, hs.2.1, hs.2.2.1, by obtain ⟨gp, h2, h3⟩ := hs.2.2.2; exact ⟨gp, hc.blk h2, h3⟩⟩) ?_ ?_ ?_ ?_
  · rintro l' O' pre x W' K ⟨st, hlt⟩ ⟨hx1, hx2⟩ hK
    have HX1 := Lib.hid hx1
    clear hx1
    simp only [fold_two, List.setIfInBounds_toArray, List.set_cons_succ, List.set_cons_zero]
    refine wpIn_seq_k fun K' hK' => ?_
    have HK' := Lib.hid hK'
    clear hK'
    gi_wp2
    refine HK'.out _ _ ?_
    refine wpIn_region_of (free_rd l') rfl (fun ⟨_, _, h⟩ => h) ?_
    refine wpList_alloc_agg rfl 40 rfl (arr8 (z8' 32)) zero44 ?_
    refine wpList_store8 rfl 40 (.tmp 9) (.tmp 22) rfl W'.heap.size rfl (drawOf a0 (nth a1 x)) rfl agg44 (len_drawOf _ _) _ _ (Blk.new _ _ _) (by rw [size_arr8, len_z8']) ?_
    intro W5 hb5 hg5 hs5
    have hbb : Below W'.heap.size W' W5 := ((Below.refl _ _).alloc (Nat.le_refl _) _).grown hg5 (by simp) (fun k hk => by cases hk; exact Nat.le_refl _)
    refine hK O' _ _ (Kept.below hbb) ⟨⟨st.on hbb, hlt⟩, HX1.out, hx2, W'.heap.size, hb5, ?_⟩
    rfl
  · rintro l' O' pre x a' W' ⟨⟨st, hlt⟩, hx1, hx2, gp, hbp, rfl⟩
    rw [← hx1] at st hlt
    have hne : gp ≠ gk := fun e => by
      have h1 := st.bk
      rw [← e, Blk, show W'.heap[gp]? = _ from hbp] at h1
      simp at h1
    have hx0 : (0 : Int) ≤ (x : Int) := by omega
    have hxb : (x : Int) ≤ 4096 := by omega
    have HX1 := Lib.hid hx1
    have HST := Lib.hid st
    have hld := len_drawOf a0 (nth a1 x)
    obtain ⟨dd, hdd⟩ : ∃ dd, dd = drawOf a0 (nth a1 x) := ⟨_, rfl⟩
    rw [← hdd] at hbp hld ⊢
    have HDD := Lib.hid hdd
    clear hdd
    clear hx1 st
    gi_wp2
    refine wpIn_region_rel (free_rd l') rfl 21 (fun W W' => Below W.heap.size W W') (fun W => Below W'.heap.size W' W)
      [Det (.int .i64 (nth a1 x)), Det (.int .i64 a1), Det (.int .i64 (x : Int)), Det (.int .i64 (nth a1 x)), Det (.bool false), Det (.bool false), Det (.agg (arr8 dd)), Det (.int .i64 a0), Det (.int .i64 a1), Det (.int .i64 (x : Int)), Det (.int .i64 (nth a1 x)), Det (.agg (arr8 dd)), Det (.bool false), Det (.bool false), Det (.bool false), Det (.agg (arr8 dd)), Det (.int .i64 a0), Det (.int .i64 (nth a1 x)), Det (.agg (arr8 dd)), Det (.bool false), Det (.bool false)]
      [[], [], [], [(1, some 24), (2, some 25)], [(0, some 23), (3, some 26)], [(4, some 27)], [(5, some 28)], [(5, some 28)], [(5, some 28)], [(5, some 28)], [(8, some 31), (9, some 32), (5, some 28)], [(7, some 30), (10, some 33), (5, some 28)], [(6, some 29), (11, some 34), (5, some 28)], [(5, some 28), (12, some 35)], [(13, some 36)], [(14, some 37)], [(14, some 37)], [(14, some 37)], [(16, some 39), (17, some 40), (14, some 37)], [(15, some 38), (18, some 41), (14, some 37)], [(14, some 37), (19, some 42)]]
      [[], [], [], [1, 2], [0, 1, 2, 3], [0, 1, 2, 3, 4], [0, 1, 2, 3, 4, 5], [0, 1, 2, 3, 4, 5], [0, 1, 2, 3, 4, 5], [0, 1, 2, 3, 4, 5], [0, 1, 2, 3, 4, 5, 8, 9], [0, 1, 2, 3, 4, 5, 7, 8, 9, 10], [0, 1, 2, 3, 4, 5, 6, 7, 8, 9, 10, 11], [0, 1, 2, 3, 4, 5, 6, 7, 8, 9, 10, 11, 12], [0, 1, 2, 3, 4, 5, 6, 7, 8, 9, 10, 11, 12, 13], [0, 1, 2, 3, 4, 5, 6, 7, 8, 9, 10, 11, 12, 13, 14], [0, 1, 2, 3, 4, 5, 6, 7, 8, 9, 10, 11, 12, 13, 14], [0, 1, 2, 3, 4, 5, 6, 7, 8, 9, 10, 11, 12, 13, 14], [0, 1, 2, 3, 4, 5, 6, 7, 8, 9, 10, 11, 12, 13, 14, 16, 17], [0, 1, 2, 3, 4, 5, 6, 7, 8, 9, 10, 11, 12, 13, 14, 15, 16, 17, 18], [0, 1, 2, 3, 4, 5, 6, 7, 8, 9, 10, 11, 12, 13, 14, 15, 16, 17, 18, 19]]
      [(0, some 23), (1, some 24), (2, some 25), (3, some 26), (4, some 27), (5, some 28), (6, some 29), (7, some 30), (8, some 31), (9, some 32), (10, some 33), (11, some 34), (12, some 35), (13, some 36), (14, some 37), (15, some 38), (16, some 39), (17, some 40), (18, some 41), (19, some 42), (20, some 43)] (by kernel_rfl) (by kernel_rfl) (by kernel_rfl) (fun W W' h1 h2 => h1.trans (h2.mono h1.size)) ((Below.refl _ _).drew) ?_ ?_ ?_
    · exact (AllMono.cons Det.later (AllMono.cons Det.later (AllMono.cons Det.later (AllMono.cons Det.later (AllMono.cons Det.later (AllMono.cons Det.later (AllMono.cons Det.later (AllMono.cons Det.later (AllMono.cons Det.later (AllMono.cons Det.later (AllMono.cons Det.later (AllMono.cons Det.later (AllMono.cons Det.later (AllMono.cons Det.later (AllMono.cons Det.later (AllMono.cons Det.later (AllMono.cons Det.later (AllMono.cons Det.later (AllMono.cons Det.later (AllMono.cons Det.later (AllMono.cons Det.later AllMono.nil)))))))))))))))))))))
    · refine AllOb.cons ?_ (AllOb.cons ?_ (AllOb.cons ?_ (AllOb.cons ?_ (AllOb.cons ?_ (AllOb.cons ?_ (AllOb.cons ?_ (AllOb.cons ?_ (AllOb.cons ?_ (AllOb.cons ?_ (AllOb.cons ?_ (AllOb.cons ?_ (AllOb.cons ?_ (AllOb.cons ?_ (AllOb.cons ?_ (AllOb.cons ?_ (AllOb.cons ?_ (AllOb.cons ?_ (AllOb.cons ?_ (AllOb.cons ?_ (AllOb.cons ?_ (AllOb.nil)))))))))))))))))))))
      · intro uF W hC' hU aF hF
        have hC : Below W'.heap.size W' W := hC'
        clear hC'
        simp only [puts] at hF
        subst hF
        go_wp2_with (fail)
        exact ⟨rfl, rfl, (Below.refl _ _), rfl⟩
      · intro uF W hC' hU aF hF
        have hC : Below W'.heap.size W' W := hC'
        clear hC'
        simp only [puts] at hF
        subst hF
        have d1 : W.cell? ⟨g1, 0, none⟩ = some (.int .i64 a1) := by rw [(HST.out.on hC).b1.cell]; rfl
        go_wp2_with (fail)
        exact ⟨rfl, rfl, (Below.refl _ _), rfl⟩
      · intro uF W hC' hU aF hF
        have hC : Below W'.heap.size W' W := hC'
        clear hC'
        simp only [puts] at hF
        subst hF
        have d1 : W.cell? ⟨gk, 0, none⟩ = some (.int .i64 (x : Int)) := by rw [(HST.out.on hC).bk.cell]; rfl
        go_wp2_with (fail)
        exact ⟨rfl, rfl, (Below.refl _ _), rfl⟩
      · intro uF W hC' hU aF hF
        have hC : Below W'.heap.size W' W := hC'
        clear hC'
        have h24 : (Det (.int .i64 a1)) (uF 1) W := hU.1
        have h25 : (Det (.int .i64 (x : Int))) (uF 2) W := hU.2.1
        clear hU
        simp only [puts, Act.put, List.setIfInBounds_toArray, List.set_cons_zero, List.set_cons_succ] at hF
        generalize uF 1 = x24 at h24 hF
        generalize uF 2 = x25 at h25 hF
        obtain rfl : x24 = (.int .i64 a1) := h24
        obtain rfl : x25 = (.int .i64 (x : Int)) := h25
        subst hF
        go_wp2_with (fail)
        exact ⟨rfl, rfl, (Below.refl _ _), rfl⟩
      · intro uF W hC' hU aF hF
        have hC : Below W'.heap.size W' W := hC'
        clear hC'
        have h23 : (Det (.int .i64 (nth a1 x))) (uF 0) W := hU.1
        have h26 : (Det (.int .i64 (nth a1 x))) (uF 3) W := hU.2.1
        clear hU
        simp only [puts, Act.put, List.setIfInBounds_toArray, List.set_cons_zero, List.set_cons_succ] at hF
        generalize uF 0 = x23 at h23 hF
        generalize uF 3 = x26 at h26 hF
        obtain rfl : x23 = (.int .i64 (nth a1 x)) := h23
        obtain rfl : x26 = (.int .i64 (nth a1 x)) := h26
        subst hF
        go_wp2_with (fail)
        exact ⟨rfl, rfl, (Below.refl _ _), rfl⟩
      · intro uF W hC' hU aF hF
        have hC : Below W'.heap.size W' W := hC'
        clear hC'
        have h27 : (Det (.bool false)) (uF 4) W := hU.1
        clear hU
        simp only [puts, Act.put, List.setIfInBounds_toArray, List.set_cons_zero, List.set_cons_succ] at hF
        generalize uF 4 = x27 at h27 hF
        obtain rfl : x27 = (.bool false) := h27
        subst hF
        go_wp2_with (fail)
        exact ⟨rfl, rfl, (Below.refl _ _), rfl⟩
      · intro uF W hC' hU aF hF
        have hC : Below W'.heap.size W' W := hC'
        clear hC'
        have h28 : (Det (.bool false)) (uF 5) W := hU.1
        clear hU
        simp only [puts, Act.put, List.setIfInBounds_toArray, List.set_cons_zero, List.set_cons_succ] at hF
        generalize uF 5 = x28 at h28 hF
        obtain rfl : x28 = (.bool false) := h28
        subst hF
        go_wp2_with (((with_reducible show wpList _ _ _ (Oper.mk _ (Op.load 40 _) _ _ _ _ :: _) _ _); refine wpList_load_whole (by rfl) 40 (.tmp 9) rfl gp rfl (arr8 dd) agg44 (by rw [size_arr8, hld]) 40 (hbp.below hC hbp.lt) ?_))
        exact ⟨rfl, rfl, (Below.refl _ _), rfl⟩
      · intro uF W hC' hU aF hF
        have hC : Below W'.heap.size W' W := hC'
        clear hC'
        have h28 : (Det (.bool false)) (uF 5) W := hU.1
        clear hU
        simp only [puts, Act.put, List.setIfInBounds_toArray, List.set_cons_zero, List.set_cons_succ] at hF
        generalize uF 5 = x28 at h28 hF
        obtain rfl : x28 = (.bool false) := h28
        subst hF
        have d1 : W.cell? ⟨g0, 0, none⟩ = some (.int .i64 a0) := by rw [(HST.out.on hC).b0.cell]; rfl
        go_wp2_with (fail)
        exact ⟨rfl, rfl, (Below.refl _ _), rfl⟩
      · intro uF W hC' hU aF hF
        have hC : Below W'.heap.size W' W := hC'
        clear hC'
        have h28 : (Det (.bool false)) (uF 5) W := hU.1
        clear hU
        simp only [puts, Act.put, List.setIfInBounds_toArray, List.set_cons_zero, List.set_cons_succ] at hF
        generalize uF 5 = x28 at h28 hF
        obtain rfl : x28 = (.bool false) := h28
        subst hF
        have d1 : W.cell? ⟨g1, 0, none⟩ = some (.int .i64 a1) := by rw [(HST.out.on hC).b1.cell]; rfl
        go_wp2_with (fail)
        exact ⟨rfl, rfl, (Below.refl _ _), rfl⟩
      · intro uF W hC' hU aF hF
        have hC : Below W'.heap.size W' W := hC'
        clear hC'
        have h28 : (Det (.bool false)) (uF 5) W := hU.1
        clear hU
        simp only [puts, Act.put, List.setIfInBounds_toArray, List.set_cons_zero, List.set_cons_succ] at hF
        generalize uF 5 = x28 at h28 hF
        obtain rfl : x28 = (.bool false) := h28
        subst hF
        have d1 : W.cell? ⟨gk, 0, none⟩ = some (.int .i64 (x : Int)) := by rw [(HST.out.on hC).bk.cell]; rfl
        go_wp2_with (fail)
        exact ⟨rfl, rfl, (Below.refl _ _), rfl⟩
      · intro uF W hC' hU aF hF
        have hC : Below W'.heap.size W' W := hC'
        clear hC'
        have h31 : (Det (.int .i64 a1)) (uF 8) W := hU.1
        have h32 : (Det (.int .i64 (x : Int))) (uF 9) W := hU.2.1
        have h28 : (Det (.bool false)) (uF 5) W := hU.2.2.1
        clear hU
        simp only [puts, Act.put, List.setIfInBounds_toArray, List.set_cons_zero, List.set_cons_succ] at hF
        generalize uF 8 = x31 at h31 hF
        generalize uF 9 = x32 at h32 hF
        generalize uF 5 = x28 at h28 hF
        obtain rfl : x31 = (.int .i64 a1) := h31
        obtain rfl : x32 = (.int .i64 (x : Int)) := h32
        obtain rfl : x28 = (.bool false) := h28
        subst hF
        go_wp2_with (fail)
        exact ⟨rfl, rfl, (Below.refl _ _), rfl⟩
      · intro uF W hC' hU aF hF
        have hC : Below W'.heap.size W' W := hC'
        clear hC'
        have h30 : (Det (.int .i64 a0)) (uF 7) W := hU.1
        have h33 : (Det (.int .i64 (nth a1 x))) (uF 10) W := hU.2.1
        have h28 : (Det (.bool false)) (uF 5) W := hU.2.2.1
        clear hU
        simp only [puts, Act.put, List.setIfInBounds_toArray, List.set_cons_zero, List.set_cons_succ] at hF
        generalize uF 7 = x30 at h30 hF
        generalize uF 10 = x33 at h33 hF
        generalize uF 5 = x28 at h28 hF
        obtain rfl : x30 = (.int .i64 a0) := h30
        obtain rfl : x33 = (.int .i64 (nth a1 x)) := h33
        obtain rfl : x28 = (.bool false) := h28
        subst hF
        go_wp2_with ((go_at_call 42; refine (refdraw_c a0 (nth a1 x) x0 (nth_wf _ _) _).mono ?_; rintro e W1 ⟨rfl, hb⟩; rw [← HDD.out]))
        exact ⟨rfl, rfl, hb, rfl⟩
      · intro uF W hC' hU aF hF
        have hC : Below W'.heap.size W' W := hC'
        clear hC'
        have h29 : (Det (.agg (arr8 dd))) (uF 6) W := hU.1
        have h34 : (Det (.agg (arr8 dd))) (uF 11) W := hU.2.1
        have h28 : (Det (.bool false)) (uF 5) W := hU.2.2.1
        clear hU
        simp only [puts, Act.put, List.setIfInBounds_toArray, List.set_cons_zero, List.set_cons_succ] at hF
        generalize uF 6 = x29 at h29 hF
        generalize uF 11 = x34 at h34 hF
        generalize uF 5 = x28 at h28 hF
        obtain rfl : x29 = (.agg (arr8 dd)) := h29
        obtain rfl : x34 = (.agg (arr8 dd)) := h34
        obtain rfl : x28 = (.bool false) := h28
        subst hF
        have he := eq44 dd dd hld hld true (by simp)
        have hgd := guard44
        go_wp2_with (fail)
        exact ⟨rfl, rfl, (Below.refl _ _), rfl⟩
      · intro uF W hC' hU aF hF
        have hC : Below W'.heap.size W' W := hC'
        clear hC'
        have h28 : (Det (.bool false)) (uF 5) W := hU.1
        have h35 : (Det (.bool false)) (uF 12) W := hU.2.1
        clear hU
        simp only [puts, Act.put, List.setIfInBounds_toArray, List.set_cons_zero, List.set_cons_succ] at hF
        generalize uF 5 = x28 at h28 hF
        generalize uF 12 = x35 at h35 hF
        obtain rfl : x28 = (.bool false) := h28
        obtain rfl : x35 = (.bool false) := h35
        subst hF
        go_wp2_with (fail)
        exact ⟨rfl, rfl, (Below.refl _ _), rfl⟩
      · intro uF W hC' hU aF hF
        have hC : Below W'.heap.size W' W := hC'
        clear hC'
        have h36 : (Det (.bool false)) (uF 13) W := hU.1
        clear hU
        simp only [puts, Act.put, List.setIfInBounds_toArray, List.set_cons_zero, List.set_cons_succ] at hF
        generalize uF 13 = x36 at h36 hF
        obtain rfl : x36 = (.bool false) := h36
        subst hF
        go_wp2_with (fail)
        exact ⟨rfl, rfl, (Below.refl _ _), rfl⟩
      · intro uF W hC' hU aF hF
        have hC : Below W'.heap.size W' W := hC'
        clear hC'
        have h37 : (Det (.bool false)) (uF 14) W := hU.1
        clear hU
        simp only [puts, Act.put, List.setIfInBounds_toArray, List.set_cons_zero, List.set_cons_succ] at hF
        generalize uF 14 = x37 at h37 hF
        obtain rfl : x37 = (.bool false) := h37
        subst hF
        go_wp2_with (((with_reducible show wpList _ _ _ (Oper.mk _ (Op.load 40 _) _ _ _ _ :: _) _ _); refine wpList_load_whole (by rfl) 40 (.tmp 9) rfl gp rfl (arr8 dd) agg44 (by rw [size_arr8, hld]) 40 (hbp.below hC hbp.lt) ?_))
        exact ⟨rfl, rfl, (Below.refl _ _), rfl⟩
      · intro uF W hC' hU aF hF
        have hC : Below W'.heap.size W' W := hC'
        clear hC'
        have h37 : (Det (.bool false)) (uF 14) W := hU.1
        clear hU
        simp only [puts, Act.put, List.setIfInBounds_toArray, List.set_cons_zero, List.set_cons_succ] at hF
        generalize uF 14 = x37 at h37 hF
        obtain rfl : x37 = (.bool false) := h37
        subst hF
        have d1 : W.cell? ⟨g0, 0, none⟩ = some (.int .i64 a0) := by rw [(HST.out.on hC).b0.cell]; rfl
        go_wp2_with (fail)
        exact ⟨rfl, rfl, (Below.refl _ _), rfl⟩
      · intro uF W hC' hU aF hF
        have hC : Below W'.heap.size W' W := hC'
        clear hC'
        have h37 : (Det (.bool false)) (uF 14) W := hU.1
        clear hU
        simp only [puts, Act.put, List.setIfInBounds_toArray, List.set_cons_zero, List.set_cons_succ] at hF
        generalize uF 14 = x37 at h37 hF
        obtain rfl : x37 = (.bool false) := h37
        subst hF
        go_wp2_with (fail)
        exact ⟨rfl, rfl, (Below.refl _ _), rfl⟩
      · intro uF W hC' hU aF hF
        have hC : Below W'.heap.size W' W := hC'
        clear hC'
        have h39 : (Det (.int .i64 a0)) (uF 16) W := hU.1
        have h40 : (Det (.int .i64 (nth a1 x))) (uF 17) W := hU.2.1
        have h37 : (Det (.bool false)) (uF 14) W := hU.2.2.1
        clear hU
        simp only [puts, Act.put, List.setIfInBounds_toArray, List.set_cons_zero, List.set_cons_succ] at hF
        generalize uF 16 = x39 at h39 hF
        generalize uF 17 = x40 at h40 hF
        generalize uF 14 = x37 at h37 hF
        obtain rfl : x39 = (.int .i64 a0) := h39
        obtain rfl : x40 = (.int .i64 (nth a1 x)) := h40
        obtain rfl : x37 = (.bool false) := h37
        subst hF
        go_wp2_with ((go_at_call 43; refine (draw_c a0 (nth a1 x) _).mono ?_; rintro e W1 ⟨rfl, hb⟩; rw [← HDD.out]))
        exact ⟨rfl, rfl, hb, rfl⟩
      · intro uF W hC' hU aF hF
        have hC : Below W'.heap.size W' W := hC'
        clear hC'
        have h38 : (Det (.agg (arr8 dd))) (uF 15) W := hU.1
        have h41 : (Det (.agg (arr8 dd))) (uF 18) W := hU.2.1
        have h37 : (Det (.bool false)) (uF 14) W := hU.2.2.1
        clear hU
        simp only [puts, Act.put, List.setIfInBounds_toArray, List.set_cons_zero, List.set_cons_succ] at hF
        generalize uF 15 = x38 at h38 hF
        generalize uF 18 = x41 at h41 hF
        generalize uF 14 = x37 at h37 hF
        obtain rfl : x38 = (.agg (arr8 dd)) := h38
        obtain rfl : x41 = (.agg (arr8 dd)) := h41
        obtain rfl : x37 = (.bool false) := h37
        subst hF
        have he := eq44 dd dd hld hld true (by simp)
        have hgd := guard44
        go_wp2_with (fail)
        exact ⟨rfl, rfl, (Below.refl _ _), rfl⟩
      · intro uF W hC' hU aF hF
        have hC : Below W'.heap.size W' W := hC'
        clear hC'
        have h37 : (Det (.bool false)) (uF 14) W := hU.1
        have h42 : (Det (.bool false)) (uF 19) W := hU.2.1
        clear hU
        simp only [puts, Act.put, List.setIfInBounds_toArray, List.set_cons_zero, List.set_cons_succ] at hF
        generalize uF 14 = x37 at h37 hF
        generalize uF 19 = x42 at h42 hF
        obtain rfl : x37 = (.bool false) := h37
        obtain rfl : x42 = (.bool false) := h42
        subst hF
        go_wp2_with (fail)
        exact ⟨rfl, rfl, (Below.refl _ _), rfl⟩
    intro uF W6 hC' hU aF hF
    have hCW6 : Below W'.heap.size W' W6 := hC'
    clear hC'
    have h43 : (Det (.bool false)) (uF 20) W6 := hU.2.2.2.2.2.2.2.2.2.2.2.2.2.2.2.2.2.2.2.2.1
    clear hU
    simp only [List.take_succ_cons, List.take_zero, puts, Act.put, List.setIfInBounds_toArray, List.set_cons_zero, List.set_cons_succ] at hF
    generalize uF 0 = x23 at hF
    generalize uF 1 = x24 at hF
    generalize uF 2 = x25 at hF
    generalize uF 3 = x26 at hF
    generalize uF 4 = x27 at hF
    generalize uF 5 = x28 at hF
    generalize uF 6 = x29 at hF
    generalize uF 7 = x30 at hF
    generalize uF 8 = x31 at hF
    generalize uF 9 = x32 at hF
    generalize uF 10 = x33 at hF
    generalize uF 11 = x34 at hF
    generalize uF 12 = x35 at hF
    generalize uF 13 = x36 at hF
    generalize uF 14 = x37 at hF
    generalize uF 15 = x38 at hF
    generalize uF 16 = x39 at hF
    generalize uF 17 = x40 at hF
    generalize uF 18 = x41 at hF
    generalize uF 19 = x42 at hF
    generalize uF 20 = x43 at h43 hF
    obtain rfl : x43 = (.bool false) := h43
    subst hF
    simp only [List.drop_succ_cons, List.drop_zero]
    have st6 := HST.out.on hCW6
    have dx : W6.cell? ⟨gk, 0, none⟩ = some (.int .i64 (x : Int)) := by rw [st6.bk.cell]; rfl
    have fx : W6.frozen? ⟨gk, 0, none⟩ = false := st6.bk.frozen 0
    obtain ⟨V, hV⟩ : ∃ V, V = W6.setCell ⟨gk, 0, none⟩ (.int .i64 ((x : Int) + 1)) := ⟨_, rfl⟩
    have stV : St w g0 g1 g2 g3 gk a0 a1 M O' (x + 1) V := by rw [hV]; exact st6.step hwg
    have hk6 : Kept O' O' W' V := by rw [hV]; exact (Kept.below hCW6).trans (Kept.setCell st6.own 0 _)
    have d8 : V.cell? ⟨gk, 0, none⟩ = some (.int .i64 ((x : Int) + 1)) := by rw [stV.bk.cell]; rfl
    have d5 : V.cell? ⟨g2, 0, none⟩ = some (.int .i64 (M : Int)) := by rw [stV.b2.cell]; rfl
    rw [hV] at d8 d5
    have HV6 := Lib.hid hV
    have hpl : (pre ++ [x]).length = x + 1 := by rw [List.length_append, List.length_cons, List.length_nil, HX1.out]
    have HPL := Lib.hid hpl
    have HS6 := Lib.hid stV
    have HK6 := Lib.hid hk6
    clear hpl stV hk6 hbp hV st6 HST
    by_cases heq : x + 1 = M
    · have hei : (x : Int) + 1 = (M : Int) := by omega
      have e9 := HV6.out
      rw [hei] at d8 d5 e9
      have HV7 := Lib.hid e9
      clear e9
      gi_wp2
      rw [← HV7.out]
      exact ⟨HK6.out.from_ _, rfl, ⟨O', by rw [HPL.out]; exact HS6.out⟩, by rw [HPL.out]; exact heq⟩
    · have hei : ¬ (x : Int) + 1 = (M : Int) := by omega
      gi_wp2
      rw [← HV6.out]
      exact ⟨O', HK6.out, by rw [HPL.out]; exact HS6.out, by rw [HPL.out]; omega⟩
  · rintro D O' xs W' hD rfl ⟨st, hlt⟩ hK
    rw [len_upTo] at hlt
    omega
  · rintro D c pre W' hD ⟨k, hk, rfl⟩ ⟨rfl, ⟨O', st⟩, hpl⟩ hK
    rw [hpl] at st
    clear hk hpl
    have d8 : W'.cell? ⟨gk, 0, none⟩ = some (.int .i64 (M : Int)) := by rw [st.bk.cell]; rfl
    have d5 : W'.cell? ⟨g2, 0, none⟩ = some (.int .i64 (M : Int)) := by rw [st.b2.cell]; rfl
    have d6 : W'.cell? ⟨g3, 0, none⟩ = some (.bool false) := by rw [st.b3.cell]; rfl
    have f6 : W'.frozen? ⟨g3, 0, none⟩ = false := st.b3.frozen 0
    have hDn : D ≠ g3 := fun e => by have := st.b3; rw [← e, Blk, hK] at this; cases this
    have HST := Lib.hid st
    have HKK := Lib.hid hK
    have hg3w : w.heap.size ≤ g3 := by omega
    clear st hK
    go_wp2_with fail
    have hb3' : Blk (W'.setCell ⟨g3, 0, none⟩ (.bool true)) g3 4 #[.bool true] := by simpa using HST.out.b3.set_ 0 (.bool true)
    have hD' : (W'.setCell ⟨g3, 0, none⟩ (.bool true)).heap[D]? = some (.deferred (some [])) := (Below.heap_setCell _ _ _ _ hDn).trans HKK.out
    refine ⟨by simp, .inl ⟨_, _, rfl, run_takeDeferred hD', ?_⟩⟩
    refine ⟨_, res_bool rfl _ g3 4 true Try.underlying4 rfl ((World.putObj_heap_other (Ne.symm hDn)).trans hb3'), rfl, ?_⟩
    exact (calm_putObj (B := w.heap.size) _ (Nat.le_trans hz5 hD) hD' rfl).below (HST.out.below.setCell hg3w _) (Nat.le_refl _) (Nat.le_refl _)
end Go.Proofs.Ytbjiokjmidipaaa.chapDraws

