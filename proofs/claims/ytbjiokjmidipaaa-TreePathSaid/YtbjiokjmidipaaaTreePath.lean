/-
  TreePath: which numbers a block's path has.
-/
import Derived.Test.YtbjiokjmidipaaaRefUpd
namespace Go.Proofs.Ytbjiokjmidipaaa.treePath
open Go.RowKit Go.Shelf
set_option linter.unusedVariables false
set_option linter.unusedSimpArgs false
set_option maxRecDepth 100000

attribute [local go_sem] Oper.semAt_some
theorem wrap_u64_nn (x : Int) : 0 ≤ IntKind.u64.wrap x := by rw [wrap_u64]; omega
theorem res_bool {P : Program} {w : World} {fn : Func} {p : Tmp} {ty : TypeId} (hr : fn.results = #[.cell p ty]) (tmps : Array Value) (g : Nat) (tb : TypeId) (b : Bool) (ht : P.underlying ty = some .bool)
    (hp : tmps.getD p undef = .pointer (some ⟨g, 0, none⟩)) (hb : Blk w g tb #[.bool b]) : (results fn tmps).run P w = .ok (.bool b) w := by
  have hp' : tmps[p]?.getD undef = .pointer (some ⟨g, 0, none⟩) := by simpa using hp
  have hc : w.cell? ⟨g, 0, none⟩ = some (.bool b) := by rw [hb.cell]; rfl
  simp [results, hr, hp', asAddr, loadVar, isAgg, run_underlying ht, hc]
theorem refpath_any (b : Int) (w : World) : Calls Try.prog 30 #[.int .i64 b] w fun e w' => ∃ A c, e = .returned (.slice A (pathLen b) c) ∧ Row w' w.heap.size 3 1 A (pathLen b) c (pathV b (pathLen b)) ∧ Below w.heap.size w w' := by
  by_cases hb : 0 ≤ b ∧ b < 16
  · refine (refpath_c b hb w).mono ?_
    rintro e w' ⟨g, c, rfl, h, hw⟩
    rw [pathLen, if_pos hb]
    exact ⟨_, c, rfl, h, hw⟩
  · refine (refpath_bad b hb w).mono ?_
    rintro e w' ⟨rfl, rfl⟩
    rw [pathLen, if_neg hb]
    exact ⟨none, 0, rfl, Row.nil _ _ _ _ _, Below.refl _ _⟩
theorem pathLen_le (b : Int) : pathLen b ≤ 5 := by unfold pathLen; split <;> omega

/-- What stands while the loops run: k numbers have come. -/
structure St (w : World) (g3 g4 g7 gk np c : Nat) (A : Option Addr) (b : Int) (M : Nat) (O : Nat → Prop) (k : Nat) (W : World) : Prop where
  n3 : ¬ O g3
  n4 : ¬ O g4
  n7 : ¬ O g7
  nr : ∀ g, wrote A c = some g → ¬ O g
  b3 : Blk W g3 3 #[.int .i64 (M : Int)]
  b4 : Blk W g4 4 #[.bool false]
  b7 : Blk W g7 52 #[.slice A np c]
  row : Row W w.heap.size 3 1 A np c (pathV b np)
  bk : Blk W gk 3 #[.int .i64 (k : Int)]
  below : Below w.heap.size w W
section
variable {w : World} {g3 g4 g7 gk np c : Nat} {A : Option Addr} {b : Int} {M : Nat} {O : Nat → Prop} {k : Nat} {W W' : World}
theorem St.calm {B : Nat} (h : St w g3 g4 g7 gk np c A b M O k W) (hc : Calm B W W') (hB : w.heap.size ≤ B) : St w g3 g4 g7 gk np c A b M O k W' :=
  ⟨h.n3, h.n4, h.n7, h.nr, hc.blk h.b3, hc.blk h.b4, hc.blk h.b7, hc.row h.row, hc.blk h.bk, hc.below h.below hB (Nat.le_refl _)⟩
theorem St.on (h : St w g3 g4 g7 gk np c A b M O k W) (hb : Below W.heap.size W W') : St w g3 g4 g7 gk np c A b M O k W' :=
  ⟨h.n3, h.n4, h.n7, h.nr, h.b3.below hb h.b3.lt, h.b4.below hb h.b4.lt, h.b7.below hb h.b7.lt, h.row.below hb, h.bk.below hb h.bk.lt, h.below.trans (hb.mono h.below.size)⟩
theorem St.mono {O' : Nat → Prop} (h : St w g3 g4 g7 gk np c A b M O k W) (ho : ∀ g, O' g → g = W.heap.size) : St w g3 g4 g7 gk np c A b M O' k W :=
  ⟨fun e => by have := h.b3.lt; have := ho _ e; omega, fun e => by have := h.b4.lt; have := ho _ e; omega, fun e => by have := h.b7.lt; have := ho _ e; omega, fun g e e2 => by
    rcases Row.wrote_lt h.row with h1 | ⟨g', _, h1, _, hlt, _⟩
    · rw [h1] at e; cases e
    · rw [h1] at e; cases e
      have := ho _ e2; omega, h.b3, h.b4, h.b7, h.row, h.bk, h.below⟩
theorem St.step (h : St w g3 g4 g7 gk np c A b M O k W) (ho : O gk) (hw : w.heap.size ≤ gk) : St w g3 g4 g7 gk np c A b M O (k + 1) (W.setCell ⟨gk, 0, none⟩ (.int .i64 ((k : Int) + 1))) := by
  have ne : ∀ {g : Nat}, ¬ O g → g ≠ gk := fun hg e => hg (e ▸ ho)
  refine ⟨h.n3, h.n4, h.n7, h.nr, h.b3.far (ne h.n3) _, h.b4.far (ne h.n4) _, h.b7.far (ne h.n7) _, ?_, ?_, h.below.setCell hw _⟩
  · exact Row.keepRow h.row (grownBy_setCell _ gk 0 _) (.inr (fun e => ne (h.nr _ e) rfl))
  · have := h.bk.set_ 0 (.int .i64 ((k : Int) + 1))
    simpa using this
end

theorem calm_heap {B k : Nat} {W W' : World} {o : Obj} (hc : Calm B W W') (hk : k < B) (h : W.heap[k]? = some o) : W'.heap[k]? = some o := by
  obtain ⟨row, hg, hr⟩ := hc
  exact (hg.block k (Array.getElem?_eq_some_iff.1 h).1 (fun e => by have := (hr k e.symm).1; omega)).trans h
theorem zs_sl (w : World) : SlS (w.alloc (.cells (arr8 zs16) 40)) (w.heap.size + 1) (some ⟨w.heap.size, 0, none⟩) 16 16 zs16 :=
  ⟨by simp [len_zs16], Nat.le_refl _, by simp [maxLen], fun _ => ⟨w.heap.size, 0, rfl, by simp, fun j u hu => by
    rw [(Blk.new w 40 (arr8 zs16)).cell, Nat.zero_add]
    simpa [arr8] using hu⟩⟩

set_option maxHeartbeats 4000000 in
theorem walk (b a1 : Int) (w : World) (x0 : (Lit.int .i64 b).wf = true) (x1 : (Lit.int .i64 a1).wf = true) :
    Calls Try.prog 9 #[.int .i64 b, .int .i64 a1] w fun e w' => e = .returned (.bool true) ∧ Below w.heap.size w w' := by
  obtain ⟨g3, hg3⟩ : ∃ g, g = w.heap.size := ⟨_, rfl⟩
  obtain ⟨g4, hg4⟩ : ∃ g, g = w.heap.size + 1 := ⟨_, rfl⟩
  obtain ⟨v1, hv1⟩ : ∃ v1, v1 = (w.alloc (.cells #[.int .i64 a1] 3)).alloc (.cells #[.bool false] 4) := ⟨_, rfl⟩
  have m1 : Blk v1 g3 3 #[.int .i64 a1] := by rw [hv1, hg3]; exact (Blk.new _ _ _).alloc _
  have r1 : Blk v1 g4 4 #[.bool false] := by
    have := Blk.new (w.alloc (.cells #[.int .i64 a1] 3)) 4 #[.bool false]
    rw [World.size_alloc] at this
    rw [hv1, hg4]; exact this
  have hb1 : Below w.heap.size w v1 := by rw [hv1]; exact ((Below.refl _ _).alloc (Nat.le_refl _) _).alloc (by simp) _
  have hz1 := hb1.size
  have hD0 : g3 < g4 ∧ w.heap.size ≤ g3 := by omega
  have hg4v := r1.lt
  have HV := Lib.hid hv1
  have HZV := Lib.hid (show w.heap.size + 1 + 1 = v1.heap.size by rw [hv1]; simp)
  have HG3 := Lib.hid hg3
  have HG4 := Lib.hid hg4
  have hmk := make16
  have hal := below_alloc v1 (.cells (arr8 zs16) 40)
  obtain ⟨u, hu⟩ : ∃ u : Nat, IntKind.u64.wrap a1 = (u : Int) := ⟨(IntKind.u64.wrap a1).toNat, by rw [Int.toNat_of_nonneg (wrap_u64_nn _)]⟩
  obtain ⟨kk, hkk⟩ : ∃ kk : Nat, kk = u % 7 := ⟨_, rfl⟩
  obtain ⟨M, hM⟩ : ∃ M : Nat, M = 1 + kk := ⟨_, rfl⟩
  have hM1 : 1 ≤ M := by omega
  have hM6 : M ≤ 7 := by omega
  have htm : ((u : Int)).tmod 7 = (kk : Int) := by rw [Int.tmod_eq_emod_of_nonneg (by omega)]; omega
  have hmd : (u : Int) % 7 = (kk : Int) := by omega
  have hMi : 1 + (kk : Int) = (M : Int) := by omega
  have hu6 : (kk : Int) < 7 := by omega
  have hu0 : (0 : Int) ≤ (kk : Int) := by omega
  clear hkk hM hv1 hg3 hg4
  refine calls_of_wp_marks Try.func9 rfl ?_
  simp only [Try.ntmps9, List.size_toArray, List.length_cons, List.length_nil, Nat.reduceAdd, Nat.reduceSub, Array.replicate_succ, Array.replicate_zero, List.push_toArray, List.append_toArray, List.nil_append, List.cons_append]
  go_wp2_with fail
  rw [HZV.out, ← HG4.out, ← HG3.out, ← HV.out]
  refine (build_c (SlB.nil (v1.alloc (.cells (arr8 zs16) 40)) 0 none) (Nat.zero_le _) (by omega) (zs_sl v1) (by simp)).mono ?_
  rintro e v2 ⟨g6, c6, rfl, h6, hb6⟩
  have h12 := hal.trans (hb6.mono hal.size)
  have m2 := m1.below h12 m1.lt
  have r2 := r1.below h12 r1.lt
  have hb02 := hb1.trans (h12.mono hz1)
  have hz2 := hb02.size
  obtain ⟨zz, hzz⟩ : ∃ zz, zz = Value.slice (some ⟨g6, 0, none⟩) 32 c6 := ⟨_, rfl⟩
  clear h6 hb6 h12 m1 r1 hal hmk
  go_wp2_with fail
  refine (refpath_any b v2).mono ?_
  rintro e v3 ⟨A, cp, rfl, h3, hb3⟩
  obtain ⟨np, hnp⟩ : ∃ np, np = pathLen b := ⟨_, rfl⟩
  rw [← hnp] at h3 ⊢
  have HNP := Lib.hid hnp
  have hnp5 : np ≤ 5 := by rw [hnp]; exact pathLen_le b
  obtain ⟨g7, hg7⟩ : ∃ g, g = v3.heap.size := ⟨_, rfl⟩
  obtain ⟨gk, hgk⟩ : ∃ g, g = v3.heap.size + 1 := ⟨_, rfl⟩
  obtain ⟨v4, hv4⟩ : ∃ v4, v4 = v3.alloc (.cells #[.slice A np cp] 52) := ⟨_, rfl⟩
  have h34 : Below v3.heap.size v3 v4 := by rw [hv4]; exact below_alloc _ _
  have h24 := hb3.trans (h34.mono hb3.size)
  have m4 := m2.below h24 m2.lt
  have r4 := r2.below h24 r2.lt
  have s4 : Blk v4 g7 52 #[.slice A np cp] := by rw [hv4, hg7]; exact Blk.new _ _ _
  have h4 := Row.base_le (h3.below h34) hz2
  have hb04 := hb02.trans (h24.mono hz2)
  have hz4 := hb04.size
  have hA7 : ∀ g, wrote A cp = some g → g < g7 ∧ g4 < g := fun g e => by
    rcases Row.wrote_lt h3 with h1 | ⟨g', _, h1, hgb, hlt, _⟩
    · rw [h1] at e; cases e
    · rw [h1] at e; cases e
      have := r2.lt
      omega
  have hm4 := m2.lt
  have hr4 := r2.lt
  have h23z := hb3.size
  have dn : v4.cell? ⟨g3, 0, none⟩ = some (.int .i64 a1) := by rw [m4.cell]; rfl
  have fn : v4.frozen? ⟨g3, 0, none⟩ = false := m4.frozen 0
  obtain ⟨v5, hv5⟩ : ∃ v5, v5 = v4.setCell ⟨g3, 0, none⟩ (.int .i64 (M : Int)) := ⟨_, rfl⟩
  have m5 : Blk v5 g3 3 #[.int .i64 (M : Int)] := by rw [hv5]; simpa using m4.set_ 0 (.int .i64 (M : Int))
  have r5 : Blk v5 g4 4 #[.bool false] := by rw [hv5]; exact r4.far (by show g4 ≠ g3; omega) _
  have s5 : Blk v5 g7 52 #[.slice A np cp] := by rw [hv5]; exact s4.far (by show g7 ≠ g3; omega) _
  have h5 : Row v5 w.heap.size 3 1 A np cp (pathV b np) := by
    rw [hv5]
    exact Row.keepRow h4 (grownBy_setCell _ g3 0 _) (.inr (fun e => by have := hA7 _ e; omega))
  have hb05 : Below w.heap.size w v5 := by rw [hv5]; exact hb04.setCell (by show w.heap.size ≤ g3; omega) _
  have hz5s : v5.heap.size = gk := by rw [hv5, hgk]; simp [World.setCell, hv4]
  obtain ⟨v6, hv6⟩ : ∃ v6, v6 = v5.alloc (.cells #[.int .i64 0] 3) := ⟨_, rfl⟩
  have k6 : Blk v6 gk 3 #[.int .i64 0] := by rw [hv6, ← hz5s]; exact Blk.new _ _ _
  have h56 : Below v5.heap.size v5 v6 := by rw [hv6]; exact below_alloc _ _
  obtain ⟨v7, hv7⟩ : ∃ v7, v7 = v6.alloc (.cells #[.int .i64 b] 3) := ⟨_, rfl⟩
  have h67 : Below v6.heap.size v6 v7 := by rw [hv7]; exact below_alloc _ _
  have B1 : Blk v7 v6.heap.size 3 #[.int .i64 b] := by rw [hv7]; exact Blk.new _ _ _
  have h57 := h56.trans (h67.mono h56.size)
  have hg7k : g7 < gk ∧ g4 < g7 := by omega
  have hz6s : v6.heap.size = gk + 1 := by rw [hv6, World.size_alloc, hz5s]
  have st7 : St w g3 g4 g7 gk np cp A b M (fun k => k = gk) 0 v7 := ⟨by omega, by omega, by omega, fun g e => by have := hA7 g e; omega, m5.below h57 m5.lt, r5.below h57 r5.lt, s5.below h57 s5.lt, h5.below h57, k6.below h67 k6.lt, hb05.trans (h57.mono hb05.size)⟩
  have hz7 := st7.below.size
  have hgkz : gk < v7.heap.size := st7.bk.lt
  have HV4 := Lib.hid hv4
  have HV5 := Lib.hid hv5
  have HV6 := Lib.hid hv6
  have HG7 := Lib.hid hg7
  have HGK := Lib.hid hgk
  have HZ6 := Lib.hid hz6s
  have hwk : w.heap.size ≤ gk := by omega
  rw [hv4] at dn fn
  have HV7 := Lib.hid hv7
  clear hv4 hv5 hv6 hv7 hg7 hgk hnp m2 r2 m4 r4 s4 h4 m5 r5 s5 h5 k6 h34 h24 h56 h67 h57 h3 hb3 hz6s hz5s hA7
  go_wp2_with fail
  rw [← HV4.out, ← HV5.out, ← HV6.out, ← HGK.out, ← HG7.out]
  refine (path_c b v6).mono ?_
  rintro e vx ⟨rfl, hvx⟩
  rw [hvx, ← HV7.out, HZ6.out, ← hzz]
  rw [HZ6.out] at B1
  clear hvx dn fn hzz
  go_wp2_with fail
  refine wp_range (O := fun k => k = gk) (a := _) rfl (enters_of Try.func59 (by kernel_rfl) rfl) (path_iter x0 B1) (Below.refl _ _) (fun _ => rfl) (fun k hk => ⟨by rw [hk]; omega, by rw [hk]; exact hgkz⟩)
    (fun O' pre W' => (St w g3 g4 g7 gk np cp A b M O' pre.length W' ∧ O' gk) ∧ pre.length < M)
    (fun c pre W' => c = .exit 0 ∧ (∃ O', St w g3 g4 g7 gk np cp A b M O' pre.length W') ∧ pre.length = M ∧ pre.length ≤ np) (fun O' => ownFrom_of fun s X X' hs hc => ⟨⟨hs.1.1.calm hc hz7, hs.1.2⟩, hs.2⟩) (fun c => ownFrom_of fun s X X' hs hc => ⟨hs.1, by obtain ⟨O', h⟩ := hs.2.1; exact ⟨O', h.calm hc hz7⟩, hs.2.2⟩) ⟨⟨st7, rfl⟩, hM1⟩
    (fun O' pre x a' W' => ((St w g3 g4 g7 gk np cp A b M O' pre.length W' ∧ O' gk) ∧ pre.length < M) ∧ x = pre.length ∧ x < np ∧ a' = { tmps := #[Value.int .i64 b, Value.int .i64 a1, undef, Value.pointer (some ⟨g3, 0, none⟩), Value.pointer (some ⟨g4, 0, none⟩), zz, Value.nilIface, Value.pointer (some ⟨g7, 0, none⟩), Value.pointer (some ⟨gk, 0, none⟩), Value.int .i64 (pathAt b x : Int), undef, Value.tuple #[zz, Value.nilIface], Value.slice (some ⟨v1.heap.size, 0, none⟩) 16 16, Value.tuple #[zz, Value.nilIface], zz, Value.nilIface, Value.nilIface, Value.bool false, Value.bool false, zz, Value.int .i64 32, Value.bool false, Value.bool false, Value.int .i64 b, Value.slice A np cp, Value.int .i64 a1, Value.int .u64 (u : Int), Value.int .u64 (kk : Int), Value.int .i64 (kk : Int), Value.int .i64 (M : Int), Value.int .i64 b, Value.func (Fn.func 59) #[] #[Value.pointer (some ⟨gk + 1, 0, none⟩)], Value.int .i64 (pathAt b x : Int), undef, undef, undef, undef, undef, undef, undef, undef, undef, undef, undef, undef, undef, undef, undef, undef, undef, undef, undef, undef, undef, undef, undef, undef, undef, undef, undef, undef, undef, undef, undef, undef, undef], defers := [] })
    (fun O' pre x a' => ownFrom_of fun s X X' hs hc => ⟨⟨⟨hs.1.1.1.calm hc hz7, hs.1.1.2⟩, hs.1.2⟩, hs.2⟩) ?_ ?_ ?_ ?_
  · rintro l' O' pre x W' K ⟨⟨st, ho⟩, hlt⟩ ⟨hx1, hx2⟩ hK
    have HX1 := Lib.hid hx1
    rw [← HNP.out] at hx2
    clear hx1
    simp only [fold_one, List.setIfInBounds_toArray, List.set_cons_succ, List.set_cons_zero]
    gi_wp2
    exact hK O' _ _ (Kept.refl _ _) ⟨⟨⟨st, ho⟩, hlt⟩, HX1.out, hx2, rfl⟩
  · rintro l' O' pre x a' W' ⟨⟨⟨st, ho⟩, hlt⟩, hx1, hx2, rfl⟩
    rw [← hx1] at st hlt
    obtain ⟨gp, cur, eA, hgp, hpb, hps, hpt⟩ := st.row.2.2.2 (by have := st.row.2.1; omega)
    subst eA
    have hpc : cur[x]? = some (.int .i64 (pathAt b x : Int)) := by
      have h1 : (cur.toList.take (np * 1))[x]? = cur[x]? := by rw [List.getElem?_take, if_pos (by omega)]; simp
      rw [hpt, pathV_get b hx2] at h1
      exact h1.symm
    have dk : W'.cell? ⟨gk, 0, none⟩ = some (.int .i64 (x : Int)) := by rw [st.bk.cell]; rfl
    have d7 : W'.cell? ⟨g7, 0, none⟩ = some (.slice (some ⟨gp, 0, none⟩) np cp) := by rw [st.b7.cell]; rfl
    have dp : W'.cell? ⟨gp, x, none⟩ = some (.int .i64 (pathAt b x : Int)) := by rw [hpb.cell, hpc]
    have fk : W'.frozen? ⟨gk, 0, none⟩ = false := st.bk.frozen 0
    have hcpm := st.row.2.2.1
    have hcpn := st.row.2.1
    obtain ⟨V, hV⟩ : ∃ V, V = W'.setCell ⟨gk, 0, none⟩ (.int .i64 ((x : Int) + 1)) := ⟨_, rfl⟩
    have stV : St w g3 g4 g7 gk np cp (some ⟨gp, 0, none⟩) b M O' (x + 1) V := by rw [hV]; exact st.step ho hwk
    have hkV : Kept O' O' W' V := by rw [hV]; exact Kept.setCell ho 0 _
    have d8 : V.cell? ⟨gk, 0, none⟩ = some (.int .i64 ((x : Int) + 1)) := by rw [stV.bk.cell]; rfl
    have d5 : V.cell? ⟨g3, 0, none⟩ = some (.int .i64 (M : Int)) := by rw [stV.b3.cell]; rfl
    rw [hV] at d8 d5
    have HVV := Lib.hid hV
    have hpl : (pre ++ [x]).length = x + 1 := by rw [List.length_append, List.length_cons, List.length_nil, hx1]
    have HPL := Lib.hid hpl
    have HS := Lib.hid stV
    have HKV := Lib.hid hkV
    have hx0 : (0 : Int) ≤ (x : Int) := by omega
    have hxb : (x : Int) < (np : Int) := by omega
    have hxb5 : (x : Int) ≤ 5 := by omega
    have hnb : (np : Int) ≤ 5 := by omega
    obtain ⟨i, hi⟩ : ∃ i, i = pathAt b x := ⟨_, rfl⟩
    rw [← hi] at dp ⊢
    have hne1 : ((i : Int) != (i : Int)) = false := by simp
    clear hpl stV hkV hV hx1 st hpb hpc hps hpt hi
    by_cases heq : x + 1 = M
    · have hei : (x : Int) + 1 = (M : Int) := by omega
      have e9 := HVV.out
      rw [hei] at d8 d5 e9
      have HV9 := Lib.hid e9
      clear e9
      gi_wp2
      rw [← HV9.out]
      exact ⟨HKV.out.from_ _, rfl, ⟨O', by simp only [HPL.out]; exact HS.out⟩, by rw [HPL.out]; exact heq, by rw [HPL.out]; omega⟩
    · have hei : ¬ (x : Int) + 1 = (M : Int) := by omega
      gi_wp2
      rw [← HVV.out]
      exact ⟨O', HKV.out, ⟨⟨by simp only [HPL.out]; exact HS.out, ho⟩, by rw [HPL.out]; omega⟩⟩
  · rintro D O' ys W' hD hys ⟨⟨st, _⟩, hlt⟩ hK
    rw [hys, len_upTo, ← HNP.out] at st hlt
    obtain ⟨kf, hkf, st⟩ : ∃ kf, kf = np ∧ St w g3 g4 g7 gk np cp A b M O' kf W' := ⟨np, rfl, st⟩
    have hmin : kf = min M np := by omega
    have HKF := Lib.hid hmin
    have hcm1 : (np : Int) < (M : Int) := by omega
    have HC2 := Lib.hid (show ((kf : Int) == (np : Int)) = true by rw [beq_iff_eq]; omega)
    clear hkf hmin hys
    have dk : W'.cell? ⟨gk, 0, none⟩ = some (.int .i64 (kf : Int)) := by rw [st.bk.cell]; rfl
    obtain ⟨gf, hgf⟩ : ∃ g, g = W'.heap.size := ⟨_, rfl⟩
    obtain ⟨va, hva⟩ : ∃ va, va = W'.alloc (.cells #[.int .i64 0] 3) := ⟨_, rfl⟩
    obtain ⟨vb, hvb⟩ : ∃ vb, vb = va.alloc (.cells #[.int .i64 5] 3) := ⟨_, rfl⟩
    have hWa : Below W'.heap.size W' va := by rw [hva]; exact below_alloc _ _
    have hab : Below va.heap.size va vb := by rw [hvb]; exact below_alloc _ _
    have hWb := hWa.trans (hab.mono hWa.size)
    have f2 : Blk vb gf 3 #[.int .i64 0] := (show Blk va gf 3 #[.int .i64 0] by rw [hva, hgf]; exact Blk.new _ _ _).below hab (by rw [hva, hgf]; simp)
    have C1 : Blk vb va.heap.size 3 #[.int .i64 5] := by rw [hvb]; exact Blk.new _ _ _
    have hvaz : va.heap.size = gf + 1 := by rw [hva, hgf, World.size_alloc]
    have st2 := (st.mono (O' := fun k => k = gf) (fun g h => by rw [h, hgf]) ).on hWb
    have hzb := st2.below.size
    have hgfk : gk < gf ∧ g3 < gf ∧ g4 < gf ∧ g7 < gf := by
      have q1 := st.bk.lt
      have q2 := st.b3.lt
      have q3 := st.b4.lt
      have q4 := st.b7.lt
      omega
    have hgfb : gf < vb.heap.size := f2.lt
    have hDn : D < W'.heap.size := by
      rcases Nat.lt_or_ge D W'.heap.size with h | h
      · exact h
      · rw [Array.getElem?_eq_none h] at hK; cases hK
    have hKb : vb.heap[D]? = some (.deferred (some [])) := (hWb.block D hDn).trans hK
    have HVA := Lib.hid hva
    have HVB := Lib.hid hvb
    have HGF := Lib.hid hgf
    have HVZ := Lib.hid hvaz
    have HST2 := Lib.hid st2
    have HKB := Lib.hid hKb
    have hDg : D < gf := by omega
    clear hva hvb hgf hvaz st st2 hWa hab hWb hK hKb
    go_wp2_with fail
    rw [← HVA.out, ← HGF.out]
    refine (path_c 5 va).mono ?_
    rintro e vc ⟨rfl, hvc⟩
    rw [hvc, ← HVB.out, HVZ.out]
    rw [HVZ.out] at C1
    clear hvc dk
    go_wp2_with fail
    refine wp_range (O := fun k => k = gf) (a := _) rfl (enters_of Try.func59 (by kernel_rfl) rfl) (path_iter (b := 5) (by decide) C1) (Below.refl _ _) (fun _ => rfl) (fun k hk => ⟨by rw [hk]; omega, by rw [hk]; exact hgfb⟩)
      (fun O' pre W' => St w g3 g4 g7 gk np cp A b M O' kf W' ∧ O' gf ∧ Blk W' gf 3 #[.int .i64 (pre.length : Int)] ∧ W'.heap[D]? = some (.deferred (some [])))
      (fun c pre W' => False) (fun O' => ownFrom_of fun s X X' hs hc => ⟨hs.1.calm hc hzb, hs.2.1, hc.blk hs.2.2.1, calm_heap hc (by omega) hs.2.2.2⟩) (fun c => ownFrom_of fun s X X' hs hc => hs) ⟨HST2.out, rfl, f2, HKB.out⟩
      (fun O' pre x a' W' => (St w g3 g4 g7 gk np cp A b M O' kf W' ∧ O' gf ∧ Blk W' gf 3 #[.int .i64 (pre.length : Int)] ∧ W'.heap[D]? = some (.deferred (some []))) ∧ x = pre.length ∧ x < 5 ∧ a' = { tmps := #[Value.int .i64 b, Value.int .i64 a1, undef, Value.pointer (some ⟨g3, 0, none⟩), Value.pointer (some ⟨g4, 0, none⟩), zz, Value.nilIface, Value.pointer (some ⟨g7, 0, none⟩), Value.pointer (some ⟨gk, 0, none⟩), undef, Value.pointer (some ⟨gf, 0, none⟩), Value.tuple #[zz, Value.nilIface], Value.slice (some ⟨v1.heap.size, 0, none⟩) 16 16, Value.tuple #[zz, Value.nilIface], zz, Value.nilIface, Value.nilIface, Value.bool false, Value.bool false, zz, Value.int .i64 32, Value.bool false, Value.bool false, Value.int .i64 b, Value.slice A np cp, Value.int .i64 a1, Value.int .u64 (u : Int), Value.int .u64 (kk : Int), Value.int .i64 (kk : Int), Value.int .i64 (M : Int), Value.int .i64 b, Value.func (Fn.func 59) #[] #[Value.pointer (some ⟨gk + 1, 0, none⟩)], undef, undef, undef, undef, undef, undef, undef, undef, undef, undef, undef, undef, undef, undef, undef, undef, undef, undef, Value.func (Fn.func 59) #[] #[Value.pointer (some ⟨gf + 1, 0, none⟩)], Value.int .i64 (pathAt 5 x : Int), undef, undef, undef, undef, undef, undef, undef, undef, undef, undef, undef, undef, undef, undef], defers := [] })
      (fun O' pre x a' => ownFrom_of fun s X X' hs hc => ⟨⟨hs.1.1.calm hc hzb, hs.1.2.1, hc.blk hs.1.2.2.1, calm_heap hc (by omega) hs.1.2.2.2⟩, hs.2⟩) ?_ ?_ ?_ ?_
    · rintro l' O' pre x W' K hI ⟨hx1, hx2⟩ hK
      simp only [fold_one, List.setIfInBounds_toArray, List.set_cons_succ, List.set_cons_zero]
      refine wpIn_skip ?_
      exact hK O' _ _ (Kept.refl _ _) ⟨hI, hx1, hx2, rfl⟩
    · rintro l' O' pre x a' W' ⟨⟨st, ho, bf, hKD⟩, hx1, hx2, rfl⟩
      rw [← hx1] at bf
      have df : W'.cell? ⟨gf, 0, none⟩ = some (.int .i64 (x : Int)) := by rw [bf.cell]; rfl
      have ff : W'.frozen? ⟨gf, 0, none⟩ = false := bf.frozen 0
      obtain ⟨V, hV⟩ : ∃ V, V = W'.setCell ⟨gf, 0, none⟩ (.int .i64 ((x : Int) + 1)) := ⟨_, rfl⟩
      have bfV : Blk V gf 3 #[.int .i64 ((x : Int) + 1)] := by rw [hV]; simpa using bf.set_ 0 (.int .i64 ((x : Int) + 1))
      have stV : St w g3 g4 g7 gk np cp A b M O' kf V := by
        have ne : ∀ {g : Nat}, ¬ O' g → g ≠ gf := fun hg e => hg (e ▸ ho)
        rw [hV]
        exact ⟨st.n3, st.n4, st.n7, st.nr, st.b3.far (ne st.n3) _, st.b4.far (ne st.n4) _, st.b7.far (ne st.n7) _, Row.keepRow st.row (grownBy_setCell _ gf 0 _) (.inr (fun e => ne (st.nr _ e) rfl)), st.bk.far (by show gk ≠ gf; omega) _, st.below.setCell (by show w.heap.size ≤ gf; omega) _⟩
      have hKV : V.heap[D]? = some (.deferred (some [])) := by rw [hV]; exact (Below.heap_setCell _ _ _ _ (by show D ≠ gf; omega)).trans hKD
      have hkV : Kept O' O' W' V := by rw [hV]; exact Kept.setCell ho 0 _
      have d8 : V.cell? ⟨gf, 0, none⟩ = some (.int .i64 ((x : Int) + 1)) := by rw [bfV.cell]; rfl
      rw [hV] at d8
      have HVV := Lib.hid hV
      have hpl : (((pre ++ [x]).length : Nat) : Int) = (x : Int) + 1 := by rw [List.length_append, List.length_cons, List.length_nil, hx1]; rfl
      have HPL := Lib.hid hpl
      have HS := Lib.hid stV
      have HB := Lib.hid bfV
      have HKV := Lib.hid hkV
      have HKD := Lib.hid hKV
      have hx0 : (0 : Int) ≤ (x : Int) := by omega
      have hxb : (x : Int) ≤ 5 := by omega
      clear hpl stV bfV hkV hV hKV hKD st bf hx1
      gi_wp2
      rw [← HVV.out]
      exact ⟨O', HKV.out, HS.out, ho, by simp only [HPL.out]; exact HB.out, HKD.out⟩
    · rintro D2 O' ys W' hD2 hys ⟨st, ho, bf, hKD⟩ hK2
      have h5 : ys.length = 5 := by rw [hys, len_upTo]; rfl
      rw [h5] at bf
      have df : W'.cell? ⟨gf, 0, none⟩ = some (.int .i64 5) := by rw [bf.cell]; rfl
      have dk : W'.cell? ⟨gk, 0, none⟩ = some (.int .i64 (kf : Int)) := by rw [st.bk.cell]; rfl
      have d3 : W'.cell? ⟨g3, 0, none⟩ = some (.int .i64 (M : Int)) := by rw [st.b3.cell]; rfl
      have d7 : W'.cell? ⟨g7, 0, none⟩ = some (.slice A np cp) := by rw [st.b7.cell]; rfl
      have d4 : W'.cell? ⟨g4, 0, none⟩ = some (.bool false) := by rw [st.b4.cell]; rfl
      have f4 : W'.frozen? ⟨g4, 0, none⟩ = false := st.b4.frozen 0
      have hc2 := HC2.out
      have HST := Lib.hid st
      have HKK := Lib.hid hKD
      have HKK2 := Lib.hid hK2
      have hg4w : w.heap.size ≤ g4 := by omega
      have hDg4 : D ≠ g4 := fun e => by
        have := st.b4
        rw [Blk, ← e, hKD] at this
        cases this
      have hD24 : D2 ≠ g4 ∧ D2 ≠ D := ⟨by omega, by omega⟩
      clear st hKD hK2 bf hys
      go_wp2_with fail
      have hb4' : Blk (W'.setCell ⟨g4, 0, none⟩ (.bool true)) g4 4 #[.bool true] := by simpa using HST.out.b4.set_ 0 (.bool true)
      have hD2' : (W'.setCell ⟨g4, 0, none⟩ (.bool true)).heap[D2]? = some (.deferred (some [])) := (Below.heap_setCell _ _ _ _ hD24.1).trans HKK2.out
      have hD1' : (W'.setCell ⟨g4, 0, none⟩ (.bool true)).heap[D]? = some (.deferred (some [])) := (Below.heap_setCell _ _ _ _ hDg4).trans HKK.out
      have hD1'' := (World.putObj_heap_other (o := .deferred none) (w := W'.setCell ⟨g4, 0, none⟩ (.bool true)) (Ne.symm hD24.2)).trans hD1'
      refine ⟨by simp, .inl ⟨_, _, rfl, run_takeDeferred hD2', ?_⟩⟩
      refine ⟨by simp, .inl ⟨_, _, rfl, run_takeDeferred hD1'', ?_⟩⟩
      refine ⟨_, res_bool rfl _ g4 4 true Try.underlying4 rfl ((World.putObj_heap_other (Ne.symm hDg4)).trans ((World.putObj_heap_other (Ne.symm hD24.1)).trans hb4')), rfl, ?_⟩
      have hbw := HST.out.below.setCell (p := ⟨g4, 0, none⟩) hg4w (.bool true)
      have hc2 := (calm_putObj (B := w.heap.size) (.deferred none) (Nat.le_trans hzb hD2) hD2' rfl).below hbw (Nat.le_refl _) (Nat.le_refl _)
      exact (calm_putObj (B := w.heap.size) (.deferred none) (Nat.le_trans hz7 hD) hD1'' rfl).below hc2 (Nat.le_refl _) (Nat.le_refl _)
    · rintro D2 c pre W' hD2 _ h
      exact h.elim
  · rintro D c pre W' hD ⟨k, hk, hpre⟩ ⟨rfl, ⟨O', st⟩, hpl, hple⟩ hK
    obtain ⟨kf, hkf, st⟩ : ∃ kf, kf = pre.length ∧ St w g3 g4 g7 gk np cp A b M O' kf W' := ⟨_, rfl, st⟩
    have hmin : kf = min M np := by omega
    have HKF := Lib.hid hmin
    have hcm1 : ¬ (np : Int) < (M : Int) := by omega
    have HC2 := Lib.hid (show ((kf : Int) == (M : Int)) = true by rw [beq_iff_eq]; omega)
    clear hkf hmin hk hpre hpl hple
    have dk : W'.cell? ⟨gk, 0, none⟩ = some (.int .i64 (kf : Int)) := by rw [st.bk.cell]; rfl
    obtain ⟨gf, hgf⟩ : ∃ g, g = W'.heap.size := ⟨_, rfl⟩
    obtain ⟨va, hva⟩ : ∃ va, va = W'.alloc (.cells #[.int .i64 0] 3) := ⟨_, rfl⟩
    obtain ⟨vb, hvb⟩ : ∃ vb, vb = va.alloc (.cells #[.int .i64 5] 3) := ⟨_, rfl⟩
    have hWa : Below W'.heap.size W' va := by rw [hva]; exact below_alloc _ _
    have hab : Below va.heap.size va vb := by rw [hvb]; exact below_alloc _ _
    have hWb := hWa.trans (hab.mono hWa.size)
    have f2 : Blk vb gf 3 #[.int .i64 0] := (show Blk va gf 3 #[.int .i64 0] by rw [hva, hgf]; exact Blk.new _ _ _).below hab (by rw [hva, hgf]; simp)
    have C1 : Blk vb va.heap.size 3 #[.int .i64 5] := by rw [hvb]; exact Blk.new _ _ _
    have hvaz : va.heap.size = gf + 1 := by rw [hva, hgf, World.size_alloc]
    have st2 := (st.mono (O' := fun k => k = gf) (fun g h => by rw [h, hgf]) ).on hWb
    have hzb := st2.below.size
    have hgfk : gk < gf ∧ g3 < gf ∧ g4 < gf ∧ g7 < gf := by
      have q1 := st.bk.lt
      have q2 := st.b3.lt
      have q3 := st.b4.lt
      have q4 := st.b7.lt
      omega
    have hgfb : gf < vb.heap.size := f2.lt
    have hDn : D < W'.heap.size := by
      rcases Nat.lt_or_ge D W'.heap.size with h | h
      · exact h
      · rw [Array.getElem?_eq_none h] at hK; cases hK
    have hKb : vb.heap[D]? = some (.deferred (some [])) := (hWb.block D hDn).trans hK
    have HVA := Lib.hid hva
    have HVB := Lib.hid hvb
    have HGF := Lib.hid hgf
    have HVZ := Lib.hid hvaz
    have HST2 := Lib.hid st2
    have HKB := Lib.hid hKb
    have hDg : D < gf := by omega
    clear hva hvb hgf hvaz st st2 hWa hab hWb hK hKb
    go_wp2_with fail
    rw [← HVA.out, ← HGF.out]
    refine (path_c 5 va).mono ?_
    rintro e vc ⟨rfl, hvc⟩
    rw [hvc, ← HVB.out, HVZ.out]
    rw [HVZ.out] at C1
    clear hvc dk
    go_wp2_with fail
    refine wp_range (O := fun k => k = gf) (a := _) rfl (enters_of Try.func59 (by kernel_rfl) rfl) (path_iter (b := 5) (by decide) C1) (Below.refl _ _) (fun _ => rfl) (fun k hk => ⟨by rw [hk]; omega, by rw [hk]; exact hgfb⟩)
      (fun O' pre W' => St w g3 g4 g7 gk np cp A b M O' kf W' ∧ O' gf ∧ Blk W' gf 3 #[.int .i64 (pre.length : Int)] ∧ W'.heap[D]? = some (.deferred (some [])))
      (fun c pre W' => False) (fun O' => ownFrom_of fun s X X' hs hc => ⟨hs.1.calm hc hzb, hs.2.1, hc.blk hs.2.2.1, calm_heap hc (by omega) hs.2.2.2⟩) (fun c => ownFrom_of fun s X X' hs hc => hs) ⟨HST2.out, rfl, f2, HKB.out⟩
      (fun O' pre x a' W' => (St w g3 g4 g7 gk np cp A b M O' kf W' ∧ O' gf ∧ Blk W' gf 3 #[.int .i64 (pre.length : Int)] ∧ W'.heap[D]? = some (.deferred (some []))) ∧ x = pre.length ∧ x < 5 ∧ a' = { tmps := #[Value.int .i64 b, Value.int .i64 a1, undef, Value.pointer (some ⟨g3, 0, none⟩), Value.pointer (some ⟨g4, 0, none⟩), zz, Value.nilIface, Value.pointer (some ⟨g7, 0, none⟩), Value.pointer (some ⟨gk, 0, none⟩), undef, Value.pointer (some ⟨gf, 0, none⟩), Value.tuple #[zz, Value.nilIface], Value.slice (some ⟨v1.heap.size, 0, none⟩) 16 16, Value.tuple #[zz, Value.nilIface], zz, Value.nilIface, Value.nilIface, Value.bool false, Value.bool false, zz, Value.int .i64 32, Value.bool false, Value.bool false, Value.int .i64 b, Value.slice A np cp, Value.int .i64 a1, Value.int .u64 (u : Int), Value.int .u64 (kk : Int), Value.int .i64 (kk : Int), Value.int .i64 (M : Int), Value.int .i64 b, Value.func (Fn.func 59) #[] #[Value.pointer (some ⟨gk + 1, 0, none⟩)], undef, undef, undef, undef, undef, undef, undef, undef, undef, undef, undef, undef, undef, undef, undef, undef, undef, undef, Value.func (Fn.func 59) #[] #[Value.pointer (some ⟨gf + 1, 0, none⟩)], Value.int .i64 (pathAt 5 x : Int), undef, undef, undef, undef, undef, undef, undef, undef, undef, undef, undef, undef, undef, undef], defers := [] })
      (fun O' pre x a' => ownFrom_of fun s X X' hs hc => ⟨⟨hs.1.1.calm hc hzb, hs.1.2.1, hc.blk hs.1.2.2.1, calm_heap hc (by omega) hs.1.2.2.2⟩, hs.2⟩) ?_ ?_ ?_ ?_
    · rintro l' O' pre x W' K hI ⟨hx1, hx2⟩ hK
      simp only [fold_one, List.setIfInBounds_toArray, List.set_cons_succ, List.set_cons_zero]
      refine wpIn_skip ?_
      exact hK O' _ _ (Kept.refl _ _) ⟨hI, hx1, hx2, rfl⟩
    · rintro l' O' pre x a' W' ⟨⟨st, ho, bf, hKD⟩, hx1, hx2, rfl⟩
      rw [← hx1] at bf
      have df : W'.cell? ⟨gf, 0, none⟩ = some (.int .i64 (x : Int)) := by rw [bf.cell]; rfl
      have ff : W'.frozen? ⟨gf, 0, none⟩ = false := bf.frozen 0
      obtain ⟨V, hV⟩ : ∃ V, V = W'.setCell ⟨gf, 0, none⟩ (.int .i64 ((x : Int) + 1)) := ⟨_, rfl⟩
      have bfV : Blk V gf 3 #[.int .i64 ((x : Int) + 1)] := by rw [hV]; simpa using bf.set_ 0 (.int .i64 ((x : Int) + 1))
      have stV : St w g3 g4 g7 gk np cp A b M O' kf V := by
        have ne : ∀ {g : Nat}, ¬ O' g → g ≠ gf := fun hg e => hg (e ▸ ho)
        rw [hV]
        exact ⟨st.n3, st.n4, st.n7, st.nr, st.b3.far (ne st.n3) _, st.b4.far (ne st.n4) _, st.b7.far (ne st.n7) _, Row.keepRow st.row (grownBy_setCell _ gf 0 _) (.inr (fun e => ne (st.nr _ e) rfl)), st.bk.far (by show gk ≠ gf; omega) _, st.below.setCell (by show w.heap.size ≤ gf; omega) _⟩
      have hKV : V.heap[D]? = some (.deferred (some [])) := by rw [hV]; exact (Below.heap_setCell _ _ _ _ (by show D ≠ gf; omega)).trans hKD
      have hkV : Kept O' O' W' V := by rw [hV]; exact Kept.setCell ho 0 _
      have d8 : V.cell? ⟨gf, 0, none⟩ = some (.int .i64 ((x : Int) + 1)) := by rw [bfV.cell]; rfl
      rw [hV] at d8
      have HVV := Lib.hid hV
      have hpl : (((pre ++ [x]).length : Nat) : Int) = (x : Int) + 1 := by rw [List.length_append, List.length_cons, List.length_nil, hx1]; rfl
      have HPL := Lib.hid hpl
      have HS := Lib.hid stV
      have HB := Lib.hid bfV
      have HKV := Lib.hid hkV
      have HKD := Lib.hid hKV
      have hx0 : (0 : Int) ≤ (x : Int) := by omega
      have hxb : (x : Int) ≤ 5 := by omega
      clear hpl stV bfV hkV hV hKV hKD st bf hx1
      gi_wp2
      rw [← HVV.out]
      exact ⟨O', HKV.out, HS.out, ho, by simp only [HPL.out]; exact HB.out, HKD.out⟩
    · rintro D2 O' ys W' hD2 hys ⟨st, ho, bf, hKD⟩ hK2
      have h5 : ys.length = 5 := by rw [hys, len_upTo]; rfl
      rw [h5] at bf
      have df : W'.cell? ⟨gf, 0, none⟩ = some (.int .i64 5) := by rw [bf.cell]; rfl
      have dk : W'.cell? ⟨gk, 0, none⟩ = some (.int .i64 (kf : Int)) := by rw [st.bk.cell]; rfl
      have d3 : W'.cell? ⟨g3, 0, none⟩ = some (.int .i64 (M : Int)) := by rw [st.b3.cell]; rfl
      have d7 : W'.cell? ⟨g7, 0, none⟩ = some (.slice A np cp) := by rw [st.b7.cell]; rfl
      have d4 : W'.cell? ⟨g4, 0, none⟩ = some (.bool false) := by rw [st.b4.cell]; rfl
      have f4 : W'.frozen? ⟨g4, 0, none⟩ = false := st.b4.frozen 0
      have hc2 := HC2.out
      have HST := Lib.hid st
      have HKK := Lib.hid hKD
      have HKK2 := Lib.hid hK2
      have hg4w : w.heap.size ≤ g4 := by omega
      have hDg4 : D ≠ g4 := fun e => by
        have := st.b4
        rw [Blk, ← e, hKD] at this
        cases this
      have hD24 : D2 ≠ g4 ∧ D2 ≠ D := ⟨by omega, by omega⟩
      clear st hKD hK2 bf hys
      go_wp2_with fail
      have hb4' : Blk (W'.setCell ⟨g4, 0, none⟩ (.bool true)) g4 4 #[.bool true] := by simpa using HST.out.b4.set_ 0 (.bool true)
      have hD2' : (W'.setCell ⟨g4, 0, none⟩ (.bool true)).heap[D2]? = some (.deferred (some [])) := (Below.heap_setCell _ _ _ _ hD24.1).trans HKK2.out
      have hD1' : (W'.setCell ⟨g4, 0, none⟩ (.bool true)).heap[D]? = some (.deferred (some [])) := (Below.heap_setCell _ _ _ _ hDg4).trans HKK.out
      have hD1'' := (World.putObj_heap_other (o := .deferred none) (w := W'.setCell ⟨g4, 0, none⟩ (.bool true)) (Ne.symm hD24.2)).trans hD1'
      refine ⟨by simp, .inl ⟨_, _, rfl, run_takeDeferred hD2', ?_⟩⟩
      refine ⟨by simp, .inl ⟨_, _, rfl, run_takeDeferred hD1'', ?_⟩⟩
      refine ⟨_, res_bool rfl _ g4 4 true Try.underlying4 rfl ((World.putObj_heap_other (Ne.symm hDg4)).trans ((World.putObj_heap_other (Ne.symm hD24.1)).trans hb4')), rfl, ?_⟩
      have hbw := HST.out.below.setCell (p := ⟨g4, 0, none⟩) hg4w (.bool true)
      have hc2 := (calm_putObj (B := w.heap.size) (.deferred none) (Nat.le_trans hzb hD2) hD2' rfl).below hbw (Nat.le_refl _) (Nat.le_refl _)
      exact (calm_putObj (B := w.heap.size) (.deferred none) (Nat.le_trans hz7 hD) hD1'' rfl).below hc2 (Nat.le_refl _) (Nat.le_refl _)
    · rintro D2 c pre W' hD2 _ h
      exact h.elim
end Go.Proofs.Ytbjiokjmidipaaa.treePath
