/-
  chap.Fresh: so many bytes of draws.
-/
import Derived.Test.YtbjiokjmidipaaaDraws
namespace Go.Proofs.Ytbjiokjmidipaaa
open Go.RowKit Go.Shelf
set_option linter.unusedVariables false
set_option linter.unusedSimpArgs false
set_option maxRecDepth 100000

/-- The first k draws, one behind the other. -/
def drawsB (seed fr : Int) (k : Nat) : List UInt8 := (List.range k).flatMap fun j => drawOf seed (nth fr j)
theorem drawsB_succ (seed fr : Int) (k : Nat) : drawsB seed fr (k + 1) = drawsB seed fr k ++ drawOf seed (nth fr k) := by simp [drawsB, List.range_succ]
theorem len_drawsB (seed fr : Int) (k : Nat) : (drawsB seed fr k).length = 32 * k := by
  induction k with
  | zero => rfl
  | succ k ih => rw [drawsB_succ, List.length_append, ih, len_drawOf]; omega
theorem drawsB_add (seed fr : Int) (k j : Nat) : drawsB seed fr (k + j) = drawsB seed fr k ++ drawsB seed (nth fr k) j := by
  induction j with
  | zero => simp [drawsB]
  | succ j ih => rw [← Nat.add_assoc, drawsB_succ, ih, drawsB_succ, List.append_assoc, nth_nth]
theorem drawsB_take (seed fr : Int) {m k n : Nat} (hm : m ≤ k) (hn : n ≤ 32 * m) : (drawsB seed fr k).take n = (drawsB seed fr m).take n := by
  obtain ⟨j, rfl⟩ : ∃ j, k = m + j := ⟨k - m, by omega⟩
  rw [drawsB_add, List.take_append_of_le_length (by rw [len_drawsB]; omega)]
/-- So many fresh bytes; the number behind. -/
def freshOf (seed fr : Int) (m : Nat) : List UInt8 := (drawsB seed fr 128).take m
def behindOf (fr : Int) (m : Nat) : Int := nth fr ((m + 31) / 32)
theorem freshOf_of (seed fr : Int) {k m : Nat} (h1 : m ≤ 32 * k) (h2 : m ≤ 4096) : (drawsB seed fr k).take m = freshOf seed fr m := by
  rw [freshOf]
  rcases Nat.le_total k 128 with h | h
  · exact (drawsB_take seed fr h h1).symm
  · exact drawsB_take seed fr h (by omega)
theorem len_freshOf (seed fr : Int) {m : Nat} (h : m ≤ 4096) : (freshOf seed fr m).length = m := by
  rw [freshOf, List.length_take, len_drawsB]; omega

/-- What stands while the draws run: k of them have been laid. -/
structure StF (w : World) (gm gx gy gr go m : Nat) (seed fr : Int) (O : Nat → Prop) (k : Nat) (W : World) : Prop where
  ownr : O gr
  owno : O go
  ownx : O gx
  owny : O gy
  nm : ¬ O gm
  bm : Blk W gm 3 #[.int .i64 (m : Int)]
  bx : Blk W gx 22 #[.slice none 0 0]
  by_ : Blk W gy 3 #[.int .i64 0]
  row : OwB W gr (some ⟨gr, 0, none⟩) (32 * k) (m + 32) (drawsB seed fr k)
  bo : Blk W go 22 #[.slice (some ⟨gr, 0, none⟩) (32 * k) (m + 32)]
  below : Below w.heap.size w W
section
variable {w : World} {gm gx gy gr go m : Nat} {seed fr : Int} {O : Nat → Prop} {k : Nat} {W W' : World}
theorem StF.calm {B : Nat} (h : StF w gm gx gy gr go m seed fr O k W) (hc : Calm B W W') (hB : w.heap.size ≤ B) : StF w gm gx gy gr go m seed fr O k W' :=
  ⟨h.ownr, h.owno, h.ownx, h.owny, h.nm, hc.blk h.bm, hc.blk h.bx, hc.blk h.by_, hc.row h.row, hc.blk h.bo, hc.below h.below hB (Nat.le_refl _)⟩
theorem StF.on (h : StF w gm gx gy gr go m seed fr O k W) (hb : Below W.heap.size W W') : StF w gm gx gy gr go m seed fr O k W' :=
  ⟨h.ownr, h.owno, h.ownx, h.owny, h.nm, h.bm.below hb h.bm.lt, h.bx.below hb h.bx.lt, h.by_.below hb h.by_.lt, OwB.below h.row hb, h.bo.below hb h.bo.lt, h.below.trans (hb.mono h.below.size)⟩
end
/-- What stands behind the last round. -/
structure EndF (w : World) (gx gy gr m : Nat) (seed fr : Int) (W : World) : Prop where
  bx : Blk W gx 22 #[.slice (some ⟨gr, 0, none⟩) m m]
  by_ : Blk W gy 3 #[.int .i64 (behindOf fr m)]
  row : OwB W gr (some ⟨gr, 0, none⟩) m m (freshOf seed fr m)
  below : Below w.heap.size w W
theorem EndF.calm {w : World} {gx gy gr m : Nat} {seed fr : Int} {B : Nat} {W W' : World} (h : EndF w gx gy gr m seed fr W) (hc : Calm B W W') (hB : w.heap.size ≤ B) : EndF w gx gy gr m seed fr W' :=
  ⟨hc.blk h.bx, hc.blk h.by_, hc.row h.row, hc.below h.below hB (Nat.le_refl _)⟩

theorem res_two {P : Program} {w : World} {fn : Func} {p q : Tmp} {ty ty2 : TypeId} (hr : fn.results = #[.cell p ty, .cell q ty2]) (tmps : Array Value) (g g2 : Nat) (tb tb2 : TypeId) (v v2 : Value) {e : TypeId} (ht : P.underlying ty = some (.slice e)) {k : IntKind} (ht2 : P.underlying ty2 = some (.int k))
    (hp : tmps.getD p undef = .pointer (some ⟨g, 0, none⟩)) (hq : tmps.getD q undef = .pointer (some ⟨g2, 0, none⟩)) (hb : Blk w g tb #[v]) (hb2 : Blk w g2 tb2 #[v2]) : (results fn tmps).run P w = .ok (.tuple #[v, v2]) w := by
  have hp' : tmps[p]?.getD undef = .pointer (some ⟨g, 0, none⟩) := by simpa using hp
  have hq' : tmps[q]?.getD undef = .pointer (some ⟨g2, 0, none⟩) := by simpa using hq
  have hc : w.cell? ⟨g, 0, none⟩ = some v := by rw [hb.cell]; rfl
  have hc2 : w.cell? ⟨g2, 0, none⟩ = some v2 := by rw [hb2.cell]; rfl
  simp [results, hr, hp', hq', asAddr, loadVar, isAgg, run_underlying ht, run_underlying ht2, hc, hc2]

theorem fresh_bad (seed fr : Int) (m : Int) (hm : m < 1 ∨ 4096 < m) (w : World) :
    Calls Try.prog 44 #[.int .i64 seed, .int .i64 fr, .int .i64 m] w fun e w' => e = .returned (.tuple #[.slice none 0 0, .int .i64 fr]) ∧ Below w.heap.size w w' := by
  have hb : Below w.heap.size w (((w.alloc (.cells #[.int .i64 m] 3)).alloc (.cells #[.slice none 0 0] 22)).alloc (.cells #[.int .i64 fr] 3)) := (((Below.refl _ _).alloc (Nat.le_refl _) _).alloc (by simp) _).alloc (by simp; omega) _
  have bx : Blk (((w.alloc (.cells #[.int .i64 m] 3)).alloc (.cells #[.slice none 0 0] 22)).alloc (.cells #[.int .i64 fr] 3)) (w.heap.size + 1) 22 #[.slice none 0 0] := by
    have := (Blk.new (w.alloc (.cells #[.int .i64 m] 3)) 22 #[.slice none 0 0]).alloc (.cells #[.int .i64 fr] 3)
    rwa [World.size_alloc] at this
  have by_ : Blk (((w.alloc (.cells #[.int .i64 m] 3)).alloc (.cells #[.slice none 0 0] 22)).alloc (.cells #[.int .i64 fr] 3)) (w.heap.size + 1 + 1) 3 #[.int .i64 fr] := by
    have := Blk.new ((w.alloc (.cells #[.int .i64 m] 3)).alloc (.cells #[.slice none 0 0] 22)) 3 #[.int .i64 fr]
    rwa [World.size_alloc, World.size_alloc] at this
  by_cases h1 : m < 1
  · have hd : decide (m < 1) = true := decide_eq_true h1
    go_enter Try.func44, Try.ntmps44
    go_wp2_with fail
    exact bodyPost_ret (res_two rfl _ (w.heap.size + 1) (w.heap.size + 1 + 1) _ _ _ _ Try.underlying22 Try.underlying3 rfl rfl bx by_) rfl ⟨rfl, hb⟩
  · have h2 : 4096 < m := by omega
    have hd : decide (m < 1) = false := decide_eq_false h1
    have hd2 : decide (4096 < m) = true := decide_eq_true h2
    go_enter Try.func44, Try.ntmps44
    go_wp2_with fail
    exact bodyPost_ret (res_two rfl _ (w.heap.size + 1) (w.heap.size + 1 + 1) _ _ _ _ Try.underlying22 Try.underlying3 rfl rfl bx by_) rfl ⟨rfl, hb⟩

attribute [local go_sem] Oper.semAt_some
set_option maxHeartbeats 4000000 in
theorem fresh_c (seed fr : Int) (m : Nat) (hm1 : 1 ≤ m) (hm2 : m ≤ 4096) (w : World) :
    Calls Try.prog 44 #[.int .i64 seed, .int .i64 fr, .int .i64 (m : Int)] w fun e w' => ∃ A', e = .returned (.tuple #[.slice A' m m, .int .i64 (behindOf fr m)]) ∧ OwB w' w.heap.size A' m m (freshOf seed fr m) ∧ Below w.heap.size w w' := by
  obtain ⟨gm, hgm⟩ : ∃ g, g = w.heap.size := ⟨_, rfl⟩
  obtain ⟨gx, hgx⟩ : ∃ g, g = w.heap.size + 1 := ⟨_, rfl⟩
  obtain ⟨gy, hgy⟩ : ∃ g, g = w.heap.size + 1 + 1 := ⟨_, rfl⟩
  obtain ⟨gr, hgr⟩ : ∃ g, g = w.heap.size + 1 + 1 + 1 := ⟨_, rfl⟩
  obtain ⟨go, hgo⟩ : ∃ g, g = w.heap.size + 1 + 1 + 1 + 1 := ⟨_, rfl⟩
  obtain ⟨v1, hv1⟩ : ∃ v1, v1 = ((((w.alloc (.cells #[.int .i64 (m : Int)] 3)).alloc (.cells #[.slice none 0 0] 22)).alloc (.cells #[.int .i64 0] 3)).alloc (.cells (zeros8 (m + 32)) 5)).alloc (.cells #[.slice (some ⟨w.heap.size + 1 + 1 + 1, 0, none⟩) 0 (m + 32)] 22) := ⟨_, rfl⟩
  have m1 : Blk v1 gm 3 #[.int .i64 (m : Int)] := by rw [hv1, hgm]; exact ((((Blk.new _ _ _).alloc _).alloc _).alloc _).alloc _
  have x1 : Blk v1 gx 22 #[.slice none 0 0] := by
    have := (((Blk.new (w.alloc (.cells #[.int .i64 (m : Int)] 3)) 22 #[.slice none 0 0]).alloc (.cells #[.int .i64 0] 3)).alloc (.cells (zeros8 (m + 32)) 5)).alloc (.cells #[.slice (some ⟨w.heap.size + 1 + 1 + 1, 0, none⟩) 0 (m + 32)] 22)
    simp only [World.size_alloc] at this
    rw [hv1, hgx]; exact this
  have y1 : Blk v1 gy 3 #[.int .i64 0] := by
    have := ((Blk.new ((w.alloc (.cells #[.int .i64 (m : Int)] 3)).alloc (.cells #[.slice none 0 0] 22)) 3 #[.int .i64 0]).alloc (.cells (zeros8 (m + 32)) 5)).alloc (.cells #[.slice (some ⟨w.heap.size + 1 + 1 + 1, 0, none⟩) 0 (m + 32)] 22)
    simp only [World.size_alloc] at this
    rw [hv1, hgy]; exact this
  have r1 : OwB v1 gr (some ⟨gr, 0, none⟩) 0 (m + 32) [] := by
    have h := (OwB.new (((w.alloc (.cells #[.int .i64 (m : Int)] 3)).alloc (.cells #[.slice none 0 0] 22)).alloc (.cells #[.int .i64 0] 3)) gr (m + 32) (by rw [hgr]; simp) (by simp only [maxLen]; omega)).alloc (.cells #[.slice (some ⟨w.heap.size + 1 + 1 + 1, 0, none⟩) 0 (m + 32)] 22)
    simp only [World.size_alloc] at h
    rw [← hgr] at h
    rw [hv1, ← hgr]; exact h
  have o1 : Blk v1 go 22 #[.slice (some ⟨gr, 0, none⟩) 0 (m + 32)] := by
    have := Blk.new ((((w.alloc (.cells #[.int .i64 (m : Int)] 3)).alloc (.cells #[.slice none 0 0] 22)).alloc (.cells #[.int .i64 0] 3)).alloc (.cells (zeros8 (m + 32)) 5)) 22 #[.slice (some ⟨gr, 0, none⟩) 0 (m + 32)]
    simp only [World.size_alloc] at this
    rw [hv1, ← hgr]; rw [hgo]; exact this
  have hb1 : Below w.heap.size w v1 := by
    rw [hv1]
    exact (((((Below.refl _ _).alloc (Nat.le_refl _) _).alloc (by simp) _).alloc (by simp; omega) _).alloc (by simp; omega) _).alloc (by simp; omega) _
  have hmk := fun W => run_make8 0 (m + 32) 0 ((m : Int) + 32) rfl (by omega) (by omega) (by omega) W
  have hz1 := hb1.size
  have hmi0 : ¬ (m : Int) < 1 := by omega
  have hmi1 : ¬ (4096 : Int) < (m : Int) := by omega
  have hd : decide ((m : Int) < 1) = false := decide_eq_false hmi0
  have hd2 : decide ((4096 : Int) < (m : Int)) = false := decide_eq_false hmi1
  have hmb : (m : Int) ≤ 4096 := by omega
  have hD : gm < gx ∧ gx < gy ∧ gy < gr ∧ gr < go ∧ w.heap.size ≤ gm := ⟨by omega, by omega, by omega, by omega, by omega⟩
  have hgoz : go < v1.heap.size := o1.lt
  have HG1 := Lib.hid hgm
  have HG2 := Lib.hid hgx
  have HG3 := Lib.hid hgy
  have HG4 := Lib.hid hgr
  have HG5 := Lib.hid hgo
  have HV := Lib.hid hv1
  clear hgm hgx hgy hgr hgo hv1
  refine calls_of_wp_marks Try.func44 rfl ?_
  simp only [Try.ntmps44, List.size_toArray, List.length_cons, List.length_nil, Nat.reduceAdd, Nat.reduceSub, Array.replicate_succ, Array.replicate_zero, List.push_toArray, List.append_toArray, List.nil_append, List.cons_append]
  go_wp2_with fail
  rw [← HV.out, ← HG5.out, ← HG4.out, ← HG3.out, ← HG2.out, ← HG1.out]
  refine (draws_c seed fr v1).mono ?_
  rintro e v2 ⟨rfl, B1, B2, hb2, hs2⟩
  have hz12 := hb2.size
  have st2 : StF w gm gx gy gr go m seed fr (fun k => k = gr ∨ k = go ∨ k = gx ∨ k = gy) 0 v2 :=
    ⟨.inl rfl, .inr (.inl rfl), .inr (.inr (.inl rfl)), .inr (.inr (.inr rfl)), by omega, m1.below hb2 m1.lt, x1.below hb2 x1.lt, y1.below hb2 y1.lt, OwB.below r1 hb2, o1.below hb2 o1.lt, hb1.trans (hb2.mono hz1)⟩
  have hz2 := st2.below.size
  clear m1 x1 y1 r1 o1 hb2 hmk hd hd2 hs2
  go_wp2_with fail
  refine wp_range (O := fun k => k = gr ∨ k = go ∨ k = gx ∨ k = gy) (a := _) rfl (enters_of Try.func64 (by kernel_rfl) rfl) (draws_iter B1 B2) (Below.refl _ _) (fun _ => rfl)
    (fun k hk => ⟨⟨by omega, by omega⟩, by omega⟩)
    (fun O' pre W' => StF w gm gx gy gr go m seed fr O' pre.length W' ∧ 32 * pre.length < m)
    (fun c pre W' => c = .ret ∧ EndF w gx gy gr m seed fr W') (fun O' => ownFrom_of fun s X X' hs hc => ⟨hs.1.calm hc hz2, hs.2⟩) (fun c => ownFrom_of fun s X X' hs hc => ⟨hs.1, hs.2.calm hc hz2⟩) ⟨st2, by simp; omega⟩
    (fun O' pre x a' W' => (StF w gm gx gy gr go m seed fr O' pre.length W' ∧ 32 * pre.length < m) ∧ x = pre.length ∧ x < 4096 ∧
      ∃ gp, Blk W' gp 40 (arr8 (drawOf seed (nth fr x))) ∧ a' = { tmps := #[Value.int .i64 seed, Value.int .i64 fr, Value.int .i64 (m : Int), undef, undef, Value.pointer (some ⟨gm, 0, none⟩), Value.pointer (some ⟨gx, 0, none⟩), Value.pointer (some ⟨gy, 0, none⟩), Value.pointer (some ⟨go, 0, none⟩), Value.int .i64 (nth fr x), Value.pointer (some ⟨gp, 0, none⟩), Value.int .i64 (m : Int), Value.bool false, Value.bool false, Value.int .i64 (m : Int), Value.bool false, Value.bool false, undef, Value.int .i64 (m : Int), Value.int .i64 ((m : Int) + 32), Value.slice (some ⟨gr, 0, none⟩) 0 (m + 32), Value.int .i64 seed, Value.int .i64 fr, Value.func (Fn.func 64) #[] #[Value.pointer (some ⟨v1.heap.size + 1, 0, none⟩), Value.pointer (some ⟨v1.heap.size, 0, none⟩)], Value.int .i64 (nth fr x), Value.agg (arr8 (drawOf seed (nth fr x))), undef, undef, undef, undef, undef, undef, undef, undef, undef, undef, undef, undef, undef, undef], defers := [] })
    (fun O' pre x a' => ownFrom_of fun s X X' hs hc => ⟨⟨hs.1.1.calm hc hz2, hs.1.2⟩, hs.2.1, hs.2.2.1, by obtain ⟨gp, h2, h3⟩ := hs.2.2.2; exact ⟨gp, hc.blk h2, h3⟩⟩) ?_ ?_ ?_ ?_
  · rintro l' O' pre x W' K ⟨st, hlt⟩ ⟨hx1, hx2⟩ hK
    have HX1 := Lib.hid hx1
    clear hx1
    simp only [fold_two, List.setIfInBounds_toArray, List.set_cons_succ, List.set_cons_zero]
    refine wpIn_seq_k fun K' hK' => ?_
    have HK' := Lib.hid hK'
    clear hK'
    gi_wp2
    refine HK'.out _ _ ?_
    refine wpIn_region_of (free_rd l') rfl (fun ⟨_, _, h⟩ => h) ?_
    refine wpList_alloc_agg rfl 40 rfl (arr8 (z8' 32)) zero44 ?_
    refine wpList_store8 rfl 40 (.tmp 10) (.tmp 25) rfl W'.heap.size rfl (drawOf seed (nth fr x)) rfl agg44 (len_drawOf _ _) _ _ (Blk.new _ _ _) (by rw [size_arr8, len_z8']) ?_
    intro W5 hb5 hg5 hs5
    have hbb : Below W'.heap.size W' W5 := ((Below.refl _ _).alloc (Nat.le_refl _) _).grown hg5 (by simp) (fun k hk => by cases hk; exact Nat.le_refl _)
    refine hK O' _ _ (Kept.below hbb) ⟨⟨st.on hbb, hlt⟩, HX1.out, hx2, W'.heap.size, hb5, ?_⟩
    rfl
  · rintro l' O' pre x a' W' ⟨⟨st, hlt⟩, hx1, hx2, gp, hbp, rfl⟩
    rw [← hx1] at st hlt
    have hall := arr_all_run (P := Try.prog) (T := 40) Try.underlying40 size1 (by omega) gp
    have HX1 := Lib.hid hx1
    have HST := Lib.hid st
    clear hx1 st
    gi_wp2
    refine wpIn_region_rel (free_rd l') rfl 2 (fun W W' => Below W.heap.size W W') (fun W => Below W'.heap.size W' W)
      [Det (.slice (some ⟨gr, 0, none⟩) (32 * x) (m + 32)), Det (.slice (some ⟨gp, 0, none⟩) 32 32), Any, Any]
      [[], [], [(0, some 26), (1, some 27)], [(2, some 28)]]
      [[], [], [0, 1], [0, 1, 2]]
      [(0, some 26), (1, some 27), (2, some 28), (3, none)] (by kernel_rfl) (by kernel_rfl) (by kernel_rfl) (fun W W' h1 h2 => h1.trans (h2.mono h1.size)) ((Below.refl _ _).drew) ?_ ?_ ?_
    · exact (AllMono.cons Det.later (AllMono.cons Det.later (AllMono.cons Any.later (AllMono.cons Any.later AllMono.nil))))
    · refine AllOb.cons ?_ (AllOb.cons ?_ (AllOb.nil))
      · intro uF W hC' hU aF hF
        have hC : Below W'.heap.size W' W := hC'
        clear hC'
        simp only [puts] at hF
        subst hF
        have d1 : W.cell? ⟨go, 0, none⟩ = some (.slice (some ⟨gr, 0, none⟩) (32 * x) (m + 32)) := by rw [(HST.out.on hC).bo.cell]; rfl
        go_wp2_with (fail)
        exact ⟨rfl, rfl, (Below.refl _ _), rfl⟩
      · intro uF W hC' hU aF hF
        have hC : Below W'.heap.size W' W := hC'
        clear hC'
        simp only [puts] at hF
        subst hF
        go_wp2_with (fail)
        exact ⟨rfl, rfl, (Below.refl _ _), rfl⟩
    intro uF W5 hC' hU aF hF
    have hCW5 : Below W'.heap.size W' W5 := hC'
    clear hC'
    have h26 : (Det (.slice (some ⟨gr, 0, none⟩) (32 * x) (m + 32))) (uF 0) W5 := hU.1
    have h27 : (Det (.slice (some ⟨gp, 0, none⟩) 32 32)) (uF 1) W5 := hU.2.1
    clear hU
    simp only [List.take_succ_cons, List.take_zero, puts, Act.put, List.setIfInBounds_toArray, List.set_cons_zero, List.set_cons_succ] at hF
    generalize uF 0 = x26 at h26 hF
    generalize uF 1 = x27 at h27 hF
    obtain rfl : x26 = (.slice (some ⟨gr, 0, none⟩) (32 * x) (m + 32)) := h26
    obtain rfl : x27 = (.slice (some ⟨gp, 0, none⟩) 32 32) := h27
    subst hF
    simp only [List.drop_succ_cons, List.drop_zero]
    have st5 := HST.out.on hCW5
    have hbp5 := hbp.below hCW5 hbp.lt
    have hk5 : Kept O' O' W' W5 := Kept.below hCW5
    have sp := sum_sl hbp5 (len_drawOf _ _)
    have hgo5 : go ≠ gr := by omega
    have hfit : 32 * x + 32 ≤ m + 32 := by omega
    obtain ⟨L, hL⟩ : ∃ L, L = 32 * (x + 1) := ⟨_, rfl⟩
    refine wpListIn_of (free_rd l') (fun ⟨_, _, h⟩ => h) rfl ?_
    refine wpList_append8 rfl (.tmp 26) (.tmp 27) rfl rfl st5.row rfl sp (by omega) (Nat.le_of_lt (Nat.lt_of_lt_of_le (by omega) (Nat.le_of_lt st5.bo.lt))) L (by omega) ?_
    intro A6 c6 W6 h6 q6
    obtain ⟨rfl, rfl⟩ := q6.stay hfit
    have hg6 : W5.grownBy W6 (some gr) := q6.grown
    have b6 := st5.bo.grown hg6 (by simpa using hgo5)
    have m6 := st5.bm.grown hg6 (by simp; omega)
    have x6 := st5.bx.grown hg6 (by simp; omega)
    have y6 := st5.by_.grown hg6 (by simp; omega)
    have e6 : W6.cell? ⟨go, 0, none⟩ = some (.slice (some ⟨gr, 0, none⟩) (32 * x) (m + 32)) := by rw [b6.cell]; rfl
    have f6 : W6.frozen? ⟨go, 0, none⟩ = false := b6.frozen 0
    have hk6 : Kept O' O' W' W6 := hk5.trans (Kept.grown hg6 st5.ownr)
    have hbw6 : Below w.heap.size w W6 := st5.below.grown hg6 st5.below.size (fun k hk => by cases hk; omega)
    obtain ⟨W7, hW7⟩ : ∃ W7, W7 = W6.setCell ⟨go, 0, none⟩ (.slice (some ⟨gr, 0, none⟩) L (m + 32)) := ⟨_, rfl⟩
    have st7 : StF w gm gx gy gr go m seed fr O' (x + 1) W7 := by
      refine ⟨st5.ownr, st5.owno, st5.ownx, st5.owny, st5.nm, ?_, ?_, ?_, ?_, ?_, ?_⟩
      · rw [hW7]; exact m6.far (by show gm ≠ go; omega) _
      · rw [hW7]; exact x6.far (by show gx ≠ go; omega) _
      · rw [hW7]; exact y6.far (by show gy ≠ go; omega) _
      · rw [hW7, ← hL, drawsB_succ]
        exact Row.keepRow h6 (grownBy_setCell W6 go 0 _) (.inr (by simp [wrote]; omega))
      · rw [hW7, ← hL]; simpa using b6.set_ 0 (.slice (some ⟨gr, 0, none⟩) L (m + 32))
      · rw [hW7]; exact hbw6.setCell (by show w.heap.size ≤ go; omega) _
    have hk7 : Kept O' O' W' W7 := by rw [hW7]; exact hk6.trans (Kept.setCell st5.owno 0 _)
    have d7 : W7.cell? ⟨go, 0, none⟩ = some (.slice (some ⟨gr, 0, none⟩) L (m + 32)) := by rw [st7.bo.cell, hL]; rfl
    have d5 : W7.cell? ⟨gm, 0, none⟩ = some (.int .i64 (m : Int)) := by rw [st7.bm.cell]; rfl
    have HW7 := Lib.hid hW7
    have HS7 := Lib.hid st7
    have HK7 := Lib.hid hk7
    have HL := Lib.hid hL
    have hpl : (pre ++ [x]).length = x + 1 := by rw [List.length_append, List.length_cons, List.length_nil, HX1.out]
    have HPL := Lib.hid hpl
    have hLb : (L : Int) ≤ 5000 := by omega
    have hgyx : gx ≠ gy := by omega
    clear hL hpl hW7 st7 hk7 hk6 hbw6 m6 x6 y6 b6 h6 q6 hg6 hk5 hbp5 st5 hbp sp hall
    go_wp2_with fail
    rw [← HW7.out]
    clear e6 f6
    by_cases hge : m ≤ L
    · have hgi : (m : Int) ≤ (L : Int) := by omega
      have hrun : ∀ W, (Instr.sliceAt 22 (.slice (some ⟨gr, 0, none⟩) L (m + 32)) none (some (.int .i64 (m : Int))) (some (.int .i64 (m : Int)))).run Try.prog W = .ok (.slice (some ⟨gr, 0, none⟩) m m) W := fun W => by
        have he : Try.prog.underlying 22 = some (.slice (Try.prog.elem 22)) := by rw [bytes_elem]; exact Try.underlying22
        have hs : (sizeOf (Try.prog.elem 22)).run Try.prog W = .ok 1 W := by rw [bytes_elem]; kernel_rfl
        rw [run_sliceAt_slice W _ _ _ _ _ he, run_slice_hm W _ _ L (m + 32) he .i64 .i64 (m : Int) (m : Int) (by omega) (by omega) (by omega), hs]
        simp [Result.andThen, sliced, Addr.add]
      have fx : W7.frozen? ⟨gx, 0, none⟩ = false := HS7.out.bx.frozen 0
      have dx : W7.cell? ⟨gx, 0, none⟩ = some (.slice none 0 0) := by rw [HS7.out.bx.cell]; rfl
      obtain ⟨W8, hW8⟩ : ∃ W8, W8 = W7.setCell ⟨gx, 0, none⟩ (.slice (some ⟨gr, 0, none⟩) m m) := ⟨_, rfl⟩
      have x8 : Blk W8 gx 22 #[.slice (some ⟨gr, 0, none⟩) m m] := by rw [hW8]; simpa using HS7.out.bx.set_ 0 (.slice (some ⟨gr, 0, none⟩) m m)
      have y8 : Blk W8 gy 3 #[.int .i64 0] := by rw [hW8]; exact HS7.out.by_.far (by show gy ≠ gx; omega) _
      have fy : W8.frozen? ⟨gy, 0, none⟩ = false := y8.frozen 0
      have dy : W8.cell? ⟨gy, 0, none⟩ = some (.int .i64 0) := by rw [y8.cell]; rfl
      rw [hW8] at fy dy
      obtain ⟨W9, hW9⟩ : ∃ W9, W9 = W8.setCell ⟨gy, 0, none⟩ (.int .i64 (wrap64 (nth fr x + 1))) := ⟨_, rfl⟩
      have hJ : wrap64 (nth fr x + 1) = behindOf fr m := by
        rw [nth_succ, behindOf, show (m + 31) / 32 = x + 1 from by have := HL.out; omega]
      have E9 : EndF w gx gy gr m seed fr W9 := by
        refine ⟨?_, ?_, ?_, ?_⟩
        · rw [hW9]; exact x8.far (by show gx ≠ gy; omega) _
        · rw [hW9, hJ]; simpa using y8.set_ 0 (.int .i64 (behindOf fr m))
        · have h := OwB.trim HS7.out.row (k := m) (by rw [← HL.out]; exact hge)
          rw [freshOf_of _ _ (by rw [← HL.out]; exact hge) hm2] at h
          have h9 : OwB W9 gr (some ⟨gr, 0, none⟩) m (m + 32) (freshOf seed fr m) := by
            rw [hW9, hW8]
            exact Row.keepRow (Row.keepRow h (grownBy_setCell W7 gx 0 _) (.inr (by simp [wrote]; omega))) (grownBy_setCell _ gy 0 _) (.inr (by simp [wrote]; omega))
          have h10 : OwB W9 gr (some ⟨gr, 0, none⟩) m m (freshOf seed fr m) := by
            refine ⟨h9.1, Nat.le_refl _, by simp only [maxLen]; omega, fun _ => ?_⟩
            obtain ⟨g, cur, e1, h2, h3, h4, h5⟩ := h9.2.2.2 (by omega)
            exact ⟨g, cur, e1, h2, h3, Nat.le_trans (Nat.mul_le_mul_right _ (by omega)) h4, h5⟩
          exact h10
        · rw [hW9, hW8]; exact (HS7.out.below.setCell (by show w.heap.size ≤ gx; omega) _).setCell (by show w.heap.size ≤ gy; omega) _
      have hk9 : Kept O' O' W' W9 := by rw [hW9, hW8]; exact (HK7.out.trans (Kept.setCell HS7.out.ownx 0 _)).trans (Kept.setCell HS7.out.owny 0 _)
      have E := Lib.hid E9
      have HK9 := Lib.hid hk9
      rw [hW8] at hW9
      have HW9 := Lib.hid hW9
      clear hW9 E9 hk9 x8 y8 hJ
      gi_wp2
      rw [← HW9.out]
      exact ⟨HK9.out.from_ _, rfl, E.out⟩
    · have hgi : ¬ (m : Int) ≤ (L : Int) := by omega
      gi_wp2
      exact ⟨O', HK7.out, by rw [HPL.out]; exact HS7.out, by rw [HPL.out, ← HL.out]; omega⟩
  · rintro D O' xs W' hD rfl ⟨st, hlt⟩ hK
    rw [len_upTo] at hlt
    omega
  · rintro D c pre W' hD ⟨k, hk, rfl⟩ ⟨rfl, st⟩ hK
    have HST := Lib.hid st
    have HKK := Lib.hid hK
    clear st hK
    go_wp2_with fail
    refine ⟨by simp, .inl ⟨_, _, rfl, run_takeDeferred HKK.out, ?_⟩⟩
    have hc := calm_putObj (B := w.heap.size) (.deferred none) (Nat.le_trans hz2 hD) HKK.out rfl
    refine ⟨_, res_two rfl _ gx gy _ _ _ _ Try.underlying22 Try.underlying3 rfl rfl (hc.blk HST.out.bx) (hc.blk HST.out.by_), ⟨some ⟨gr, 0, none⟩, rfl, ?_, ?_⟩⟩
    · exact Row.base_le (hc.row HST.out.row) (by omega)
    · exact hc.below HST.out.below (Nat.le_refl _) (Nat.le_refl _)
end Go.Proofs.Ytbjiokjmidipaaa

