/-
  digest.Pieces: a padded text's pieces, as an iterator.
-/
import Derived.WalkMore
import Derived.Deep.RegionHeldLaw
import Derived.Test.YtbphoilfiahnpaaChunk
import Derived.Test.YtbphoilfiahnpaaConcat
import Derived.Test.YtbphoilfiahnpaaPad
import Derived.Test.YtbphoilfiahnpaaArr
namespace Go.Proofs.Ytbphoilfiahnpaa
open Go.RowKit Go.Shelf
set_option linter.unusedVariables false
set_option maxRecDepth 100000
attribute [local go_sem] Oper.semAt_some

theorem aggP64 : AggT Try.prog 34 64 := ⟨⟨_, Try.underlying34, rfl⟩, by kernel_rfl⟩
/-- A text, padded. -/
def padded (bs : List UInt8) : List UInt8 := bs ++ padB bs.length
/-- How many pieces. -/
def pieceN (n : Nat) : Nat := (n + 9 + padZ n) / 64
theorem padded_len (bs : List UInt8) : (padded bs).length = 64 * pieceN bs.length := by
  rw [padded, List.length_append, len_padB, pieceN]
  have h : padZ bs.length = (119 - bs.length % 64) % 64 := rfl
  omega
/-- Piece number j. -/
def pieceAt (bs : List UInt8) (j : Nat) : List UInt8 := ((padded bs).drop (64 * j)).take 64
theorem len_pieceAt (bs : List UInt8) (j : Nat) (h : j < pieceN bs.length) : (pieceAt bs j).length = 64 := by
  rw [pieceAt, List.length_take, List.length_drop, padded_len]
  omega

theorem pieces_c (A : Option Addr) (n c : Nat) (w : World) :
    Calls Try.prog 36 #[.slice A n c] w fun e w' => e = .returned (.func (.func 60) #[] #[.pointer (some ⟨w.heap.size, 0, none⟩)]) ∧ w.alloc (.cells #[.slice A n c] 31) = w' := by
  go_enter Try.func36, Try.ntmps36
  go_wp2_with fail
  go_ret
  exact ⟨rfl, rfl⟩

theorem Calm.mono {B B' : Nat} {W W' : World} (h : Calm B W W') (hB : B' ≤ B) : Calm B' W W' := by
  obtain ⟨row, hg, hr⟩ := h
  exact ⟨row, hg, fun r e => ⟨Nat.le_trans hB (hr r e).1, (hr r e).2⟩⟩

theorem still_load_agg {P : Program} {ops : Array Oper} {w : World} {Q : Act → Prop} {a : Act} {o : Oper} {rest : List Oper} (hw : Region.wanted o (yielded ops a.tmps) = true) (T : TypeId) (x : Operand) (ho : o.op = .load T x) (g off : Nat) (hx : a.eval x = .pointer (some ⟨g, off, none⟩))
    (vs : Array Value) {n : Nat} (hT : AggT P T n) (hn : vs.size = n) (hc : ∀ j v, vs[j]? = some v → w.cell? ⟨g, off + j, none⟩ = some v) (h : wpStill P ops w Q rest (a.put o.dst (.agg vs))) : wpStill P ops w Q (o :: rest) a := by
  refine wpStill_step fun K hK => ?_
  rw [if_pos hw]
  have hl := run_loadVar_agg (P := P) (w := w) g off vs (hn ▸ hT) hc
  unfold Oper.still execOp
  simp only [ho, hx, Instr.loadAt, Instr.sureAddr, Sem.run_bind, Sem.run_pure, Result.andThen_ok, hl]
  exact ⟨rfl, hK _ h⟩

theorem piece_cell {bs : List UInt8} {cur : Array Value} {n x j : Nat} {v : Value} (ht : cur.toList.take (64 * pieceN n) = (padded bs).map b8) (hl : bs.length = n) (hx : x < pieceN n) (hv : (arr8 (pieceAt bs x))[j]? = some v) : cur[64 * x + j]? = some v := by
  have hp := padded_len bs
  rw [hl] at hp
  rw [arr8_get, pieceAt, List.getElem?_take] at hv
  split at hv
  · rw [List.getElem?_drop] at hv
    rw [← Array.getElem?_toList]
    have h : (cur.toList.take (64 * pieceN n))[64 * x + j]? = some v := by rw [ht, List.getElem?_map]; exact hv
    rw [List.getElem?_take] at h
    split at h
    · exact h
    · cases h
  · cases hv

theorem roundIn_rd {m m' l' : Nat} {P : Program} {l : Nat} {f : FuncId} {tmps : Array Value} {assign body : Code} {w : World} {R : Ending → World → Prop} (h : RoundIn Fence.wide m P l f tmps assign body w R) : RoundIn (Rd l') m' P l f tmps assign body w R :=
  ⟨h.1, fun c cs _ => h.2 c cs (fun d hd => by cases hd)⟩

theorem wf_i64' {n : Int} (h1 : -9223372036854775808 ≤ n) (h2 : n ≤ 9223372036854775807) : (Lit.int .i64 n).wf = true := by
  simp [Lit.wf, IntKind.min, IntKind.max, IntKind.signed, IntKind.bits]; omega
theorem padN_nat (n : Nat) (h : n ≤ 1099511627776) : padN (n : Int) = n := by unfold padN; split <;> omega

set_option maxHeartbeats 2000000 in
theorem pieces_iter {w : World} {p B n c : Nat} {A : Option Addr} {bs : List UInt8} (b : Blk w p 31 #[.slice A n c]) (ha : SlB w B A n c bs) (hB : B ≤ w.heap.size) (hn : n ≤ 1099511627776) :
    Iter Try.prog 60 #[.pointer (some ⟨p, 0, none⟩)] (fun j : Nat => #[Value.agg (arr8 (pieceAt bs j))]) (fun _ => True)
      (fun pre x W => x = pre.length ∧ x < pieceN n) (fun xs => xs = upTo (pieceN n)) (fun pre => ∃ k, k < pieceN n ∧ pre = upTo (k + 1)) w := by
  intro l J Jx O W hW hJ hJx hO hY h0
  refine callsIn_wide.2 (calls_of_wp_marks Try.func60 rfl ?_)
  simp only [Try.ntmps60, List.size_toArray, List.length_cons, List.length_nil, Nat.reduceAdd, Nat.reduceSub, Array.replicate_succ, Array.replicate_zero, List.push_toArray, List.append_toArray, List.nil_append, List.cons_append]
  have hz := hW.size
  have hp := (b.below hW b.lt).alloc (.cells #[.func (.yield l) #[] #[]] 83)
  have ha1 := (ha.below (hW.mono hB)).alloc (Nat.le_trans hB hz) (.cells #[.func (.yield l) #[] #[]] 83)
  have c1 : (W.alloc (.cells #[.func (.yield l) #[] #[]] 83)).cell? ⟨p, 0, none⟩ = some (.slice A n c) := by rw [hp.cell]; rfl
  have hbw0 : Below W.heap.size W (W.alloc (.cells #[.func (.yield l) #[] #[]] 83)) := (Below.refl _ _).alloc (Nat.le_refl _) _
  have hy0 := Blk.new W 83 #[.func (.yield l) #[] #[]]
  go_wp2_with fail
  go_step3
  go_wp2_with fail
  go_step3
  go_wp2_with fail
  obtain ⟨V, hV⟩ : ∃ V, V = W.alloc (.cells #[.func (.yield l) #[] #[]] 83) := ⟨_, rfl⟩
  rw [← hV] at hp ha1 c1 hbw0 hy0 ⊢
  have hVz : W.heap.size ≤ V.heap.size := hbw0.size
  have hVs : V.heap.size = W.heap.size + 1 := by rw [hV, World.size_alloc]
  have hbv : Below V.heap.size V V := Below.refl _ _
  clear hV
  have hS : ∀ W', Below V.heap.size V W' → (Below V.heap.size V W' ∧ W'.cell? ⟨p, 0, none⟩ = some (.slice A n c)) := fun W' hb => ⟨hb, by rw [(hp.below hb hp.lt).cell]; rfl⟩
  have hnm : (n : Int) ≤ 1099511627776 := by omega
  have hwf : (Lit.int .i64 (n : Int)).wf = true := wf_i64' (by omega) (by omega)
  have HLn := Lib.hid ha.len
  have hpad : ∀ W', Below V.heap.size V W' → Calls Try.prog 25 #[.int .i64 (n : Int)] W' fun e w' => ∃ A c, e = .returned (.slice A (9 + padZ n) c) ∧ SlB w' w'.heap.size A (9 + padZ n) c (padB n) ∧ Below V.heap.size V w' := by
    intro W' hb
    refine (pad_c (n : Int) hwf W').mono ?_
    rintro e w3 ⟨A3, c3, rfl, h3, hb3⟩
    rw [padN_nat n hn] at h3 ⊢
    exact ⟨A3, c3, rfl, h3.sl, hb.trans (hb3.mono hb.size)⟩
  have hcat : ∀ W' A3 c3, Below V.heap.size V W' → SlB W' W'.heap.size A3 (9 + padZ n) c3 (padB n) → Calls Try.prog 58 #[.slice (some ⟨W'.heap.size, 0, none⟩) 2 2] (W'.alloc (.cells #[.slice A n c, .slice A3 (9 + padZ n) c3] 31)) fun e w' =>
      ∃ A4 c4, e = .returned (.slice A4 (64 * pieceN n) c4) ∧ OwB w' V.heap.size A4 (64 * pieceN n) c4 (padded bs) ∧ Below V.heap.size V w' := by
    intro W' A3 c3 hb h3
    have hzW := hb.size
    have hbA : Below V.heap.size V (W'.alloc (.cells #[.slice A n c, .slice A3 (9 + padZ n) c3] 31)) := hb.alloc hzW _
    have ht : total [⟨A, n, c, bs⟩, ⟨A3, 9 + padZ n, c3, padB n⟩] = 64 * pieceN n := by
      have h : padZ n = (119 - n % 64) % 64 := rfl
      simp [total, pieceN]; omega
    have hj : joined [⟨A, n, c, bs⟩, ⟨A3, 9 + padZ n, c3, padB n⟩] = padded bs := by simp [joined, padded, HLn.out]
    have hpz : padZ n < 64 := padZ_lt n
    refine (concat_c (B := (W'.alloc (.cells #[.slice A n c, .slice A3 (9 + padZ n) c3] 31)).heap.size) [⟨A, n, c, bs⟩, ⟨A3, 9 + padZ n, c3, padB n⟩] ⟨rfl, Nat.le_refl _, by decide, fun _ => ⟨W'.heap.size, 0, rfl, by simp, fun j u hu => ?_⟩⟩ (Nat.le_refl _) ?_ (by rw [ht, pieceN]; omega)).mono ?_
    · rw [(Blk.new W' 31 #[.slice A n c, .slice A3 (9 + padZ n) c3]).cell, Nat.zero_add]
      simpa [Part.v] using hu
    · intro q hq
      simp only [List.mem_cons, List.not_mem_nil, or_false] at hq
      rcases hq with rfl | rfl
      · exact SlB.more ((ha1.below (hb.mono (Nat.le_trans hB (Nat.le_trans hz hVz)))).alloc (Nat.le_trans hB (Nat.le_trans hz (Nat.le_trans hVz hzW))) _) (by rw [World.size_alloc]; omega)
      · exact SlB.more (h3.alloc (Nat.le_refl _) _) (by rw [World.size_alloc]; omega)
    · rintro e w' ⟨A4, c4, rfl, h4, hb4⟩
      rw [ht] at h4 ⊢
      rw [hj] at h4
      exact ⟨A4, c4, rfl, Row.base_le h4 (by rw [World.size_alloc]; omega), hbA.trans (hb4.mono hbA.size)⟩
  refine Code.wp_mono (Q := Exit.then (fun a' w' => ∃ A3 c3 v8 g4 c4 v9 w4, Blk w4 g4 5 v9 ∧ c4 ≤ v9.size ∧ v9.toList.take (64 * pieceN n) = (padded bs).map b8 ∧ 64 * pieceN n ≤ c4 ∧ c4 ≤ maxLen ∧ V.heap.size ≤ g4 ∧ Below V.heap.size V w4 ∧ 
      a' = { tmps := #[Value.func (Fn.yield l) #[] #[], Value.pointer (some ⟨p, 0, none⟩), Value.pointer (some ⟨W.heap.size, 0, none⟩), undef, Value.slice A n c, Value.slice A n c, Value.int IntKind.i64 (n : Int), Value.slice A3 (9 + padZ n) c3, v8, Value.slice (some ⟨g4, 0, none⟩) (64 * pieceN n) c4,
        .func (.func 71) #[] #[.pointer (some ⟨w4.heap.size, 0, none⟩), .pointer (some ⟨w4.heap.size + 1, 0, none⟩)], undef, undef, undef, undef, undef, undef, undef], defers := [] } ∧
      w' = (w4.alloc (.cells #[.slice (some ⟨g4, 0, none⟩) (64 * pieceN n) c4] 31)).alloc (.cells #[.int .i64 64] 3)) (fun _ _ _ => False)) ?_ ?_
  rotate_left
  · go_region_held_law (fun W' => Below V.heap.size V W' ∧ W'.cell? ⟨p, 0, none⟩ = some (.slice A n c)) (first | exact hS _ (by assumption) | exact hS _ (hbv) | exact hS _ (hbv.drew) | exact hS _ (Below.alloc (by assumption) (Below.size (by assumption)) _) | exact hS _ (Below.alloc (Below.alloc (by assumption) (Below.size (by assumption)) _) (Nat.le_trans (Below.size (by assumption)) (by simp)) _))
      (first
        | (go_at_call 25; refine (hpad _ (by first | exact hbv | exact hbv.drew)).mono ?_; rintro e w3 ⟨A3, c3, rfl, h3, hb3⟩)
        | (go_at_call 58; refine (hcat _ _ _ (by assumption) (by assumption)).mono ?_; rintro e w4 ⟨A4, c4, rfl, h4, hb4⟩)
        | (go_at_call 61; refine (chunk_c _ _ _ _).mono ?_; rintro e w5 ⟨rfl, rfl⟩))
    have hN1 : 0 < 64 * pieceN n := by
      have h : padZ n = (119 - n % 64) % 64 := rfl
      rw [pieceN]; omega
    obtain ⟨g4, v9, rfl, hg4, hbk, hsz, htk⟩ := OwB.open_ h4 (Nat.lt_of_lt_of_le hN1 h4.le)
    exact ⟨A3, c3, _, g4, c4, v9, w4, hbk, hsz, htk, h4.le, h4.cap, hg4, by assumption, rfl, rfl⟩
  rintro e a' w' h
  cases e with
  | normal =>
    obtain ⟨A3, c3, v8, g4, c4, v9, w4, hbk, hsz, htk, h4c, h4m, hg4, hb4, rfl, rfl⟩ := h
    go_wp2_with fail
    have hy4 := hy0.below hb4 hy0.lt
    have hz4 := hb4.size
    have hg4l := hbk.lt
    have hVW : W.heap.size < V.heap.size := by omega
    obtain ⟨w5, hw5⟩ : ∃ w5, w5 = (w4.alloc (.cells #[.slice (some ⟨g4, 0, none⟩) (64 * pieceN n) c4] 31)).alloc (.cells #[.int .i64 64] 3) := ⟨_, rfl⟩
    have hw45 : Below w4.heap.size w4 w5 := by rw [hw5]; exact ((Below.refl _ _).alloc (Nat.le_refl _) _).alloc (by simp) _
    have hb1 : Blk w5 w4.heap.size 31 #[.slice (some ⟨g4, 0, none⟩) (64 * pieceN n) c4] := by rw [hw5]; exact (Blk.new _ _ _).alloc _
    have hb2 : Blk w5 (w4.heap.size + 1) 3 #[.int .i64 64] := by
      have h := Blk.new (w4.alloc (.cells #[.slice (some ⟨g4, 0, none⟩) (64 * pieceN n) c4] 31)) 3 #[.int .i64 64]
      rw [World.size_alloc] at h
      rw [hw5]; exact h
    have hy5 := hy4.below hw45 hy4.lt
    have hbk5 := hbk.below hw45 hbk.lt
    have hwW5 : Below W.heap.size W w5 := hbw0.trans ((hb4.trans (hw45.mono hz4)).mono hVz)
    rw [← hw5]
    have hseq := chunk_iter hb1 hb2 h4c (by rw [pieceN]; have hpz : padZ n < 64 := padZ_lt n; omega) (Nat.le_trans h4m (by simp [maxLen]))
    refine wp_range (O := O) (a := _) rfl (enters_of Try.func71 (by kernel_rfl) rfl) hseq (Below.refl _ _) (fun _ => rfl) (fun k hk => ⟨⟨by have := (hO k hk).2; omega, by have := (hO k hk).2; omega⟩, by have := (hO k hk).2; have := hwW5.size; omega⟩)
      (fun O' pre W' => J O' pre W' ∧ Blk W' W.heap.size 83 #[.func (.yield l) #[] #[]] ∧ Blk W' g4 5 v9 ∧ ¬ O' W.heap.size ∧ ¬ O' g4)
      (fun c pre W' => c = .exit 0 ∧ Jx pre W') ?_ ?_ ?_
      (fun O' pre x a' W' => J O' pre W' ∧ Blk W' W.heap.size 83 #[.func (.yield l) #[] #[]] ∧ Blk W' g4 5 v9 ∧ ¬ O' W.heap.size ∧ ¬ O' g4 ∧ x = pre.length ∧ x < pieceN n ∧
        a' = { tmps := #[Value.func (Fn.yield l) #[] #[], Value.pointer (some ⟨p, 0, none⟩), Value.pointer (some ⟨W.heap.size, 0, none⟩), Value.slice (some ⟨g4, 64 * x, none⟩) 64 64, Value.slice A n c, Value.slice A n c, Value.int IntKind.i64 (n : Int), Value.slice A3 (9 + padZ n) c3, v8, Value.slice (some ⟨g4, 0, none⟩) (64 * pieceN n) c4,
        .func (.func 71) #[] #[.pointer (some ⟨w4.heap.size, 0, none⟩), .pointer (some ⟨w4.heap.size + 1, 0, none⟩)], Value.slice (some ⟨g4, 64 * x, none⟩) 64 64, undef, undef, undef, undef, undef, undef], defers := [] }) ?_ ?_ ?_ ?_ ?_
    · exact fun O' => ownFrom_of fun s A A' hs hc => ⟨OwnFrom.calm (hJ O') hs.1 (hc.mono hwW5.size), hc.blk hs.2.1, hc.blk hs.2.2.1, hs.2.2.2⟩
    · exact fun c => ownFrom_of fun s A A' hs hc => ⟨hs.1, OwnFrom.calm hJx hs.2 (hc.mono hwW5.size)⟩
    · exact ⟨OwnFrom.calm (hJ O) h0 (Calm.of_below hwW5), hy5, hbk5, fun h => by have := (hO _ h).2; omega, fun h => by have := (hO _ h).2; omega⟩
    · exact fun O' pre x a' => ownFrom_of fun s A A' hs hc => ⟨OwnFrom.calm (hJ O') hs.1 (hc.mono hwW5.size), hc.blk hs.2.1, hc.blk hs.2.2.1, hs.2.2.2⟩
    · rintro l' O' pre x W' K ⟨hj, hyb, hbk', hoy, hog⟩ ⟨hx1, hx2⟩ hK
      have HX1 := Lib.hid hx1
      clear hx1
      gi_wp2
      exact hK O' _ _ (Kept.refl _ _) ⟨hj, hyb, hbk', hoy, hog, HX1.out, hx2, rfl⟩
    · rintro l' O' pre x a' W' ⟨hj, hyb, hbk', hoy, hog, hx1, hx2, rfl⟩
      have hcell : ∀ j v, (arr8 (pieceAt bs x))[j]? = some v → W'.cell? ⟨g4, 64 * x + j, none⟩ = some v := fun j v hv => by
        rw [hbk'.cell]; exact piece_cell htk HLn.out hx2 hv
      have hsz64 : (arr8 (pieceAt bs x)).size = 64 := by rw [size_arr8, len_pieceAt _ _ (by rw [HLn.out]; exact hx2)]
      have dy : W'.cell? ⟨W.heap.size, 0, none⟩ = some (.func (.yield l) #[] #[]) := by rw [hyb.cell]; rfl
      have HX1 := Lib.hid hx1
      have HLT := Lib.hid hx2
      clear hx1 hx2
      obtain ⟨fn, tmps, assign, body, hy, hR⟩ := hY O' pre x W'.drew (OwnFrom.calm (hJ O') hj (Calm.of_below (Below.refl _ _).drew)) ⟨HX1.out, HLT.out⟩
      have hat : ∀ w, (Instr.arrayAt 34 (.slice (some ⟨g4, 64 * x, none⟩) 64 64)).run Try.prog w = .ok (.pointer (some ⟨g4, 64 * x, none⟩)) w := fun w => run_arrayAt w 34 _ 64 _ 64 64 Try.underlying34 (Nat.le_refl _)
      obtain ⟨vA, hvA⟩ : ∃ vA, vA = arr8 (pieceAt bs x) := ⟨_, rfl⟩
      rw [← hvA] at hy hcell hsz64
      clear hvA
      gi_wp2
      refine wpIn_region_tail (free_rd l') 4 rfl rfl (by kernel_rfl) ?_
      simp only [List.take_succ_cons, List.take_zero, List.drop_succ_cons, List.drop_zero]
      change wpStill _ _ W'.drew (fun a' => wpListIn _ _ _ _ _ _ a' W'.drew) _ _
      still_step
      still_step
      still_step
      refine still_load_agg rfl 34 (.tmp 14) rfl g4 (64 * x) rfl vA aggP64 hsz64 hcell ?_
      refine wpStill_nil ?_
      simp only [Act.put, List.setIfInBounds_toArray, List.set_cons_succ, List.set_cons_zero]
      gi_wp2
      refine (roundIn_rd hR).mono ?_
      rintro e W3 (⟨rfl, O3, hJ3, hk3⟩ | ⟨rfl, hkx, hJx3⟩)
      · gi_wp2
        have hk := (Kept.below (Below.refl _ _).drew : Kept O' O' W' W'.drew).trans hk3
        exact ⟨O3, hk, hJ3, hk.blk hyb hoy, hk.blk hbk' hog, hk.far hyb.lt hoy, hk.far hbk'.lt hog⟩
      · gi_wp2
        exact ⟨((Kept.below (Below.refl _ _).drew : Kept O' O' W' W'.drew).transFrom hkx).mono hwW5.size, rfl, hJx3⟩
    · rintro D O' xs W' hD rfl ⟨hj, hyb, hbk', hoy, hog⟩ hK
      go_wp2_with fail
      refine ⟨by simp, .inl ⟨_, _, rfl, run_takeDeferred hK, ?_⟩⟩
      refine ⟨_, results_none rfl _ _ _, ⟨_, rfl⟩, .inl ⟨O', _, rfl, OwnFrom.calm (hJ O') hj (calm_putObj _ (Nat.le_trans hwW5.size hD) hK rfl)⟩⟩
    · rintro D c pre W' hD ⟨k, hk, rfl⟩ ⟨rfl, hj⟩ hK
      go_wp2_with fail
      refine ⟨by simp, .inl ⟨_, _, rfl, run_takeDeferred hK, ?_⟩⟩
      refine ⟨_, results_none rfl _ _ _, ⟨_, rfl⟩, .inr ⟨_, ⟨k, hk, rfl⟩, OwnFrom.calm hJx hj (calm_putObj _ (Nat.le_trans hwW5.size hD) hK rfl)⟩⟩
  | _ => exact h.elim
end Go.Proofs.Ytbphoilfiahnpaa
