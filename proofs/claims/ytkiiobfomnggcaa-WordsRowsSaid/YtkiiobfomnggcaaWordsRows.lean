/-
  WordsRows: which rows any bytes begin with (printed by wip/gen_wrows.py).
-/
import Derived.Test.YtkiiobfomnggcaaRowsC
import Derived.Test.YtkiiobfomnggcaaOver
import Derived.Test.YtkiiobfomnggcaaNum
namespace Go.Proofs.Ytkiiobfomnggcaa.wordsRows
open Go.RowKit Go.Shelf
set_option linter.unusedVariables false
set_option linter.unusedSimpArgs false
set_option maxRecDepth 100000
attribute [local go_sem] Oper.semAt_some

theorem copy_own {w : World} {base g n : Nat} {bs : List UInt8} (h : OwB w base (some ⟨g, 0, none⟩) (n + 2) (n + 2) (bs ++ [0xa5, 0x5a])) (hl : bs.length = n) : OwB w base (some ⟨g, 0, none⟩) n (n + 2) bs := by
  have := h.trim (k := n) (by omega)
  rwa [List.take_left' hl] at this
theorem wrap_u64_nn (x : Int) : 0 ≤ IntKind.u64.wrap x := by rw [wrap_u64]; omega
theorem res_bool {P : Program} {w : World} {fn : Func} {p : Tmp} {ty : TypeId} (hr : fn.results = #[.cell p ty]) (tmps : Array Value) (g : Nat) (tb : TypeId) (b : Bool) (ht : P.underlying ty = some .bool)
    (hp : tmps.getD p undef = .pointer (some ⟨g, 0, none⟩)) (hb : Blk w g tb #[.bool b]) : (results fn tmps).run P w = .ok (.bool b) w := by
  have hp' : tmps[p]?.getD undef = .pointer (some ⟨g, 0, none⟩) := by simpa using hp
  have hc : w.cell? ⟨g, 0, none⟩ = some (.bool b) := by rw [hb.cell]; rfl
  simp [results, hr, hp', asAddr, loadVar, isAgg, run_underlying ht, hc]

theorem ex1 : ((eaten (rowsOf [0, 1, 7, 0, 0]) : Nat) == 5) = true := by decide
theorem ex2 : ((eaten (rowsOf [0, 2, 7]) : Nat) == 3) = false := by decide
/-- What stands while the range runs: j rows have come. -/
structure St (w : World) (g3 g4 g8 g10 g11 mm L c8 : Nat) (A8 : Option Addr) (ls : List Lst) (bs : List UInt8) (O : Nat → Prop) (j k : Nat) (W : World) : Prop where
  n3 : ¬ O g3
  n4 : ¬ O g4
  n8 : ¬ O g8
  nr : ∀ g, wrote A8 c8 = some g → ¬ O g
  o10 : O g10
  o11 : O g11
  b3 : Blk W g3 3 #[.int .i64 (mm : Int)]
  b4 : Blk W g4 4 #[.bool false]
  b8 : Blk W g8 30 #[.slice A8 L c8]
  row : Row W w.heap.size 22 1 A8 L c8 (ls.map Lst.val)
  rd : Reads W w.heap.size ls (rowsOf bs)
  b10 : Blk W g10 3 #[.int .i64 (j : Int)]
  b11 : Blk W g11 3 #[.int .i64 (atR bs k : Int)]
  below : Below w.heap.size w W
section
variable {w : World} {g3 g4 g8 g10 g11 mm L c8 : Nat} {A8 : Option Addr} {ls : List Lst} {bs : List UInt8} {O : Nat → Prop} {j k : Nat} {W W' : World}
theorem rd_later {B : Nat} (h : Reads W B ls (rowsOf bs)) (hc : ∀ p : Addr, p.block < B → W'.cell? p = W.cell? p) : Reads W' B ls (rowsOf bs) := ⟨h.1, fun i l r h1 h2 => (h.2 i l r h1 h2).keep hc⟩
theorem St.calm {B : Nat} (h : St w g3 g4 g8 g10 g11 mm L c8 A8 ls bs O j k W) (hc : Calm B W W') (hB : w.heap.size ≤ B) : St w g3 g4 g8 g10 g11 mm L c8 A8 ls bs O j k W' :=
  ⟨h.n3, h.n4, h.n8, h.nr, h.o10, h.o11, hc.blk h.b3, hc.blk h.b4, hc.blk h.b8, hc.row h.row, h.rd.below (hc.below (Below.refl _ _) hB h.below.size), hc.blk h.b10, hc.blk h.b11, hc.below h.below hB (Nat.le_refl _)⟩
theorem St.on (h : St w g3 g4 g8 g10 g11 mm L c8 A8 ls bs O j k W) (hb : Below W.heap.size W W') : St w g3 g4 g8 g10 g11 mm L c8 A8 ls bs O j k W' :=
  ⟨h.n3, h.n4, h.n8, h.nr, h.o10, h.o11, h.b3.below hb h.b3.lt, h.b4.below hb h.b4.lt, h.b8.below hb h.b8.lt, h.row.below hb, h.rd.below (hb.mono h.below.size), h.b10.below hb h.b10.lt, h.b11.below hb h.b11.lt, h.below.trans (hb.mono h.below.size)⟩
theorem St.more (h : St w g3 g4 g8 g10 g11 mm L c8 A8 ls bs O j k W) (g : Nat) (hg : W.heap.size ≤ g) : St w g3 g4 g8 g10 g11 mm L c8 A8 ls bs (fun i => O i ∨ i = g) j k W :=
  ⟨fun e => e.elim h.n3 (fun e => by have := h.b3.lt; omega), fun e => e.elim h.n4 (fun e => by have := h.b4.lt; omega), fun e => e.elim h.n8 (fun e => by have := h.b8.lt; omega), fun i hk e => e.elim (h.nr i hk) (fun e => by
    rcases Row.wrote_lt h.row with h1 | ⟨g', _, h1, _, hlt, _⟩
    · rw [h1] at hk; cases hk
    · rw [h1] at hk; cases hk; omega), .inl h.o10, .inl h.o11, h.b3, h.b4, h.b8, h.row, h.rd, h.b10, h.b11, h.below⟩
/-- A row of the caller's own is written. -/
theorem St.over (h : St w g3 g4 g8 g10 g11 mm L c8 A8 ls bs O j k W) {A? : Option Nat} (hg : W.grownBy W' A?) (hA : ∀ g, A? = some g → O g ∧ w.heap.size ≤ g ∧ g ≠ g10 ∧ g ≠ g11) : St w g3 g4 g8 g10 g11 mm L c8 A8 ls bs O j k W' := by
  have hb : Below w.heap.size W W' := (Below.refl _ _).grown hg h.below.size (fun k hk => (hA k hk).2.1)
  have ne : ∀ {g : Nat}, ¬ O g → some g ≠ A? := fun hg e => hg (hA _ e.symm).1
  exact ⟨h.n3, h.n4, h.n8, h.nr, h.o10, h.o11, h.b3.grown hg (ne h.n3), h.b4.grown hg (ne h.n4), h.b8.grown hg (ne h.n8), Row.keepRow h.row hg (by
    cases hw : wrote A8 c8 with
    | none => exact .inl rfl
    | some g => exact .inr (fun e => h.nr g hw (hA g e.symm).1)), h.rd.below hb, h.b10.grown hg (fun e => (hA _ e.symm).2.2.1 rfl), h.b11.grown hg (fun e => (hA _ e.symm).2.2.2 rfl), h.below.trans hb⟩
theorem St.set11 (h : St w g3 g4 g8 g10 g11 mm L c8 A8 ls bs O j k W) (hw : w.heap.size ≤ g11) (hne : g10 ≠ g11) (a2 : Nat) (ha : a2 = atR bs (k + 1)) : St w g3 g4 g8 g10 g11 mm L c8 A8 ls bs O j (k + 1) (W.setCell ⟨g11, 0, none⟩ (.int .i64 (a2 : Int))) := by
  have ne : ∀ {g : Nat}, ¬ O g → g ≠ g11 := fun hg e => hg (e ▸ h.o11)
  have hb : Below w.heap.size W (W.setCell ⟨g11, 0, none⟩ (.int .i64 (a2 : Int))) := (Below.refl _ _).setCell (p := ⟨g11, 0, none⟩) hw _
  exact ⟨h.n3, h.n4, h.n8, h.nr, h.o10, h.o11, h.b3.far (ne h.n3) _, h.b4.far (ne h.n4) _, h.b8.far (ne h.n8) _, Row.keepRow h.row (grownBy_setCell _ g11 0 _) (.inr (fun e => h.nr _ e h.o11)), h.rd.below hb, h.b10.far hne _, by rw [← ha]; simpa using h.b11.set_ 0 (.int .i64 (a2 : Int)), h.below.trans hb⟩
theorem St.set10 (h : St w g3 g4 g8 g10 g11 mm L c8 A8 ls bs O j k W) (hw : w.heap.size ≤ g10) (hne : g11 ≠ g10) : St w g3 g4 g8 g10 g11 mm L c8 A8 ls bs O (j + 1) k (W.setCell ⟨g10, 0, none⟩ (.int .i64 ((j : Int) + 1))) := by
  have ne : ∀ {g : Nat}, ¬ O g → g ≠ g10 := fun hg e => hg (e ▸ h.o10)
  have hb : Below w.heap.size W (W.setCell ⟨g10, 0, none⟩ (.int .i64 ((j : Int) + 1))) := (Below.refl _ _).setCell (p := ⟨g10, 0, none⟩) hw _
  exact ⟨h.n3, h.n4, h.n8, h.nr, h.o10, h.o11, h.b3.far (ne h.n3) _, h.b4.far (ne h.n4) _, h.b8.far (ne h.n8) _, Row.keepRow h.row (grownBy_setCell _ g10 0 _) (.inr (fun e => h.nr _ e h.o10)), h.rd.below hb, by simpa using h.b10.set_ 0 (.int .i64 ((j : Int) + 1)), h.b11.far hne _, h.below.trans hb⟩
end

set_option maxHeartbeats 4000000 in
theorem walk_big (A0 : Option Addr) (n0 c0 : Nat) (bs : List UInt8) (a1 : Int) (w : World) (w0 : SlB w w.heap.size A0 n0 c0 bs) (y0 : c0 ≤ 140737488351232) (w1 : (Lit.int .i64 a1).wf = true) (hbi : (16384 : Int) < (n0 : Int)) :
    Calls Try.prog 3 #[.slice A0 n0 c0, .int .i64 a1] w fun e w' => e = .returned (.bool true) ∧ Below w.heap.size w w' := by
  have hlen : bs.length = n0 := w0.len
  have hmx := w0.mx
  have hmc := w0.le
  obtain ⟨g3, hg3⟩ : ∃ g, g = w.heap.size := ⟨_, rfl⟩
  obtain ⟨g4, hg4⟩ : ∃ g, g = w.heap.size + 1 := ⟨_, rfl⟩
  obtain ⟨v, hv⟩ : ∃ v, v = (w.alloc (.cells #[.int .i64 a1] 3)).alloc (.cells #[.bool false] 4) := ⟨_, rfl⟩
  have b3 : Blk v g3 3 #[.int .i64 a1] := by rw [hv, hg3]; exact (Blk.new _ _ _).alloc _
  have b4 : Blk v g4 4 #[.bool false] := by
    have := Blk.new (w.alloc (.cells #[.int .i64 a1] 3)) 4 #[.bool false]
    rw [World.size_alloc] at this
    rw [hv, hg4]; exact this
  have hbv : Below w.heap.size w v := by rw [hv]; exact ((Below.refl _ _).alloc (Nat.le_refl _) _).alloc (by simp) _
  have hz := hbv.size
  have hg4v := b4.lt
  have hG : g3 < g4 ∧ w.heap.size ≤ g3 := by omega
  have d4 : v.cell? ⟨g4, 0, none⟩ = some (.bool false) := by rw [b4.cell]; rfl
  have f4 := b4.frozen 0
  have HV := Lib.hid hv
  have HG3 := Lib.hid hg3
  have HG4 := Lib.hid hg4
  have HB3 := Lib.hid b3
  have HB4 := Lib.hid b4
  have HD := Lib.hid w0
  have HL := Lib.hid hlen
  clear hv hg3 hg4 b3 b4 w0 w1 hlen
  refine calls_of_wp_marks Try.func3 rfl ?_
  simp only [Try.ntmps3, List.size_toArray, List.length_cons, List.length_nil, Nat.reduceAdd, Nat.reduceSub, Array.replicate_succ, Array.replicate_zero, List.push_toArray, List.append_toArray, List.nil_append, List.cons_append]
  go_wp2_with fail
  have hb4' : Blk ((w.alloc (.cells #[.int .i64 a1] 3)).alloc (.cells #[.bool true] 4)) (w.heap.size + 1) 4 #[.bool true] := by
    have := Blk.new (w.alloc (.cells #[.int .i64 a1] 3)) 4 #[.bool true]
    rw [World.size_alloc] at this
    exact this
  refine ⟨_, res_bool rfl _ (w.heap.size + 1) 4 true Try.underlying4 rfl hb4', rfl, ?_⟩
  exact ((Below.refl _ _).alloc (Nat.le_refl _) _).alloc (by simp) _

set_option maxHeartbeats 4000000 in
theorem walk_main (A0 : Option Addr) (n0 c0 : Nat) (bs : List UInt8) (a1 : Int) (w : World) (w0 : SlB w w.heap.size A0 n0 c0 bs) (y0 : c0 ≤ 140737488351232) (w1 : (Lit.int .i64 a1).wf = true) (hbi : ¬ (16384 : Int) < (n0 : Int)) :
    Calls Try.prog 3 #[.slice A0 n0 c0, .int .i64 a1] w fun e w' => e = .returned (.bool true) ∧ Below w.heap.size w w' := by
  have hlen : bs.length = n0 := w0.len
  have hmx := w0.mx
  have hmc := w0.le
  obtain ⟨g3, hg3⟩ : ∃ g, g = w.heap.size := ⟨_, rfl⟩
  obtain ⟨g4, hg4⟩ : ∃ g, g = w.heap.size + 1 := ⟨_, rfl⟩
  obtain ⟨v, hv⟩ : ∃ v, v = (w.alloc (.cells #[.int .i64 a1] 3)).alloc (.cells #[.bool false] 4) := ⟨_, rfl⟩
  have b3 : Blk v g3 3 #[.int .i64 a1] := by rw [hv, hg3]; exact (Blk.new _ _ _).alloc _
  have b4 : Blk v g4 4 #[.bool false] := by
    have := Blk.new (w.alloc (.cells #[.int .i64 a1] 3)) 4 #[.bool false]
    rw [World.size_alloc] at this
    rw [hv, hg4]; exact this
  have hbv : Below w.heap.size w v := by rw [hv]; exact ((Below.refl _ _).alloc (Nat.le_refl _) _).alloc (by simp) _
  have hz := hbv.size
  have hg4v := b4.lt
  have hG : g3 < g4 ∧ w.heap.size ≤ g3 := by omega
  have d4 : v.cell? ⟨g4, 0, none⟩ = some (.bool false) := by rw [b4.cell]; rfl
  have f4 := b4.frozen 0
  have HV := Lib.hid hv
  have HG3 := Lib.hid hg3
  have HG4 := Lib.hid hg4
  have HB3 := Lib.hid b3
  have HB4 := Lib.hid b4
  have HD := Lib.hid w0
  have HL := Lib.hid hlen
  clear hv hg3 hg4 b3 b4 w0 w1 hlen
  refine calls_of_wp_marks Try.func3 rfl ?_
  simp only [Try.ntmps3, List.size_toArray, List.length_cons, List.length_nil, Nat.reduceAdd, Nat.reduceSub, Array.replicate_succ, Array.replicate_zero, List.push_toArray, List.append_toArray, List.nil_append, List.cons_append]
  obtain ⟨u, hu⟩ : ∃ u : Nat, IntKind.u64.wrap a1 = (u : Int) := ⟨(IntKind.u64.wrap a1).toNat, by rw [Int.toNat_of_nonneg (wrap_u64_nn _)]⟩
  obtain ⟨kk, hkk⟩ : ∃ kk : Nat, kk = u % 50 := ⟨_, rfl⟩
  obtain ⟨mm, hmm⟩ : ∃ mm : Nat, mm = 1 + kk := ⟨_, rfl⟩
  have hM1 : 1 ≤ mm := by omega
  have hM50 : mm ≤ 50 := by omega
  have htm : ((u : Int)).tmod 50 = (kk : Int) := by rw [Int.tmod_eq_emod_of_nonneg (by omega)]; omega
  have hmd : (u : Int) % 50 = (kk : Int) := by omega
  have hMi : 1 + (kk : Int) = (mm : Int) := by omega
  have hu50 : (kk : Int) < 50 := by omega
  have hu0 : (0 : Int) ≤ (kk : Int) := by omega
  clear hkk hmm d4 f4
  obtain ⟨r, hr⟩ : ∃ r, ((eaten (rowsOf bs) : Nat) == n0) = r := ⟨_, rfl⟩
  have HR := Lib.hid hr
  clear hr
  obtain ⟨t1, ht1⟩ : ∃ t1, t1 = v.alloc (.cells #[.int .u8 0, .int .u8 1, .int .u8 7, .int .u8 0, .int .u8 0] 5) := ⟨_, rfl⟩
  have HST1 := Lib.hid (show SlB t1 t1.heap.size (some ⟨v.heap.size, 0, none⟩) 5 5 [0, 1, 7, 0, 0] by rw [ht1]; exact (OwB.lit v v.heap.size #[.int .u8 0, .int .u8 1, .int .u8 7, .int .u8 0, .int .u8 0] [0, 1, 7, 0, 0] 5 (Nat.le_refl _) rfl (by decide) rfl).sl)
  have hbt1 : Below v.heap.size v t1 := by rw [ht1]; exact below_alloc _ _
  have HT1 := Lib.hid ht1
  have HZV := Lib.hid (show w.heap.size + 1 + 1 = v.heap.size by rw [HV.out]; simp)
  clear ht1
  go_wp2_with (first
    | (go_at_call 8; (fail_if_success have hx := H1); rw [HZV.out, ← HG4.out, ← HG3.out, ← HV.out, ← HT1.out]; refine (whole_c HST1.out (Nat.le_refl _) (by omega) true ex1).mono ?_; rintro e x1 ⟨rfl, hb1⟩; have hx1 := hbv.trans ((hbt1.trans (hb1.mono hbt1.size)).mono hz); have hz1 := hx1.size; have hvx1 := hbt1.trans (hb1.mono hbt1.size); have hzv1 := hvx1.size; have H1 := True.intro)
    | (go_at_call 8; have hprev := H1; clear hprev; (fail_if_success have hx := H2); refine (whole_c (OwB.sl (OwB.lit x1 x1.heap.size #[.int .u8 0, .int .u8 2, .int .u8 7] [0, 2, 7] 3 (Nat.le_refl _) rfl (by decide) rfl)) (Nat.le_refl _) (by omega) false ex2).mono ?_; rintro e x2 ⟨rfl, hb2⟩; have hvx2 := hvx1.trans (((below_alloc x1 _).trans (hb2.mono (by simp))).mono hzv1); have hzv2 := hvx2.size; have hb32 := HB3.out.below hvx2 HB3.out.lt; have d3 : x2.cell? ⟨g3, 0, none⟩ = some (.int .i64 a1) := (by rw [hb32.cell]; rfl); have f3 := hb32.frozen 0; have H2 := True.intro)
    | (go_at_call 9; obtain ⟨V3, hV3⟩ : ∃ V3, V3 = x2.setCell ⟨g3, 0, none⟩ (.int .i64 (mm : Int)) := ⟨_, rfl⟩; rw [← hV3]; have b33 : Blk V3 g3 3 #[.int .i64 (mm : Int)] := (by rw [hV3]; simpa using hb32.set_ 0 (.int .i64 (mm : Int))); have b43 : Blk V3 g4 4 #[.bool false] := (by rw [hV3]; exact (HB4.out.below hvx2 HB4.out.lt).far (by show g4 ≠ g3; omega) _); have hw3 : Below w.heap.size w V3 := (by rw [hV3]; exact (hbv.trans (hvx2.mono hz)).setCell (p := ⟨g3, 0, none⟩) hG.2 _); have hzw3 := hw3.size; have hg43 := b43.lt; clear hV3 d3 f3 hb32; refine (copy_c (HD.out.below hw3) hzw3 (by omega)).mono ?_; rintro e x4 ⟨rfl, hoc, hb4⟩; have HCP := Lib.hid (copy_own hoc HL.out); have hw4 := hw3.trans (hb4.mono hzw3); have hz4 := hw4.size; have b34 := b33.below hb4 b33.lt; have b44 := b43.below hb4 b43.lt; have hcpl : V3.heap.size < x4.heap.size := (by obtain ⟨g', cur, e1, _, hbk, _⟩ := OwB.open_ hoc (by omega); cases e1; exact hbk.lt); clear hoc)
    | (go_at_call 10; refine (rows_c HCP.out.sl (Nat.le_refl _) (by omega)).mono ?_; rintro e x5 ⟨g6, A6, c6, rfl, hg6, q6, o6, hn6, hb5⟩; have hw5 := hw4.trans (hb5.mono hz4); have hz5 := hw5.size; have b35 := b34.below hb5 b34.lt; have b45 := b44.below hb5 b44.lt; have HCP5 := Lib.hid (HCP.out.below hb5))
    | (go_at_call 8; have hprev := H2; clear hprev; refine (whole_c HCP5.out.sl (Nat.le_refl _) (by omega) r HR.out).mono ?_; rintro e x6 ⟨rfl, hb6⟩; have hw6 := hw5.trans (hb6.mono hz5); have hz6 := hw6.size; have b36 := b35.below hb6 b35.lt; have b46 := b45.below hb6 b45.lt; have HCP6 := Lib.hid (HCP5.out.below hb6); have q66 := q6.below hb6 q6.lt; have o66 := OwB.below o6 hb6)
    | (go_at_call 11; refine (over_c HCP6.out (by omega)).mono ?_; rintro e x7 ⟨rfl, hg7⟩; have hwr7 : wrote (some ⟨V3.heap.size, 0, none⟩) (n0 + 2) = some V3.heap.size := (by rw [wrote, if_neg (by omega)]; rfl); rw [hwr7] at hg7; have b37 := b36.grown hg7 (by simp; omega); have b47 := b46.grown hg7 (by simp; omega); have q67 := q66.grown hg7 (by simp; omega); have o67 : OwB x7 x4.heap.size A6 n0 c6 bs := Row.keepRow o66 hg7 (.inr (not_wrote o66 hcpl)); have hw7 := hw6.grown hg7 hz6 (fun k hk => by cases hk; omega); have hz7 := hw7.size; have hz67 := hg7.size; clear hg7)
    | (go_at_call 12; refine (refrows_c (HD.out.below hw7) hz7 (by omega)).mono ?_; rintro e x8 ⟨A8, c8, ls, rfl, hrow, hrd, hb8⟩; have hw8 := hw7.trans (hb8.mono hz7); have hz8 := hw8.size; have b38 := b37.below hb8 b37.lt; have b48 := b47.below hb8 b47.lt; have q68 := q67.below hb8 q67.lt; have o68 := OwB.below o67 hb8; have hz78 := hb8.size; have HROW := Lib.hid (Row.base_le hrow hz7); have HRD := Lib.hid hrd; have HB38 := Lib.hid b38; have HB48 := Lib.hid b48; have HQ8 := Lib.hid q68; have HO8 := Lib.hid o68; have HW8 := Lib.hid hw8; have hl48 := b48.lt; have hl68 := q68.lt; clear hrow hrd b38 b48 q68 o68 hw8))
  obtain ⟨L, hL⟩ : ∃ L, L = (rowsOf bs).length := ⟨_, rfl⟩
  have HLL := Lib.hid hL
  obtain ⟨g8, hg8⟩ : ∃ g, g = x8.heap.size := ⟨_, rfl⟩
  obtain ⟨g10, hg10⟩ : ∃ g, g = x8.heap.size + 1 := ⟨_, rfl⟩
  obtain ⟨g11, hg11⟩ : ∃ g, g = x8.heap.size + 1 + 1 := ⟨_, rfl⟩
  obtain ⟨x9, hx9⟩ : ∃ x9, x9 = ((x8.alloc (.cells #[.slice A8 (rowsOf bs).length c8] 30)).alloc (.cells #[.int .i64 0] 3)).alloc (.cells #[.int .i64 0] 3) := ⟨_, rfl⟩
  have h89 : Below x8.heap.size x8 x9 := by rw [hx9]; exact (((Below.refl _ _).alloc (Nat.le_refl _) _).alloc (by simp) _).alloc (by simp only [World.size_alloc]; omega) _
  have b89 : Blk x9 g8 30 #[.slice A8 L c8] := by rw [hx9, hg8, hL]; exact ((Blk.new _ _ _).alloc _).alloc _
  have b109 : Blk x9 g10 3 #[.int .i64 0] := by
    have := (Blk.new (x8.alloc (.cells #[.slice A8 (rowsOf bs).length c8] 30)) 3 #[.int .i64 0]).alloc (.cells #[.int .i64 0] 3)
    rw [World.size_alloc] at this
    rw [hx9, hg10]; exact this
  have b119 : Blk x9 g11 3 #[.int .i64 0] := by
    have := Blk.new ((x8.alloc (.cells #[.slice A8 (rowsOf bs).length c8] 30)).alloc (.cells #[.int .i64 0] 3)) 3 #[.int .i64 0]
    rw [World.size_alloc, World.size_alloc] at this
    rw [hx9, hg11]; exact this
  rw [← hx9, ← hg11, ← hg10, ← hg8, ← hL]
  have hrow8 := HROW.out
  rw [← hL] at hrow8
  have hg8w : g4 < g8 ∧ g6 < g8 ∧ g8 < g10 ∧ g10 < g11 := by omega
  have hl11 := b119.lt
  have hg68 : w.heap.size ≤ g6 := by omega
  have hx8s : x8.heap.size ≤ g8 := by omega
  have st9 : St w g3 g4 g8 g10 g11 mm L c8 A8 ls bs (fun k => k = g10 ∨ k = g11) 0 0 x9 := ⟨by omega, by omega, by omega, fun g hk e => by
      rcases Row.wrote_lt hrow8 with h1 | ⟨g', _, h1, _, hlt, _⟩
      · rw [h1] at hk; cases hk
      · rw [h1] at hk; cases hk; omega, .inl rfl, .inr rfl, HB38.out.below h89 HB38.out.lt, HB48.out.below h89 HB48.out.lt, b89, hrow8.below h89, HRD.out.below (h89.mono hz8), b109, b119, HW8.out.trans (h89.mono hz8)⟩
  have hz9 := st9.below.size
  have HO9 := Lib.hid (HO8.out.below h89)
  have HQ9 := Lib.hid (HQ8.out.below h89 HQ8.out.lt)
  have HST := Lib.hid st9
  have hx4g : x4.heap.size ≤ x8.heap.size := by have := HO8.out; omega
  clear st9 h89 b89 b109 b119 hx9 hg8 hg10 hg11 hL hrow8
  refine wp_at fun a0 ha0 => ?_
  refine wp_rangeG (O := fun k => k = g10 ∨ k = g11) (a := a0) (by rw [ha0]; rfl) (enters_of Try.func30 (by kernel_rfl) rfl) (rows_iter HQ9.out HO9.out (by omega)) (Below.refl _ _) (fun _ => rfl) (fun k hk => ⟨⟨by rcases hk with rfl | rfl <;> omega, fun e => by
      rcases Row.wrote_lt HO8.out with h1 | ⟨g', _, h1, _, hlt, _⟩
      · rw [h1] at e; cases e
      · rw [h1] at e; cases e; rcases hk with rfl | rfl <;> omega⟩, by rcases hk with rfl | rfl <;> omega⟩)
    (fun O' pre W' => St w g3 g4 g8 g10 g11 mm L c8 A8 ls bs O' pre.length pre.length W' ∧ pre.length < mm)
    (fun cx pre W' => cx = .exit 0 ∧ (∃ O', St w g3 g4 g8 g10 g11 mm L c8 A8 ls bs O' pre.length pre.length W') ∧ pre.length = mm) (fun O' => ownFrom_of fun s X X' hs hc => ⟨hs.1.calm hc hz9, hs.2⟩) (fun c => ownFrom_of fun s X X' hs hc => ⟨hs.1, by obtain ⟨O', h⟩ := hs.2.1; exact ⟨O', h.calm hc hz9⟩, hs.2.2⟩)
    (fun O' pre Wa Wb g hi hb hg => ⟨(hi.1.more g hg).on hb, hi.2⟩) ⟨HST.out, by show 0 < mm; omega⟩
    (fun O' pre x a' W' => (St w g3 g4 g8 g10 g11 mm L c8 A8 ls bs O' pre.length pre.length W' ∧ pre.length < mm) ∧ x.1 = pre.length ∧ x.1 < L ∧ OwB W' x9.heap.size x.2.1 (rowR bs x.1).length x.2.2 (rowR bs x.1) ∧ (∀ g, wrote x.2.1 x.2.2 = some g → O' g) ∧ a' = { tmps := (((a0.tmps.setIfInBounds 43 (.int .i64 (atR bs x.1 : Int))).setIfInBounds 44 (.slice x.2.1 (rowR bs x.1).length x.2.2)).setIfInBounds 12 (.int .i64 (atR bs x.1 : Int))).setIfInBounds 13 (.slice x.2.1 (rowR bs x.1).length x.2.2), defers := [] })
    (fun O' pre x a' => ownFrom_of fun s X X' hs hc => ⟨⟨hs.1.1.calm hc hz9, hs.1.2⟩, hs.2.1, hs.2.2.1, hc.row hs.2.2.2.1, hs.2.2.2.2⟩) ?_ ?_ ?_ ?_
  · rintro l' O' pre x W' K hI ⟨hx1, hx2, hx3, hx4⟩ hK
    have HX1 := Lib.hid hx1
    clear hx1
    rw [encR]
    simp only [fold_two]
    subst ha0
    simp only [List.setIfInBounds_toArray, List.set_cons_succ, List.set_cons_zero]
    gi_wp2
    exact hK O' _ _ (Kept.refl _ _) ⟨hI, HX1.out, by rw [HLL.out]; exact hx2, hx3, hx4, rfl⟩
  · rintro l' O' pre x a' W' ⟨⟨sx, hlt⟩, hx1, hx2, hx3, hx4, rfl⟩
    rw [← hx1] at sx hlt
    obtain ⟨j, A5, c5⟩ := x
    dsimp only at hx1 hx2 hx3 hx4 sx hlt ⊢
    have hx2' : j < (rowsOf bs).length := by rw [← HLL.out]; exact hx2
    have hs := atR_succ hx2'
    have hle := atR_le bs (j + 1)
    have hrl := sx.rd.1
    obtain ⟨lst, hlst⟩ : ∃ lst, ls[j]? = some lst := ⟨_, List.getElem?_eq_getElem (by omega)⟩
    have hrow' : (rowsOf bs)[j]? = some (rowR bs j) := by rw [rowR, List.getElem?_eq_getElem hx2']; rfl
    have hsl := sx.rd.2 j lst _ hlst hrow'
    obtain ⟨gl, cur, eA, _, hbk, hsz, htk⟩ := sx.row.2.2.2 (by have := sx.row.2.1; omega)
    have hcur : cur[j]? = some lst.val := by
      have h1 : (cur.toList.take (L * 1))[j]? = cur[j]? := by rw [List.getElem?_take, if_pos (by omega)]; simp
      rw [htk, List.getElem?_map, hlst] at h1
      exact h1.symm
    have dl : W'.cell? ⟨gl, j, none⟩ = some (.slice lst.A lst.n lst.c) := by rw [hbk.cell, hcur]; rfl
    have k8 : W'.cell? ⟨g8, 0, none⟩ = some (.slice (some ⟨gl, 0, none⟩) L c8) := by rw [sx.b8.cell, eA]; rfl
    have hlc := sx.row.2.1
    have hlm : c8 ≤ 9223372036854775807 := sx.row.2.2.1
    obtain ⟨row, erow⟩ : ∃ row, row = rowR bs j := ⟨_, rfl⟩
    rw [← erow] at hsl hx3 hs
    have hln := hx3.len
    obtain ⟨ln, el⟩ : ∃ ln, ln = row.length := ⟨_, rfl⟩
    obtain ⟨a, ea⟩ : ∃ a, a = atR bs j := ⟨_, rfl⟩
    obtain ⟨a2, e2⟩ : ∃ a2, a2 = atR bs (j + 1) := ⟨_, rfl⟩
    rw [← ea, ← el, ← e2] at hs
    rw [← e2, HL.out] at hle
    rw [← ea, ← erow, ← el]
    rw [← el] at hx3
    have hval : (a : Int) + (2 + (ln : Int)) = (a2 : Int) := by omega
    have ha0' : (0 : Int) ≤ (a : Int) := by omega
    have hab : (a : Int) ≤ 16384 := by omega
    have hl0 : (0 : Int) ≤ (ln : Int) := by omega
    have hlb : (ln : Int) ≤ 16384 := by omega
    have hj0 : (0 : Int) ≤ (j : Int) := by omega
    have hjb : (j : Int) ≤ 50 := by omega
    have hjl : (j : Int) < (L : Int) := by omega
    have hil : ¬ (L : Int) ≤ (j : Int) := by omega
    have hne1 : ((a : Int) != (a : Int)) = false := by simp
    have k10 : W'.cell? ⟨g10, 0, none⟩ = some (.int .i64 (j : Int)) := by rw [sx.b10.cell]; rfl
    have k11 : W'.cell? ⟨g11, 0, none⟩ = some (.int .i64 (a : Int)) := by rw [sx.b11.cell, ea]; rfl
    have f11 := sx.b11.frozen 0
    have hgw10 : w.heap.size ≤ g10 := by omega
    have hgw11 : w.heap.size ≤ g11 := by omega
    obtain ⟨V1, hV1⟩ : ∃ V1, V1 = W'.setCell ⟨g11, 0, none⟩ (.int .i64 (a2 : Int)) := ⟨_, rfl⟩
    have s1 := sx.set11 hgw11 (by omega) a2 e2
    rw [← hV1] at s1
    have kp1 : Kept O' O' W' V1 := by rw [hV1]; exact Kept.setCell sx.o11 0 _
    have r1 : OwB V1 x9.heap.size A5 ln c5 row := by rw [hV1]; exact Row.keepRow hx3 (grownBy_setCell _ g11 0 _) (.inr (not_wrote hx3 hl11))
    have HX1 := Lib.hid (show (pre ++ [(j, A5, c5)]).length = j + 1 by rw [List.length_append, hx1]; rfl)
    have HX4 := Lib.hid hx4
    have HV1 := Lib.hid hV1
    have HS1 := Lib.hid s1
    have HKP1 := Lib.hid kp1
    have HR1 := Lib.hid r1
    have HX3 := Lib.hid hx3
    have HSL := Lib.hid hsl
    have HLT := Lib.hid hlt
    have ho10 := sx.o10
    clear hx1 hs hle hrl hlst hrow' hbk hsz htk hcur hln el ea e2 hV1 s1 kp1 r1 sx hx3 hsl hlt hx4 eA erow
    subst ha0
    simp only [List.setIfInBounds_toArray, List.set_cons_succ, List.set_cons_zero]
    refine wpIn_block ?_
    refine wpIn_seq_k fun K1 hK1 => ?_
    have HK1 := Lib.hid hK1
    clear hK1
    refine wpIn_seq_k fun K2 hK2 => ?_
    have HK2 := Lib.hid hK2
    clear hK2
    refine wpIn_region_of (free_rd l') rfl (fun ⟨_, _, h⟩ => h) ?_
    go_wp2_with (go_at_call 13; refine (same_c HX3.out.sl HSL.out true (by simp)).mono ?_; rintro e w' ⟨rfl, rfl⟩)
    refine HK2.out _ _ ?_
    gi_wp2
    refine HK1.out _ _ ?_
    refine wpIn_seq_k fun K3 hK3 => ?_
    have HK3 := Lib.hid hK3
    clear hK3
    gi_wp2
    refine HK3.out _ _ ?_
    rw [← HV1.out]
    refine wpIn_seq_k fun K4 hK4 => ?_
    have HK4 := Lib.hid hK4
    clear hK4
    refine wpIn_region_of (free_rd l') rfl (fun ⟨_, _, h⟩ => h) ?_
    go_wp2_with (go_at_call 11; refine (over_c HR1.out (by omega)).mono ?_; rintro e V2 ⟨rfl, hg2⟩)
    refine HK4.out _ _ ?_
    have hA : ∀ g, wrote A5 c5 = some g → O' g ∧ w.heap.size ≤ g ∧ g ≠ g10 ∧ g ≠ g11 := fun g e => by
      have hg := HX4.out g e
      rcases Row.wrote_lt HR1.out with h1 | ⟨g', _, h1, hgb, _⟩
      · rw [h1] at e; cases e
      · rw [h1] at e; cases e; exact ⟨hg, by omega, by omega, by omega⟩
    have s2 := HS1.out.over hg2 hA
    have kp2 : Kept O' O' W' V2 := HKP1.out.trans (by
      cases hw : wrote A5 c5 with
      | none => rw [hw] at hg2; exact Kept.grownNone hg2
      | some g => rw [hw] at hg2; exact Kept.grown hg2 (hA g hw).1)
    have k102 : V2.cell? ⟨g10, 0, none⟩ = some (.int .i64 (j : Int)) := by rw [s2.b10.cell]; rfl
    have f102 := s2.b10.frozen 0
    obtain ⟨V3, hV3⟩ : ∃ V3, V3 = V2.setCell ⟨g10, 0, none⟩ (.int .i64 ((j : Int) + 1)) := ⟨_, rfl⟩
    have s3 := s2.set10 hgw10 (by omega)
    rw [← hV3] at s3
    have kp3 : Kept O' O' W' V3 := by rw [hV3]; exact kp2.trans (Kept.setCell ho10 0 _)
    have k103 : V3.cell? ⟨g10, 0, none⟩ = some (.int .i64 ((j : Int) + 1)) := by rw [s3.b10.cell]; rfl
    have k33 : V3.cell? ⟨g3, 0, none⟩ = some (.int .i64 (mm : Int)) := by rw [s3.b3.cell]; rfl
    rw [hV3] at k103 k33
    have HS3 := Lib.hid s3
    have HKP3 := Lib.hid kp3
    have HV3 := Lib.hid hV3
    have hltm := HLT.out
    clear s2 s3 kp2 kp3 hV3 hg2 k10 k11 f11 k8 dl
    by_cases heq : j + 1 = mm
    · have hei : (j : Int) + 1 = (mm : Int) := by omega
      have e9 := HV3.out
      rw [hei] at k103 k33 e9
      have HV9 := Lib.hid e9
      clear e9
      gi_wp2
      rw [← HV9.out]
      exact ⟨HKP3.out.from_ _, rfl, ⟨O', by rw [HX1.out]; exact HS3.out⟩, by rw [HX1.out]; exact heq⟩
    · have hei : ¬ (j : Int) + 1 = (mm : Int) := by omega
      gi_wp2
      rw [← HV3.out]
      exact ⟨O', HKP3.out, by rw [HX1.out]; exact HS3.out, by rw [HX1.out]; omega⟩
  · rintro D O' xs W' hD hxs ⟨sx, hlt⟩ hK
    rw [hxs, ← HLL.out] at sx hlt
    obtain ⟨_, _, _, _, _, _, b3, b4, b8, _, _, b10, _, hbw⟩ := sx
    have hcm1 : (L : Int) < (mm : Int) := by omega
    clear hxs
    have k10 : W'.cell? ⟨g10, 0, none⟩ = some (.int .i64 (L : Int)) := by rw [b10.cell]; rfl
    have k3 : W'.cell? ⟨g3, 0, none⟩ = some (.int .i64 (mm : Int)) := by rw [b3.cell]; rfl
    have k8 : W'.cell? ⟨g8, 0, none⟩ = some (.slice A8 L c8) := by rw [b8.cell]; rfl
    have k4 : W'.cell? ⟨g4, 0, none⟩ = some (.bool false) := by rw [b4.cell]; rfl
    have f4 : W'.frozen? ⟨g4, 0, none⟩ = false := b4.frozen 0
    have hc2 : ((L : Int) == (L : Int)) = true := by simp
    have hrr : ((eaten (rowsOf bs) : Int) == (n0 : Int)) = r := by
      rw [← HR.out]
      exact Bool.eq_iff_iff.2 (by simp; omega)
    obtain ⟨ea, hea⟩ : ∃ ea, ea = eaten (rowsOf bs) := ⟨_, rfl⟩
    rw [← hea] at hrr
    have hr2 : (r == r) = true := by cases r <;> rfl
    have HEA := Lib.hid hea
    have HB4' := Lib.hid b4
    have HBW := Lib.hid hbw
    have HKK := Lib.hid hK
    have hg4w : w.heap.size ≤ g4 := by omega
    have hDg4 : D ≠ g4 := by omega
    subst ha0
    rw [← HEA.out]
    clear b3 b4 b8 b10 hbw hK hea
    go_wp2_with fail
    have hb4' : Blk (W'.setCell ⟨g4, 0, none⟩ (.bool true)) g4 4 #[.bool true] := by simpa using HB4'.out.set_ 0 (.bool true)
    have hD' : (W'.setCell ⟨g4, 0, none⟩ (.bool true)).heap[D]? = some (.deferred (some [])) := (Below.heap_setCell _ _ _ _ hDg4).trans HKK.out
    refine ⟨by simp, .inl ⟨_, _, rfl, run_takeDeferred hD', ?_⟩⟩
    refine ⟨_, res_bool rfl _ g4 4 true Try.underlying4 rfl ((World.putObj_heap_other (Ne.symm hDg4)).trans hb4'), rfl, ?_⟩
    exact (calm_putObj (B := w.heap.size) _ (by omega) hD' rfl).below (HBW.out.setCell (p := ⟨g4, 0, none⟩) hg4w _) (Nat.le_refl _) (Nat.le_refl _)
  · rintro D c pre W' hD hpre ⟨rfl, ⟨O', sx⟩, hpl⟩ hK
    rw [hpl] at sx
    rw [hpl, ← HLL.out] at hpre
    obtain ⟨_, _, _, _, _, _, b3, b4, b8, _, _, b10, _, hbw⟩ := sx
    have hcm1 : ¬ (L : Int) < (mm : Int) := by omega
    clear hpl
    have k10 : W'.cell? ⟨g10, 0, none⟩ = some (.int .i64 (mm : Int)) := by rw [b10.cell]; rfl
    have k3 : W'.cell? ⟨g3, 0, none⟩ = some (.int .i64 (mm : Int)) := by rw [b3.cell]; rfl
    have k8 : W'.cell? ⟨g8, 0, none⟩ = some (.slice A8 L c8) := by rw [b8.cell]; rfl
    have k4 : W'.cell? ⟨g4, 0, none⟩ = some (.bool false) := by rw [b4.cell]; rfl
    have f4 : W'.frozen? ⟨g4, 0, none⟩ = false := b4.frozen 0
    have hc2 : ((mm : Int) == (mm : Int)) = true := by simp
    have hrr : ((eaten (rowsOf bs) : Int) == (n0 : Int)) = r := by
      rw [← HR.out]
      exact Bool.eq_iff_iff.2 (by simp; omega)
    obtain ⟨ea, hea⟩ : ∃ ea, ea = eaten (rowsOf bs) := ⟨_, rfl⟩
    rw [← hea] at hrr
    have hr2 : (r == r) = true := by cases r <;> rfl
    have HEA := Lib.hid hea
    have HB4' := Lib.hid b4
    have HBW := Lib.hid hbw
    have HKK := Lib.hid hK
    have hg4w : w.heap.size ≤ g4 := by omega
    have hDg4 : D ≠ g4 := by omega
    subst ha0
    rw [← HEA.out]
    clear b3 b4 b8 b10 hbw hK hea
    go_wp2_with fail
    have hb4' : Blk (W'.setCell ⟨g4, 0, none⟩ (.bool true)) g4 4 #[.bool true] := by simpa using HB4'.out.set_ 0 (.bool true)
    have hD' : (W'.setCell ⟨g4, 0, none⟩ (.bool true)).heap[D]? = some (.deferred (some [])) := (Below.heap_setCell _ _ _ _ hDg4).trans HKK.out
    refine ⟨by simp, .inl ⟨_, _, rfl, run_takeDeferred hD', ?_⟩⟩
    refine ⟨_, res_bool rfl _ g4 4 true Try.underlying4 rfl ((World.putObj_heap_other (Ne.symm hDg4)).trans hb4'), rfl, ?_⟩
    exact (calm_putObj (B := w.heap.size) _ (by omega) hD' rfl).below (HBW.out.setCell (p := ⟨g4, 0, none⟩) hg4w _) (Nat.le_refl _) (Nat.le_refl _)

theorem walk (A0 : Option Addr) (n0 c0 : Nat) (bs : List UInt8) (a1 : Int) (w : World) (w0 : SlB w w.heap.size A0 n0 c0 bs) (y0 : c0 ≤ 140737488351232) (w1 : (Lit.int .i64 a1).wf = true) :
    Calls Try.prog 3 #[.slice A0 n0 c0, .int .i64 a1] w fun e w' => e = .returned (.bool true) ∧ Below w.heap.size w w' := by
  by_cases hbi : (16384 : Int) < (n0 : Int)
  · exact walk_big A0 n0 c0 bs a1 w w0 y0 w1 hbi
  · exact walk_main A0 n0 c0 bs a1 w w0 y0 w1 hbi
end Go.Proofs.Ytkiiobfomnggcaa.wordsRows
