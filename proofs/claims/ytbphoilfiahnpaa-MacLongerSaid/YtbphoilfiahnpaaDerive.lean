/-
  mac.Derive: a key from a key.
-/
import Derived.Test.YtbphoilfiahnpaaStream
import Derived.Test.YtbphoilfiahnpaaClip
namespace Go.Proofs.Ytbphoilfiahnpaa
open Go.RowKit Go.Shelf
set_option linter.unusedVariables false
set_option linter.unusedSimpArgs false
set_option maxRecDepth 100000
attribute [local go_sem] Oper.semAt_some

/-- The first m blocks of a stream, one behind the other. -/
def streamB (key lab : List UInt8) (m : Nat) : List UInt8 := (List.range m).flatMap fun j => blockOf key lab (j + 1)
theorem streamB_succ (key lab : List UInt8) (m : Nat) : streamB key lab (m + 1) = streamB key lab m ++ blockOf key lab (m + 1) := by simp [streamB, List.range_succ]
theorem len_streamB (key lab : List UInt8) (m : Nat) : (streamB key lab m).length = 32 * m := by
  induction m with
  | zero => rfl
  | succ m ih => rw [streamB_succ, List.length_append, ih, len_blockOf]; omega
/-- What is derived: so many bytes of the stream. -/
def derived (key lab : List UInt8) (n : Nat) : List UInt8 := (streamB key lab 32).take n
theorem streamB_take (key lab : List UInt8) (m k n : Nat) (hm : m ≤ k) (hn : n ≤ 32 * m) : (streamB key lab k).take n = (streamB key lab m).take n := by
  induction k with
  | zero => obtain rfl : m = 0 := by omega
            rfl
  | succ k ih =>
    rcases Nat.lt_or_ge m (k + 1) with h | h
    · rw [streamB_succ, List.take_append_of_le_length (by rw [len_streamB]; omega)]
      exact ih (by omega)
    · obtain rfl : m = k + 1 := by omega
      rfl
theorem derived_of (key lab : List UInt8) (m n : Nat) (h1 : n ≤ 32 * m) (h2 : n ≤ 1024) : (streamB key lab m).take n = derived key lab n := by
  rw [derived]
  rcases Nat.le_total m 32 with h | h
  · exact (streamB_take key lab m 32 n h h1).symm
  · exact streamB_take key lab 32 m n h (by omega)
theorem len_derived (key lab : List UInt8) (n : Nat) (h : n ≤ 1024) : (derived key lab n).length = n := by
  rw [derived, List.length_take, len_streamB]; omega

/-- What stands while the stream runs: k blocks have been laid. -/
structure StD (w : World) (gm gr go m : Nat) (key lab : List UInt8) (O : Nat → Prop) (k : Nat) (W : World) : Prop where
  ownr : O gr
  owno : O go
  nm : ¬ O gm
  bm : Blk W gm 3 #[.int .i64 (m : Int)]
  row : OwB W gr (some ⟨gr, 0, none⟩) (32 * k) (m + 32) (streamB key lab k)
  bo : Blk W go 31 #[.slice (some ⟨gr, 0, none⟩) (32 * k) (m + 32)]
  below : Below w.heap.size w W
section
variable {w : World} {gm gr go m : Nat} {key lab : List UInt8} {O : Nat → Prop} {k : Nat} {W W' : World}
theorem StD.calm {B : Nat} (h : StD w gm gr go m key lab O k W) (hc : Calm B W W') (hB : w.heap.size ≤ B) : StD w gm gr go m key lab O k W' :=
  ⟨h.ownr, h.owno, h.nm, hc.blk h.bm, hc.row h.row, hc.blk h.bo, hc.below h.below hB (Nat.le_refl _)⟩
theorem StD.on (h : StD w gm gr go m key lab O k W) (hb : Below W.heap.size W W') : StD w gm gr go m key lab O k W' :=
  ⟨h.ownr, h.owno, h.nm, h.bm.below hb h.bm.lt, OwB.below h.row hb, h.bo.below hb h.bo.lt, h.below.trans (hb.mono h.below.size)⟩
end

theorem derive_bad {w : World} {A : Option Addr} {n c : Nat} (s : ByteArray) (m : Int) (hm : m < 1 ∨ 1024 < m) :
    Calls Try.prog 47 #[.slice A n c, .string s, .int .i64 m] w fun e w' => e = .returned (.slice none 0 0) ∧ Below w.heap.size w w' := by
  have hb := below_alloc w (.cells #[.int .i64 m] 3)
  by_cases h1 : m < 1
  · have hd : decide (m < 1) = true := decide_eq_true h1
    go_enter Try.func47, Try.ntmps47
    go_wp2_with fail
    go_ret
    exact ⟨rfl, hb⟩
  · have h2 : 1024 < m := by omega
    have hd : decide (m < 1) = false := decide_eq_false h1
    have hd2 : decide (1024 < m) = true := decide_eq_true h2
    go_enter Try.func47, Try.ntmps47
    go_wp2_with fail
    go_ret
    exact ⟨rfl, hb⟩

set_option maxHeartbeats 4000000 in
theorem derive_c {w : World} {B : Nat} {A : Option Addr} {n c : Nat} {key : List UInt8} (hk : SlB w B A n c key) (hB : B ≤ w.heap.size) (hn : n ≤ 1099511627776) (s : ByteArray) (hs : s.size ≤ 1099511620000) (m : Nat) (hm1 : 1 ≤ m) (hm2 : m ≤ 1024) :
    Calls Try.prog 47 #[.slice A n c, .string s, .int .i64 (m : Int)] w fun e w' => ∃ A', e = .returned (.slice A' m m) ∧ OwB w' w.heap.size A' m m (derived key s.data.toList m) ∧ Below w.heap.size w w' := by
  -- the cell of m, the row, its cell
  obtain ⟨gm, hgm⟩ : ∃ g, g = w.heap.size := ⟨_, rfl⟩
  obtain ⟨gr, hgr⟩ : ∃ g, g = w.heap.size + 1 := ⟨_, rfl⟩
  obtain ⟨go, hgo⟩ : ∃ g, g = w.heap.size + 1 + 1 := ⟨_, rfl⟩
  obtain ⟨v1, hv1⟩ : ∃ v1, v1 = ((w.alloc (.cells #[.int .i64 (m : Int)] 3)).alloc (.cells (zeros8 (m + 32)) 5)).alloc (.cells #[.slice (some ⟨w.heap.size + 1, 0, none⟩) 0 (m + 32)] 31) := ⟨_, rfl⟩
  have m1 : Blk v1 gm 3 #[.int .i64 (m : Int)] := by rw [hv1, hgm]; exact ((Blk.new _ _ _).alloc _).alloc _
  have r1 : OwB v1 gr (some ⟨gr, 0, none⟩) 0 (m + 32) [] := by
    have h := (OwB.new (w.alloc (.cells #[.int .i64 (m : Int)] 3)) gr (m + 32) (by rw [hgr]; simp) (by simp only [maxLen]; omega)).alloc (.cells #[.slice (some ⟨w.heap.size + 1, 0, none⟩) 0 (m + 32)] 31)
    rw [World.size_alloc, ← hgr] at h
    rw [hv1, ← hgr]; exact h
  have o1 : Blk v1 go 31 #[.slice (some ⟨gr, 0, none⟩) 0 (m + 32)] := by
    have := Blk.new ((w.alloc (.cells #[.int .i64 (m : Int)] 3)).alloc (.cells (zeros8 (m + 32)) 5)) 31 #[.slice (some ⟨w.heap.size + 1, 0, none⟩) 0 (m + 32)]
    simp only [World.size_alloc] at this
    rw [hv1, hgo, hgr]; exact this
  have hb1 : Below w.heap.size w v1 := by
    rw [hv1]
    exact (((Below.refl _ _).alloc (Nat.le_refl _) _).alloc (by simp) _).alloc (by simp; omega) _
  have hmk := fun W => run_make8 0 (m + 32) 0 ((m : Int) + 32) rfl (by omega) (by omega) (by omega) W
  have hz1 := hb1.size
  have hk1 := hk.below (hb1.mono hB)
  have hmi0 : ¬ (m : Int) < 1 := by omega
  have hmi1 : ¬ (1024 : Int) < (m : Int) := by omega
  have hd : decide ((m : Int) < 1) = false := decide_eq_false hmi0
  have hd2 : decide ((1024 : Int) < (m : Int)) = false := decide_eq_false hmi1
  have hmb : (m : Int) ≤ 1024 := by omega
  have HG1 := Lib.hid hgm
  have HG2 := Lib.hid hgr
  have HG3 := Lib.hid hgo
  have HV := Lib.hid hv1
  have HK := Lib.hid hk1
  have M1 := Lib.hid m1
  have R1 := Lib.hid r1
  have O1 := Lib.hid o1
  have hD : gm < gr ∧ gr < go ∧ w.heap.size ≤ gm := ⟨by omega, by omega, by omega⟩
  clear hgm hgr hgo hv1 hk hk1 m1 r1 o1
  refine calls_of_wp_marks Try.func47 rfl ?_
  simp only [Try.ntmps47, List.size_toArray, List.length_cons, List.length_nil, Nat.reduceAdd, Nat.reduceSub, Array.replicate_succ, Array.replicate_zero, List.push_toArray, List.append_toArray, List.nil_append, List.cons_append]
  go_wp2_with fail
  rw [← HV.out, ← HG3.out, ← HG2.out, ← HG1.out]
  refine (stream_c HK.out (Nat.le_trans hB hz1) (by omega) s).mono ?_
  rintro e v2 ⟨gs, A2, c2, rfl, hlt2, bs2, bl2, _, ho2, hb2⟩
  have hz12 := hb2.size
  have hgl := R1.out.sl
  have hgo1 := O1.out.lt
  have st2 : StD w gm gr go m key s.data.toList (fun k => k = gr ∨ k = go) 0 v2 :=
    ⟨.inl rfl, .inr rfl, by omega, M1.out.below hb2 M1.out.lt, OwB.below R1.out hb2, O1.out.below hb2 O1.out.lt, hb1.trans (hb2.mono hz1)⟩
  have hr2 : ∀ g, wrote A2 c2 = some g → v1.heap.size ≤ g := fun g e => by
    rcases Row.wrote_lt ho2 with h1 | ⟨g', _, h1, hb, _, _⟩
    · rw [h1] at e; cases e
    · rw [h1] at e; cases e
      exact hb
  have hgr2 : gr < v2.heap.size := by omega
  have hgo2 : go < v2.heap.size := by omega
  have hz2 := st2.below.size
  have HBS := Lib.hid bs2
  have HBL := Lib.hid bl2
  have HO2 := Lib.hid ho2
  clear M1 R1 O1 HK bs2 bl2 ho2 hb2 hgl hmk hd hd2
  go_wp2_with fail
  refine wp_range (O := fun k => k = gr ∨ k = go) (a := _) rfl (enters_of Try.func64 (by kernel_rfl) rfl) (stream_iter HBS.out HBL.out HO2.out hn (by omega)) (Below.refl _ _) (fun _ => rfl)
    (fun k hk => ⟨⟨by omega, by omega, fun e => by have := hr2 _ e; omega⟩, by omega⟩)
    (fun O' pre W' => StD w gm gr go m key s.data.toList O' pre.length W' ∧ 32 * pre.length < m)
    (fun c pre W' => c = .exit 0 ∧ (∃ O', StD w gm gr go m key s.data.toList O' pre.length W') ∧ m ≤ 32 * pre.length ∧ 32 * pre.length < m + 32) (fun O' => ownFrom_of fun s X X' hs hc => ⟨hs.1.calm hc hz2, hs.2⟩) (fun c => ownFrom_of fun s X X' hs hc => ⟨hs.1, by obtain ⟨O', h⟩ := hs.2.1; exact ⟨O', h.calm hc hz2⟩, hs.2.2⟩) ⟨st2, by simp; omega⟩
    (fun O' pre x a' W' => (StD w gm gr go m key s.data.toList O' pre.length W' ∧ 32 * pre.length < m) ∧ x = pre.length ∧ x < 4096 ∧
      ∃ gp, Blk W' gp 44 (arr8 (blockOf key s.data.toList (x + 1))) ∧ a' = { tmps := #[Value.slice A n c, Value.string s, Value.int .i64 (m : Int), undef, undef, Value.pointer (some ⟨gm, 0, none⟩), Value.slice none 0 0, Value.pointer (some ⟨go, 0, none⟩), Value.pointer (some ⟨gp, 0, none⟩), Value.int .i64 (m : Int), Value.bool false, Value.bool false, Value.int .i64 (m : Int), Value.bool false, Value.bool false, Value.int .i64 (m : Int), Value.int .i64 ((m : Int) + 32), Value.slice (some ⟨gr, 0, none⟩) 0 (m + 32), Value.slice A n c, Value.string s, Value.func (Fn.func 64) #[] #[Value.pointer (some ⟨gs, 0, none⟩), Value.pointer (some ⟨v1.heap.size, 0, none⟩)], Value.agg (arr8 (blockOf key s.data.toList (x + 1))), undef, undef, undef, undef, undef, undef, undef, undef, undef, undef, undef], defers := [] })
    (fun O' pre x a' => ownFrom_of fun s X X' hs hc => ⟨⟨hs.1.1.calm hc hz2, hs.1.2⟩, hs.2.1, hs.2.2.1, by obtain ⟨gp, h2, h3⟩ := hs.2.2.2; exact ⟨gp, hc.blk h2, h3⟩⟩) ?_ ?_ ?_ ?_
  · rintro l' O' pre x W' K ⟨st, hlt⟩ ⟨hx1, hx2⟩ hK
    have HX1 := Lib.hid hx1
    clear hx1
    refine wpIn_region_of (free_rd l') rfl (fun ⟨_, _, h⟩ => h) ?_
    simp only [fold_one, List.setIfInBounds_toArray, List.set_cons_succ, List.set_cons_zero]
    refine wpList_alloc_agg rfl 44 rfl (arr8 (z8' 32)) zero44 ?_
    refine wpList_store8 rfl 44 (.tmp 8) (.tmp 21) rfl W'.heap.size rfl (blockOf key s.data.toList (x + 1)) rfl agg44 (len_blockOf _ _ _) _ _ (Blk.new _ _ _) (by rw [size_arr8, len_z8']) ?_
    intro W5 hb5 hg5 hs5
    have hbb : Below W'.heap.size W' W5 := ((Below.refl _ _).alloc (Nat.le_refl _) _).grown hg5 (by simp) (fun k hk => by cases hk; exact Nat.le_refl _)
    refine hK O' _ _ (Kept.below hbb) ⟨⟨st.on hbb, hlt⟩, HX1.out, hx2, W'.heap.size, hb5, ?_⟩
    rfl
  · rintro l' O' pre x a' W' ⟨⟨st, hlt⟩, hx1, hx2, gp, hbp, rfl⟩
    rw [← hx1] at st hlt
    have hall := arr_all_run (P := Try.prog) (T := 44) Try.underlying44 size1 (by omega) gp
    have HX1 := Lib.hid hx1
    have HST := Lib.hid st
    clear hx1 st
    gi_wp2
    refine wpIn_region_rel (free_rd l') rfl 2 (fun W W' => Below W.heap.size W W') (fun W => Below W'.heap.size W' W)
      [Det (.slice (some ⟨gr, 0, none⟩) (32 * x) (m + 32)), Det (.slice (some ⟨gp, 0, none⟩) 32 32), Any, Any]
      [[], [], [(0, some 22), (1, some 23)], [(2, some 24)]]
      [[], [], [0, 1], [0, 1, 2]]
      [(0, some 22), (1, some 23), (2, some 24), (3, none)] (by kernel_rfl) (by kernel_rfl) (by kernel_rfl) (fun W W' h1 h2 => h1.trans (h2.mono h1.size)) ((Below.refl _ _).drew) ?_ ?_ ?_
    · exact (AllMono.cons Det.later (AllMono.cons Det.later (AllMono.cons Any.later (AllMono.cons Any.later AllMono.nil))))
    · refine AllOb.cons ?_ (AllOb.cons ?_ (AllOb.nil))
      · intro uF W hC' hU aF hF
        have hC : Below W'.heap.size W' W := hC'
        clear hC'
        simp only [puts] at hF
        subst hF
        have d1 : W.cell? ⟨go, 0, none⟩ = some (.slice (some ⟨gr, 0, none⟩) (32 * x) (m + 32)) := by rw [(HST.out.on hC).bo.cell]; rfl
        go_wp2_with (fail)
        exact ⟨rfl, rfl, (Below.refl _ _), rfl⟩
      · intro uF W hC' hU aF hF
        have hC : Below W'.heap.size W' W := hC'
        clear hC'
        simp only [puts] at hF
        subst hF
        go_wp2_with (fail)
        exact ⟨rfl, rfl, (Below.refl _ _), rfl⟩
    intro uF W5 hC' hU aF hF
    have hCW5 : Below W'.heap.size W' W5 := hC'
    clear hC'
    have h22 : (Det (.slice (some ⟨gr, 0, none⟩) (32 * x) (m + 32))) (uF 0) W5 := hU.1
    have h23 : (Det (.slice (some ⟨gp, 0, none⟩) 32 32)) (uF 1) W5 := hU.2.1
    clear hU
    simp only [List.take_succ_cons, List.take_zero, puts, Act.put, List.setIfInBounds_toArray, List.set_cons_zero, List.set_cons_succ] at hF
    generalize uF 0 = x22 at h22 hF
    generalize uF 1 = x23 at h23 hF
    obtain rfl : x22 = (.slice (some ⟨gr, 0, none⟩) (32 * x) (m + 32)) := h22
    obtain rfl : x23 = (.slice (some ⟨gp, 0, none⟩) 32 32) := h23
    subst hF
    simp only [List.drop_succ_cons, List.drop_zero]
    have st5 := HST.out.on hCW5
    have hbp5 := hbp.below hCW5 hbp.lt
    have hk5 : Kept O' O' W' W5 := Kept.below hCW5
    have sp := sum_sl hbp5 (len_blockOf _ _ _)
    have hgo5 : go ≠ gr := by omega
    have hfit : 32 * x + 32 ≤ m + 32 := by omega
    obtain ⟨L, hL⟩ : ∃ L, L = 32 * (x + 1) := ⟨_, rfl⟩
    refine wpListIn_of (free_rd l') (fun ⟨_, _, h⟩ => h) rfl ?_
    refine wpList_append8 rfl (.tmp 22) (.tmp 23) rfl rfl st5.row rfl sp (by omega) (Nat.le_of_lt (Nat.lt_of_lt_of_le (by omega) (Nat.le_of_lt st5.bo.lt))) L (by omega) ?_
    intro A6 c6 W6 h6 q6
    obtain ⟨rfl, rfl⟩ := q6.stay hfit
    have hg6 : W5.grownBy W6 (some gr) := q6.grown
    have b6 := st5.bo.grown hg6 (by simpa using hgo5)
    have m6 := st5.bm.grown hg6 (by simp; omega)
    have e6 : W6.cell? ⟨go, 0, none⟩ = some (.slice (some ⟨gr, 0, none⟩) (32 * x) (m + 32)) := by rw [b6.cell]; rfl
    have f6 : W6.frozen? ⟨go, 0, none⟩ = false := b6.frozen 0
    have hk6 : Kept O' O' W' W6 := hk5.trans (Kept.grown hg6 st5.ownr)
    have hbw6 : Below w.heap.size w W6 := st5.below.grown hg6 st5.below.size (fun k hk => by cases hk; omega)
    obtain ⟨W7, hW7⟩ : ∃ W7, W7 = W6.setCell ⟨go, 0, none⟩ (.slice (some ⟨gr, 0, none⟩) L (m + 32)) := ⟨_, rfl⟩
    have st7 : StD w gm gr go m key s.data.toList O' (x + 1) W7 := by
      refine ⟨st5.ownr, st5.owno, st5.nm, ?_, ?_, ?_, ?_⟩
      · rw [hW7]; exact m6.far (by show gm ≠ go; omega) _
      · rw [hW7, ← hL, streamB_succ]
        exact Row.keepRow h6 (grownBy_setCell W6 go 0 _) (.inr (by simp [wrote]; omega))
      · rw [hW7, ← hL]; simpa using b6.set_ 0 (.slice (some ⟨gr, 0, none⟩) L (m + 32))
      · rw [hW7]; exact hbw6.setCell (by show w.heap.size ≤ go; omega) _
    have hk7 : Kept O' O' W' W7 := by rw [hW7]; exact hk6.trans (Kept.setCell st5.owno 0 _)
    have d7 : W7.cell? ⟨go, 0, none⟩ = some (.slice (some ⟨gr, 0, none⟩) L (m + 32)) := by rw [st7.bo.cell, hL]; rfl
    have d5 : W7.cell? ⟨gm, 0, none⟩ = some (.int .i64 (m : Int)) := by rw [st7.bm.cell]; rfl
    have HW7 := Lib.hid hW7
    have HS7 := Lib.hid st7
    have HK7 := Lib.hid hk7
    have HL := Lib.hid hL
    have hpl : (pre ++ [x]).length = x + 1 := by rw [List.length_append, List.length_cons, List.length_nil, HX1.out]
    have HPL := Lib.hid hpl
    have hLb : (L : Int) ≤ 2000 := by omega
    clear hL hpl hW7 st7 hk7 hk6 hbw6 m6 b6 h6 q6 hg6 hk5 hbp5 st5 hbp sp hall
    go_wp2_with fail
    rw [← HW7.out]
    clear e6 f6
    by_cases hge : m ≤ L
    · have hgi : (m : Int) ≤ (L : Int) := by omega
      gi_wp2
      exact ⟨HK7.out.from_ _, rfl, ⟨O', by rw [HPL.out]; exact HS7.out⟩, by rw [HPL.out, ← HL.out]; exact hge, by rw [HPL.out, ← HL.out]; have := HL.out; omega⟩
    · have hgi : ¬ (m : Int) ≤ (L : Int) := by omega
      gi_wp2
      exact ⟨O', HK7.out, by rw [HPL.out]; exact HS7.out, by rw [HPL.out, ← HL.out]; omega⟩
  · rintro D O' xs W' hD rfl ⟨st, hlt⟩ hK
    rw [len_upTo] at hlt
    omega
  · rintro D c pre W' hD ⟨k, hk, rfl⟩ ⟨rfl, ⟨O', st⟩, hp1, hp2⟩ hK
    obtain ⟨L, hL⟩ : ∃ L, L = 32 * (upTo (k + 1)).length := ⟨_, rfl⟩
    have d7 : W'.cell? ⟨go, 0, none⟩ = some (.slice (some ⟨gr, 0, none⟩) L (m + 32)) := by rw [st.bo.cell, hL]; rfl
    have d5 : W'.cell? ⟨gm, 0, none⟩ = some (.int .i64 (m : Int)) := by rw [st.bm.cell]; rfl
    have hrun : ∀ W, (Instr.sliceAt 31 (.slice (some ⟨gr, 0, none⟩) L (m + 32)) none (some (.int .i64 (m : Int))) none).run Try.prog W = .ok (.slice (some ⟨gr, 0, none⟩) m (m + 32)) W := fun W => by
      have he : Try.prog.underlying 31 = some (.slice (Try.prog.elem 31)) := by rw [bytes_elem]; exact Try.underlying31
      have hs : (sizeOf (Try.prog.elem 31)).run Try.prog W = .ok 1 W := by rw [bytes_elem]; kernel_rfl
      rw [run_sliceAt_slice W _ _ _ _ _ he, run_slice_h W _ _ L (m + 32) he .i64 (m : Int) (by omega) (by omega), hs]
      simp [Result.andThen, sliced, Addr.add]
    have hrow : OwB W' gr (some ⟨gr, 0, none⟩) m m (derived key s.data.toList m) := by
      have h := OwB.trim st.row (k := m) hp1
      rw [derived_of _ _ _ _ hp1 hm2] at h
      refine ⟨h.1, Nat.le_refl _, by simp only [maxLen]; omega, fun _ => ?_⟩
      obtain ⟨g, cur, e1, h2, h3, h4, h5⟩ := h.2.2.2 (by omega)
      exact ⟨g, cur, e1, h2, h3, Nat.le_trans (Nat.mul_le_mul_right _ (by omega)) h4, h5⟩
    have hrow2 : OwB W' w.heap.size (some ⟨gr, 0, none⟩) m m (derived key s.data.toList m) := Row.base_le hrow (by omega)
    have HST := Lib.hid st
    have HKK := Lib.hid hK
    have hl := Lib.hid hL
    have HR := Lib.hid hrow2
    clear st hK hL hp1 hp2 hrow hrow2 hk
    go_wp2_with (go_at_call 65; refine (clip_c gr m (m + 32) (by omega) (by omega) _ (by omega)).mono ?_; rintro e W3 ⟨rfl, rfl⟩)
    refine ⟨by simp, .inl ⟨_, _, rfl, run_takeDeferred HKK.out, ?_⟩⟩
    have hc := calm_putObj (B := w.heap.size) (.deferred none) (Nat.le_trans hz2 hD) HKK.out rfl
    refine ⟨_, results_tmp rfl _ _ _, ⟨some ⟨gr, 0, none⟩, rfl, ?_, ?_⟩⟩
    · exact hc.row HR.out
    · exact hc.below HST.out.below (Nat.le_refl _) (Nat.le_refl _)
end Go.Proofs.Ytbphoilfiahnpaa

